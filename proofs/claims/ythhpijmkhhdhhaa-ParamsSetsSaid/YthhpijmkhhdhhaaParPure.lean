/- Params, as lists of bytes: plain Lean. -/
import Derived.Test.YthhpijmkhhdhhaaQPure
namespace Go.Proofs.Ythhpijmkhhdhhaa
open Go.RowKit
set_option linter.unusedVariables false
set_option linter.unusedSimpArgs false

/-- The param with which a text begins, and how many bytes it has. -/
def oneL (l : List UInt8) : Option ((List UInt8 × List UInt8) × Nat) :=
  if 0 < takeN bTok l ∧ l[takeN bTok l]? = some 61 then (wordL (l.drop (takeN bTok l + 1))).map fun p => ((l.take (takeN bTok l), p.1), takeN bTok l + 1 + p.2) else none

/-- A semicolon, with blanks around it: how many bytes. -/
def moreL (l : List UInt8) : Option Nat := if l[takeN bBlank l]? = some 59 then some (takeN bBlank l + 1 + takeN bBlank (l.drop (takeN bBlank l + 1))) else none

def parseF : Nat → List UInt8 → Option (List (List UInt8 × List UInt8))
  | 0, _ => none
  | f + 1, l => match oneL l with
    | none => none
    | some (p, n) => if l.drop n = [] then some [p] else match moreL (l.drop n) with
      | none => none
      | some m => (parseF f (l.drop (n + m))).map (p :: ·)

/-- The params of a text. -/
def parseL (l : List UInt8) : Option (List (List UInt8 × List UInt8)) := parseF (l.length + 1) l

theorem oneL_fits {l : List UInt8} {p : List UInt8 × List UInt8} {n : Nat} (h : oneL l = some (p, n)) : 2 ≤ n ∧ n ≤ l.length ∧ p.1.length ≤ n ∧ p.2.length ≤ n := by
  unfold oneL at h
  split at h
  · next h1 =>
    rw [Option.map_eq_some_iff] at h
    obtain ⟨q, hq, h⟩ := h
    injection h with h2 h3
    subst h2 h3
    have := wordL_fits hq
    rw [List.length_drop] at this
    simp only [List.length_take]
    omega
  · cases h

theorem parseF_fuel : ∀ (f g : Nat) (l : List UInt8), l.length < f → l.length < g → parseF f l = parseF g l := by
  intro f
  induction f with
  | zero => intro g l h; omega
  | succ f ih =>
    intro g l hf hg
    cases g with
    | zero => omega
    | succ g =>
      unfold parseF
      split
      · rfl
      · next p n h1 =>
        have h2 := oneL_fits h1
        split
        · rfl
        · split
          · rfl
          · next m hm => rw [ih g (l.drop (n + m)) (by rw [List.length_drop]; omega) (by rw [List.length_drop]; omega)]

theorem parseL_step (l : List UInt8) : parseL l = match oneL l with
    | none => none
    | some (p, n) => if l.drop n = [] then some [p] else match moreL (l.drop n) with
      | none => none
      | some m => (parseL (l.drop (n + m))).map (p :: ·) := by
  unfold parseL
  rw [show parseF (l.length + 1) l = match oneL l with
    | none => none
    | some (p, n) => if l.drop n = [] then some [p] else match moreL (l.drop n) with
      | none => none
      | some m => (parseF l.length (l.drop (n + m))).map (p :: ·) from rfl]
  split
  · rfl
  · next p n h1 =>
    have h2 := oneL_fits h1
    split
    · rfl
    · split
      · rfl
      · next m hm => rw [parseF_fuel l.length ((l.drop (n + m)).length + 1) (l.drop (n + m)) (by rw [List.length_drop]; omega) (by omega)]

/-- A param's own text. -/
def itemL (p : List UInt8 × List UInt8) : Option (List UInt8) := if tokenL p.1 = true then (eitherL p.2).map fun v => p.1 ++ 61 :: v else none

def itemsL : List (List UInt8 × List UInt8) → Option (List (List UInt8))
  | [] => some []
  | p :: r => match itemL p with
    | none => none
    | some x => (itemsL r).map (x :: ·)

def joinL : List (List UInt8) → List UInt8
  | [] => []
  | [x] => x
  | x :: y :: r => x ++ 59 :: joinL (y :: r)

/-- A row's text. -/
def textL (ps : List (List UInt8 × List UInt8)) : Option (List UInt8) := if ps = [] then none else (itemsL ps).map joinL

theorem takeN_tok (t r : List UInt8) (h : tokenL t = true) (hr : r = [] ∨ ∃ c q, r = c :: q ∧ bTok (c.toNat : Int) = false) : takeN bTok (t ++ r) = t.length ∧ 0 < t.length := by
  unfold tokenL at h
  rw [Bool.and_eq_true] at h
  have hl : 0 < t.length := by cases t with | nil => simp at h | cons a b => simp
  refine ⟨?_, hl⟩
  rcases hr with rfl | ⟨c, q, rfl, hc⟩
  · rw [List.append_nil, takeN_all h.2]
  · exact takeN_stop t c q h.2 hc

theorem oneL_item (p : List UInt8 × List UInt8) (x r : List UInt8) (h : itemL p = some x) (hr : r = [] ∨ ∃ c q, r = c :: q ∧ bTok (c.toNat : Int) = false) : oneL (x ++ r) = some (p, x.length) := by
  unfold itemL at h
  split at h
  · next ht =>
    rw [Option.map_eq_some_iff] at h
    obtain ⟨v, hv, rfl⟩ := h
    rw [List.append_assoc, List.cons_append]
    obtain ⟨e, hl⟩ := takeN_tok p.1 (61 :: (v ++ r)) ht (.inr ⟨61, v ++ r, rfl, by decide⟩)
    unfold oneL
    rw [e]
    have h1 : (p.1 ++ 61 :: (v ++ r))[p.1.length]? = some 61 := by rw [List.getElem?_append_right (Nat.le_refl _), Nat.sub_self]; rfl
    have h2 : (p.1 ++ 61 :: (v ++ r)).drop (p.1.length + 1) = v ++ r := by
      rw [List.drop_append, List.drop_of_length_le (by omega), Nat.add_sub_cancel_left]; rfl
    rw [if_pos ⟨hl, h1⟩, h2, wordL_either p.2 v r hv hr, List.take_append_of_le_length (Nat.le_refl _), List.take_length]
    simp; omega
  · cases h

theorem itemL_head {p : List UInt8 × List UInt8} {x : List UInt8} (h : itemL p = some x) : ∃ c q, x = c :: q ∧ bTok (c.toNat : Int) = true := by
  unfold itemL at h
  split at h
  · next ht =>
    rw [Option.map_eq_some_iff] at h
    obtain ⟨v, hv, rfl⟩ := h
    unfold tokenL at ht
    rw [Bool.and_eq_true] at ht
    cases hp : p.1 with
    | nil => rw [hp] at ht; simp at ht
    | cons c q =>
      rw [hp, allB_cons, Bool.and_eq_true] at ht
      exact ⟨c, q ++ 61 :: v, rfl, ht.2.1⟩
  · cases h

theorem tok_not_blank : ∀ n : Int, bTok n = true → bBlank n = false := by
  intro n h
  by_cases h1 : n = 32
  · subst h1; revert h; decide
  · by_cases h2 : n = 9
    · subst h2; revert h; decide
    · unfold bBlank; simp [h1, h2]

theorem moreL_item (x r : List UInt8) (h : ∃ c q, x = c :: q ∧ bTok (c.toNat : Int) = true) : moreL (59 :: (x ++ r)) = some 1 := by
  obtain ⟨c, q, rfl, hc⟩ := h
  have e : takeN bBlank (59 :: (c :: q ++ r)) = 0 := rfl
  have e2 : takeN bBlank (c :: q ++ r) = 0 := by
    unfold takeN
    rw [List.cons_append, List.takeWhile_cons_of_neg (by simp [tok_not_blank _ hc])]
    rfl
  unfold moreL
  rw [e]
  simp only [List.getElem?_cons_zero, List.drop_succ_cons, List.drop_zero, Nat.zero_add]
  rw [e2]
  simp

theorem parseL_join : ∀ (ps : List (List UInt8 × List UInt8)) (xs : List (List UInt8)), itemsL ps = some xs → ps ≠ [] → parseL (joinL xs) = some ps := by
  intro ps
  induction ps with
  | nil => intro xs h hn; exact absurd rfl hn
  | cons p r ih =>
    intro xs h _
    unfold itemsL at h
    split at h
    · cases h
    · next x hx =>
      rw [Option.map_eq_some_iff] at h
      obtain ⟨ys, hy, rfl⟩ := h
      cases r with
      | nil =>
        unfold itemsL at hy
        injection hy with hy
        subst hy
        have h1 := oneL_item p x [] hx (.inl rfl)
        rw [List.append_nil] at h1
        show parseL x = _
        rw [parseL_step, h1]
        simp
      | cons p2 r2 =>
        have hy' := hy
        unfold itemsL at hy
        split at hy
        · cases hy
        · next y2 hy2 =>
          rw [Option.map_eq_some_iff] at hy
          obtain ⟨zs, hz, rfl⟩ := hy
          have ihx := ih _ hy' (by simp)
          have hsh : ∃ t, joinL (y2 :: zs) = y2 ++ t := by
            cases zs with
            | nil => exact ⟨[], by simp [joinL]⟩
            | cons a b => exact ⟨_, rfl⟩
          obtain ⟨t, ht⟩ := hsh
          show parseL (x ++ 59 :: joinL (y2 :: zs)) = _
          rw [parseL_step, oneL_item p x _ hx (.inr ⟨59, _, rfl, by decide⟩)]
          have hd : (x ++ 59 :: joinL (y2 :: zs)).drop x.length = 59 :: joinL (y2 :: zs) := by rw [List.drop_left]
          have hd2 : (x ++ 59 :: joinL (y2 :: zs)).drop (x.length + 1) = joinL (y2 :: zs) := by rw [← List.drop_drop, hd]; rfl
          have hm : moreL (59 :: joinL (y2 :: zs)) = some 1 := by rw [ht]; exact moreL_item y2 t (itemL_head hy2)
          simp only [hd, hm, hd2, ihx]
          simp

theorem parse_text {ps : List (List UInt8 × List UInt8)} {t : List UInt8} (h : textL ps = some t) : parseL t = some ps := by
  unfold textL at h
  split at h
  · cases h
  · next hn =>
    rw [Option.map_eq_some_iff] at h
    obtain ⟨xs, hx, rfl⟩ := h
    exact parseL_join ps xs hx hn

/-! What was read may be written. -/
theorem bodyL_value : ∀ (n : Nat) (l : List UInt8) (p : List UInt8 × Nat), l.length ≤ n → bodyL l = some p → allB bValue p.1 = true := by
  intro n
  induction n with
  | zero => intro l p hl h; obtain rfl : l = [] := List.length_eq_zero_iff.1 (by omega); cases h
  | succ n ih =>
    intro l p hl h
    cases l with
    | nil => cases h
    | cons a q =>
      by_cases ha : a = 34
      · subst ha; rw [bodyL_quote] at h; injection h with h; subst h; rfl
      · rw [bodyL_step a q ha] at h
        split at h
        · next x m hm =>
          have hx : bValue (x.toNat : Int) = true := by
            unfold nextL at hm
            simp only at hm
            split at hm
            · split at hm
              · cases hm
              · split at hm
                · next h3 => injection hm with hm; injection hm with h1 h2; subst h1; exact h3
                · cases hm
            · split at hm
              · next h3 => injection hm with hm; injection hm with h1 h2; subst h1; exact h3
              · cases hm
          obtain ⟨m0, _, _⟩ := nextL_pos hm
          rw [Option.map_eq_some_iff] at h
          obtain ⟨p', h1, rfl⟩ := h
          have := ih _ p' (by rw [List.length_drop]; simp at hl ⊢; omega) h1
          rw [allB_cons, hx, this]; rfl
        · cases h

theorem allB_take {q : Int → Bool} (l : List UInt8) : allB q (l.take (takeN q l)) = true := by
  unfold takeN allB
  rw [List.all_eq_true]
  intro x hx
  have h : l.take (l.takeWhile fun x => q (x.toNat : Int)).length = l.takeWhile fun x => q (x.toNat : Int) := by
    have h1 := List.takeWhile_prefix (l := l) (fun x : UInt8 => q (x.toNat : Int))
    exact (List.prefix_iff_eq_take.1 h1).symm
  rw [h] at hx
  have h3 : (l.takeWhile fun x : UInt8 => q (x.toNat : Int)).all (fun x : UInt8 => q (x.toNat : Int)) = true := List.all_takeWhile
  exact List.all_eq_true.1 h3 x hx

theorem tokenL_take (l : List UInt8) (h : 0 < takeN bTok l) : tokenL (l.take (takeN bTok l)) = true := by
  unfold tokenL
  rw [allB_take, Bool.and_true]
  have := takeN_le bTok l
  cases hl : l.take (takeN bTok l) with
  | nil => have h2 := congrArg List.length hl; rw [List.length_take, List.length_nil] at h2; omega
  | cons a b => rfl

theorem wordL_either_some {l : List UInt8} {p : List UInt8 × Nat} (h : wordL l = some p) : ∃ x, eitherL p.1 = some x := by
  unfold wordL at h
  split at h
  · next h0 =>
    injection h with h; subst h
    exact ⟨_, by unfold eitherL; rw [if_pos (tokenL_take l h0)]⟩
  · have hv : allB bValue p.1 = true := by
      unfold frontL at h
      split at h
      · cases h
      · split at h
        · rw [Option.map_eq_some_iff] at h
          obtain ⟨q, h1, rfl⟩ := h
          exact bodyL_value _ _ q (Nat.le_refl _) h1
        · cases h
    unfold eitherL
    by_cases ht : tokenL p.1 = true
    · exact ⟨_, by rw [if_pos ht]⟩
    · exact ⟨_, by rw [if_neg ht, if_pos hv]⟩

theorem oneL_item_some {l : List UInt8} {p : List UInt8 × List UInt8} {n : Nat} (h : oneL l = some (p, n)) : ∃ x, itemL p = some x := by
  unfold oneL at h
  split at h
  · next h1 =>
    rw [Option.map_eq_some_iff] at h
    obtain ⟨q, hq, h⟩ := h
    injection h with h2 h3
    subst h2
    obtain ⟨x, hx⟩ := wordL_either_some hq
    exact ⟨_, by unfold itemL; rw [if_pos (tokenL_take l h1.1), hx]; rfl⟩
  · cases h

theorem parseF_items : ∀ (f : Nat) (l : List UInt8) (ps : List (List UInt8 × List UInt8)), parseF f l = some ps → ps ≠ [] ∧ ∃ xs, itemsL ps = some xs := by
  intro f
  induction f with
  | zero => intro l ps h; cases h
  | succ f ih =>
    intro l ps h
    unfold parseF at h
    split at h
    · cases h
    · next p n h1 =>
      obtain ⟨x, hx⟩ := oneL_item_some h1
      split at h
      · injection h with h; subst h
        exact ⟨by simp, [x], by simp [itemsL, hx]⟩
      · split at h
        · cases h
        · rw [Option.map_eq_some_iff] at h
          obtain ⟨qs, h2, rfl⟩ := h
          obtain ⟨_, xs, hxs⟩ := ih _ _ h2
          exact ⟨by simp, x :: xs, by simp [itemsL, hx, hxs]⟩

theorem text_parse {l : List UInt8} {ps : List (List UInt8 × List UInt8)} (h : parseL l = some ps) : ∃ t, textL ps = some t := by
  obtain ⟨hn, xs, hx⟩ := parseF_items _ _ _ h
  exact ⟨joinL xs, by unfold textL; rw [if_neg hn, hx]; rfl⟩

end Go.Proofs.Ythhpijmkhhdhhaa
