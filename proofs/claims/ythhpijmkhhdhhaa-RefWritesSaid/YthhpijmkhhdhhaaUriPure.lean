/- References to places: plain laws: taken apart from the front and from the end are the same. -/
import Derived.Test.YthhpijmkhhdhhaaParts
import Derived.Test.YthhpijmkhhdhhaaPct
namespace Go.Proofs.Ythhpijmkhhdhhaa
open Go.RowKit
set_option linter.unusedVariables false
set_option linter.unusedSimpArgs false

/-- The place of the first byte that is one of some. -/
def firstN (m l : List UInt8) : Nat := (l.takeWhile (fun x => !m.contains x)).length
theorem firstN_nil (m : List UInt8) : firstN m [] = 0 := rfl
theorem firstN_cons (m : List UInt8) (x : UInt8) (r : List UInt8) : firstN m (x :: r) = if m.contains x then 0 else firstN m r + 1 := by
  unfold firstN
  by_cases h : m.contains x = true
  · rw [if_pos h, List.takeWhile_cons_of_neg (by rw [h]; simp)]; rfl
  · rw [if_neg h, List.takeWhile_cons_of_pos (by simpa using h)]; rfl
theorem firstN_le (m l : List UInt8) : firstN m l ≤ l.length := (List.takeWhile_prefix _).length_le
theorem firstN_take (m : List UInt8) : ∀ (l : List UInt8), ∀ x ∈ l.take (firstN m l), m.contains x = false
  | [], x, h => by simp at h
  | y :: r, x, h => by
    rw [firstN_cons] at h
    by_cases hy : m.contains y = true
    · rw [if_pos hy] at h; simp at h
    · rw [if_neg hy, List.take_succ_cons] at h
      rcases List.mem_cons.1 h with rfl | h
      · simpa using hy
      · exact firstN_take m r x h
theorem firstN_get (m : List UInt8) : ∀ (l : List UInt8), firstN m l < l.length → ∃ x r, l = l.take (firstN m l) ++ x :: r ∧ m.contains x = true ∧ l.drop (firstN m l) = x :: r
  | [], h => by simp [firstN] at h
  | y :: r, h => by
    rw [firstN_cons] at h ⊢
    by_cases hy : m.contains y = true
    · rw [if_pos hy]; exact ⟨y, r, rfl, hy, rfl⟩
    · rw [if_neg hy] at h ⊢
      obtain ⟨x, q, h1, h2, h3⟩ := firstN_get m r (by simp at h; omega)
      refine ⟨x, q, ?_, h2, by rw [List.drop_succ_cons]; exact h3⟩
      rw [List.take_succ_cons, List.cons_append, ← h1]
theorem firstN_hit (m A : List UInt8) (x : UInt8) (r : List UInt8) (h : ∀ y ∈ A, m.contains y = false) (hx : m.contains x = true) : firstN m (A ++ x :: r) = A.length := by
  unfold firstN
  rw [List.takeWhile_append_of_pos (by intro y hy; rw [h y hy]; rfl), List.takeWhile_cons_of_neg (by rw [hx]; simp)]
  simp
theorem firstN_none (m A : List UInt8) (h : ∀ y ∈ A, m.contains y = false) : firstN m A = A.length := by
  unfold firstN
  have := List.takeWhile_append_of_pos (p := fun x => !m.contains x) (l₁ := A) (l₂ := []) (by intro y hy; rw [h y hy]; rfl)
  simp only [List.append_nil, List.takeWhile_nil] at this
  rw [this]
/-- A tail that is empty or begins with one of them does not matter. -/
theorem firstN_app (m m' Y T : List UInt8) (hY : ∀ y ∈ Y, m'.contains y = m.contains y) (hT : T = [] ∨ ∃ x r, T = x :: r ∧ m'.contains x = true) : firstN m' (Y ++ T) = firstN m Y := by
  induction Y with
  | nil =>
    rcases hT with rfl | ⟨x, r, rfl, hx⟩
    · rfl
    · rw [List.nil_append, firstN_cons, if_pos hx]; rfl
  | cons y Y ih =>
    rw [List.cons_append, firstN_cons, firstN_cons, hY y (List.mem_cons_self ..), ih (fun z hz => hY z (List.mem_cons_of_mem _ hz))]

def uptoL (m l : List UInt8) : List UInt8 × List UInt8 := (l.take (firstN m l), l.drop (firstN m l))

def schQ (n : Int) : Bool := bAlpha n || bDigit n || bOne n [43, 45, 46]
def schemeL (l : List UInt8) : Bool := match l with
  | [] => false
  | c :: r => bAlpha (c.toNat : Int) && allB schQ (c :: r)
theorem schQ_58 : schQ 58 = false := by decide +kernel
theorem schQ_47 : schQ 47 = false := by decide +kernel
theorem schQ_63 : schQ 63 = false := by decide +kernel
theorem schQ_35 : schQ 35 = false := by decide +kernel
theorem schemeL_mem {l : List UInt8} (h : schemeL l = true) : ∀ x ∈ l, schQ (x.toNat : Int) = true := by
  cases l with
  | nil => intro x hx; simp at hx
  | cons c r =>
    simp only [schemeL, Bool.and_eq_true] at h
    exact List.all_eq_true.1 h.2
theorem schemeL_no {l : List UInt8} (h : schemeL l = true) (b : UInt8) (hb : schQ (b.toNat : Int) = false) : ∀ x ∈ l, x ≠ b := by
  intro x hx e
  subst e
  have := schemeL_mem h x hx
  rw [hb] at this; cases this
theorem schemeL_pos {l : List UInt8} (h : schemeL l = true) : 0 < l.length := by cases l with
  | nil => simp [schemeL] at h
  | cons c r => simp

/-- A reference's parts. -/
structure RefV where
  scheme : List UInt8
  auth : List UInt8
  path : List UInt8
  query : List UInt8
  frag : List UInt8
  hasAuth : Bool
  hasQuery : Bool
  hasFrag : Bool

/-- The front of a text: its scheme, and what is behind. -/
def schP (l : List UInt8) : List UInt8 × List UInt8 :=
  if decide (0 < markN 58 l) && decide (markN 58 l < l.length) && schemeL (l.take (markN 58 l)) then (l.take (markN 58 l), l.drop (markN 58 l + 1)) else ([], l)
def authP (m l : List UInt8) : Bool × List UInt8 × List UInt8 :=
  if Lib.hasPrefix l [47, 47] then (true, (l.drop 2).take (firstN m (l.drop 2)), (l.drop 2).drop (firstN m (l.drop 2))) else (false, [], l)
def queryP (l : List UInt8) : Bool × List UInt8 × List UInt8 :=
  if Lib.hasPrefix l [63] then (true, (l.drop 1).take (firstN [35] (l.drop 1)), (l.drop 1).drop (firstN [35] (l.drop 1))) else (false, [], l)
/-- The program's parts. -/
def partsP (l : List UInt8) : RefV :=
  let a := schP l
  let b := authP [47, 63, 35] a.2
  let p := uptoL [63, 35] b.2.2
  let q := queryP p.2
  { scheme := a.1, auth := b.2.1, path := p.1, query := q.2.1, frag := q.2.2.drop 1, hasAuth := b.1, hasQuery := q.1, hasFrag := !q.2.2.isEmpty }

def schR (l : List UInt8) : List UInt8 × List UInt8 :=
  if decide (firstN [58, 47] l < l.length) && (l.drop (firstN [58, 47] l)).head? == some 58 && schemeL (l.take (firstN [58, 47] l)) then (l.take (firstN [58, 47] l), l.drop (firstN [58, 47] l + 1)) else ([], l)
/-- The reference's parts. -/
def partsR (l : List UInt8) : RefV :=
  let h := firstN [35] l
  let l1 := l.take h
  let q := firstN [63] l1
  let l2 := l1.take q
  let a := schR l2
  let b := authP [47] a.2
  { scheme := a.1, auth := b.2.1, path := b.2.2, query := l1.drop (q + 1), frag := l.drop (h + 1), hasAuth := b.1, hasQuery := decide (q < l1.length), hasFrag := decide (h < l.length) }

/-- What stands behind a path. -/
def tailT (hq : Bool) (Q : List UInt8) (hf : Bool) (F : List UInt8) : List UInt8 := (if hq then 63 :: Q else []) ++ (if hf then 35 :: F else [])

theorem text_split (l : List UInt8) : ∃ X hq Q hf F, l = X ++ tailT hq Q hf F ∧ (∀ x ∈ X, x ≠ 63 ∧ x ≠ 35) ∧ (∀ x ∈ Q, x ≠ 35) ∧ (hq = false → Q = []) ∧ (hf = false → F = []) := by
  obtain ⟨l1, hf, F, e1, h1, h1f⟩ : ∃ l1 hf F, l = l1 ++ (if hf then 35 :: F else []) ∧ (∀ x ∈ l1, x ≠ 35) ∧ (hf = false → F = []) := by
    by_cases h : firstN [35] l < l.length
    · obtain ⟨x, r, e, hx, _⟩ := firstN_get _ _ h
      have hx' : x = 35 := by simpa using hx
      subst hx'
      exact ⟨_, true, r, e, fun y hy => by simpa using firstN_take [35] l y hy, by simp⟩
    · have e : l.take (firstN [35] l) = l := List.take_of_length_le (by omega)
      have := firstN_take [35] l
      rw [e] at this
      exact ⟨l, false, [], by simp, fun y hy => by simpa using this y hy, fun _ => rfl⟩
  by_cases h : firstN [63] l1 < l1.length
  · obtain ⟨x, r, e, hx, _⟩ := firstN_get _ _ h
    have hx' : x = 63 := by simpa using hx
    subst hx'
    refine ⟨_, true, r, hf, F, ?_, fun y hy => ⟨by simpa using firstN_take [63] l1 y hy, h1 y (List.mem_of_mem_take hy)⟩, fun y hy => h1 y (by rw [e]; simp [hy]), by simp, h1f⟩
    rw [e1]
    conv => lhs; rw [e]
    simp [tailT]
  · have e : l1.take (firstN [63] l1) = l1 := List.take_of_length_le (by omega)
    have := firstN_take [63] l1
    rw [e] at this
    exact ⟨l1, false, [], hf, F, by rw [e1]; simp [tailT], fun y hy => ⟨by simpa using this y hy, h1 y hy⟩, by simp, fun _ => rfl, h1f⟩

theorem tail_head (hq : Bool) (Q : List UInt8) (hf : Bool) (F : List UInt8) (m : List UInt8) (h63 : m.contains 63 = true) (h35 : m.contains 35 = true) : tailT hq Q hf F = [] ∨ ∃ x r, tailT hq Q hf F = x :: r ∧ m.contains x = true := by
  unfold tailT
  cases hq with
  | true => exact .inr ⟨63, _, rfl, h63⟩
  | false =>
    cases hf with
    | true => exact .inr ⟨35, _, rfl, h35⟩
    | false => exact .inl rfl

theorem take_app {A B : List UInt8} {n : Nat} (h : n ≤ A.length) : (A ++ B).take n = A.take n := by rw [List.take_append_of_le_length h]
theorem drop_app {A B : List UInt8} {n : Nat} (h : n ≤ A.length) : (A ++ B).drop n = A.drop n ++ B := by rw [List.drop_append_of_le_length h]

/-- The scheme, from the front of all or of what is ahead of a tail. -/
theorem schP_R (X T : List UInt8) (hX : ∀ x ∈ X, x ≠ 63 ∧ x ≠ 35) (hT : T = [] ∨ ∃ x r, T = x :: r ∧ (x = 63 ∨ x = 35)) : schP (X ++ T) = ((schR X).1, (schR X).2 ++ T) := by
  by_cases hr : (decide (firstN [58, 47] X < X.length) && (X.drop (firstN [58, 47] X)).head? == some 58 && schemeL (X.take (firstN [58, 47] X))) = true
  · have hr' := hr
    simp only [Bool.and_eq_true, decide_eq_true_eq] at hr'
    obtain ⟨⟨h1, h2⟩, h3⟩ := hr'
    obtain ⟨x, r, e, hx, hd⟩ := firstN_get _ _ h1
    have hx58 : x = 58 := by rw [hd] at h2; simpa using h2
    subst hx58
    obtain ⟨c, hc⟩ : ∃ c, firstN [58, 47] X = c := ⟨_, rfl⟩
    have hm : markN 58 (X ++ T) = c := by
      rw [e, List.append_assoc, List.cons_append, markN_hit _ _ (schemeL_no h3 58 schQ_58), List.length_take, hc]
      omega
    have hpos := schemeL_pos h3
    rw [hc] at h1 h3 hpos
    have hcl : c ≤ X.length := by omega
    have hc0 : 0 < c := by rw [List.length_take] at hpos; omega
    unfold schP schR
    rw [if_pos hr, hm, hc, take_app hcl, drop_app (show c + 1 ≤ X.length by omega)]
    rw [if_pos (by
      simp only [Bool.and_eq_true, decide_eq_true_eq]
      exact ⟨⟨hc0, by rw [List.length_append]; omega⟩, h3⟩)]
  · have hn : ¬ (decide (0 < markN 58 (X ++ T)) && decide (markN 58 (X ++ T) < (X ++ T).length) && schemeL ((X ++ T).take (markN 58 (X ++ T)))) = true := by
      intro hp
      apply hr
      simp only [Bool.and_eq_true, decide_eq_true_eq] at hp
      obtain ⟨⟨p0, p1⟩, p2⟩ := hp
      obtain ⟨i, hi⟩ : ∃ i, markN 58 (X ++ T) = i := ⟨_, rfl⟩
      have hat := markN_at p1
      rw [hi] at p0 p1 p2 hat
      have hiX : i < X.length := by
        rcases Nat.lt_or_ge i X.length with h | h
        · exact h
        · exfalso
          rcases hT with rfl | ⟨x, r, rfl, hx⟩
          · rw [List.append_nil] at p1; omega
          · by_cases hie : i = X.length
            · rw [hie] at hat
              have : (X ++ x :: r)[X.length]? = some 58 := by
                rw [hat, List.getElem?_append_right (by simp)]
                simp
              rw [List.getElem?_append_right (Nat.le_refl _)] at this
              simp at this
              subst this
              rcases hx with h | h <;> exact absurd h (by decide)
            · have hmem : x ∈ (X ++ x :: r).take i := by
                rw [List.take_append, List.mem_append]
                right
                have : 0 < i - X.length := by omega
                cases hk : i - X.length with
                | zero => omega
                | succ k => simp
              have := schemeL_mem p2 x hmem
              rcases hx with rfl | rfl
              · rw [show ((63 : UInt8).toNat : Int) = 63 from rfl, schQ_63] at this; cases this
              · rw [show ((35 : UInt8).toNat : Int) = 35 from rfl, schQ_35] at this; cases this
      rw [take_app (by omega)] at p2
      have hXe : X = X.take i ++ 58 :: X.drop (i + 1) := by
        have h1 : X[i]? = some 58 := by
          have h2 : (X ++ T)[i]? = some 58 := by
            rw [hat, List.getElem?_append_right (by rw [List.length_take]; omega), List.length_take]
            have : i - min i (X ++ T).length = 0 := by omega
            rw [this]; rfl
          rw [List.getElem?_append_left hiX] at h2
          exact h2
        obtain ⟨hlt, h1⟩ := List.getElem?_eq_some_iff.1 h1
        conv => lhs; rw [← List.take_append_drop i X, List.drop_eq_getElem_cons hlt, h1]
      have hno : ∀ y ∈ X.take i, ([58, 47] : List UInt8).contains y = false := by
        intro y hy
        have h1 := schemeL_no p2 58 schQ_58 y hy
        have h2 := schemeL_no p2 47 schQ_47 y hy
        simp [h1, h2]
      have hf : firstN [58, 47] X = i := by
        rw [hXe, firstN_hit _ _ _ _ hno (by decide), List.length_take]; omega
      rw [hf]
      simp only [Bool.and_eq_true, decide_eq_true_eq]
      refine ⟨⟨hiX, ?_⟩, p2⟩
      rw [hXe, List.drop_left' (by rw [List.length_take]; omega)]
      rfl
    unfold schP schR
    rw [if_neg hr, if_neg hn]

theorem schR_mem {X : List UInt8} {y : UInt8} (h : y ∈ (schR X).2) : y ∈ X := by
  unfold schR at h
  split at h
  · exact List.mem_of_mem_drop h
  · exact h

theorem prefix_tail (Y T : List UInt8) (hT : T = [] ∨ ∃ x r, T = x :: r ∧ (x = 63 ∨ x = 35)) : Lib.hasPrefix (Y ++ T) [47, 47] = Lib.hasPrefix Y [47, 47] := by
  unfold Lib.hasPrefix
  match Y with
  | [] =>
    rcases hT with rfl | ⟨x, r, rfl, hx⟩
    · rfl
    · rcases hx with rfl | rfl <;> rfl
  | [a] =>
    rcases hT with rfl | ⟨x, r, rfl, hx⟩
    · rfl
    · rcases hx with rfl | rfl <;> simp [List.isPrefixOf]
  | a :: b :: Y => simp [List.isPrefixOf]
theorem hasPrefix_two {Y : List UInt8} (h : Lib.hasPrefix Y [47, 47] = true) : ∃ r, Y = 47 :: 47 :: r := by
  unfold Lib.hasPrefix at h
  obtain ⟨r, e⟩ := List.isPrefixOf_iff_prefix.1 h
  exact ⟨r, e.symm⟩

theorem authP_tail (Y T : List UInt8) (hY : ∀ x ∈ Y, x ≠ 63 ∧ x ≠ 35) (hT : T = [] ∨ ∃ x r, T = x :: r ∧ (x = 63 ∨ x = 35)) :
    authP [47, 63, 35] (Y ++ T) = ((authP [47] Y).1, (authP [47] Y).2.1, (authP [47] Y).2.2 ++ T) := by
  unfold authP
  rw [prefix_tail Y T hT]
  by_cases h : Lib.hasPrefix Y [47, 47] = true
  · rw [if_pos h, if_pos h]
    obtain ⟨r, rfl⟩ := hasPrefix_two h
    have hf : firstN [47, 63, 35] (r ++ T) = firstN [47] r := firstN_app _ _ _ _ (by
      intro y hy
      have := hY y (by simp [hy])
      simp [this.1, this.2]) (by
      rcases hT with h | ⟨x, q, e, hx⟩
      · exact .inl h
      · exact .inr ⟨x, q, e, by rcases hx with rfl | rfl <;> decide⟩)
    show (true, (r ++ T).take (firstN [47, 63, 35] (r ++ T)), (r ++ T).drop (firstN [47, 63, 35] (r ++ T))) = (true, r.take (firstN [47] r), r.drop (firstN [47] r) ++ T)
    rw [hf, take_app (firstN_le _ _), drop_app (firstN_le _ _)]
  · rw [if_neg h, if_neg h]

theorem authP_mem {m Y : List UInt8} {y : UInt8} (h : y ∈ (authP m Y).2.2) : y ∈ Y := by
  unfold authP at h
  split at h
  · exact List.mem_of_mem_drop (List.mem_of_mem_drop h)
  · exact h

theorem parts_core (X : List UInt8) (hq : Bool) (Q : List UInt8) (hf : Bool) (F : List UInt8) (hX : ∀ x ∈ X, x ≠ 63 ∧ x ≠ 35) (hQ : ∀ x ∈ Q, x ≠ 35) (hq0 : hq = false → Q = []) (hf0 : hf = false → F = []) :
    partsR (X ++ tailT hq Q hf F) = { scheme := (schR X).1, auth := (authP [47] (schR X).2).2.1, path := (authP [47] (schR X).2).2.2, query := Q, frag := F, hasAuth := (authP [47] (schR X).2).1, hasQuery := hq, hasFrag := hf } := by
  have e1 : X ++ tailT hq Q hf F = (X ++ (if hq then 63 :: Q else [])) ++ (if hf then 35 :: F else []) := by unfold tailT; rw [List.append_assoc]
  have hno : ∀ y ∈ X ++ (if hq then 63 :: Q else []), ([35] : List UInt8).contains y = false := by
    intro y hy
    rcases List.mem_append.1 hy with h | h
    · simp [(hX y h).2]
    · cases hq with
      | false => simp at h
      | true =>
        rcases List.mem_cons.1 h with rfl | h
        · decide
        · simp [hQ y h]
  have hh : firstN [35] (X ++ tailT hq Q hf F) = (X ++ (if hq then 63 :: Q else [])).length := by
    rw [e1]
    cases hf with
    | true => exact firstN_hit _ _ _ _ hno (by decide)
    | false => rw [show (if false = true then 35 :: F else []) = ([] : List UInt8) from rfl, List.append_nil]; exact firstN_none _ _ hno
  have hl1 : (X ++ tailT hq Q hf F).take (firstN [35] (X ++ tailT hq Q hf F)) = X ++ (if hq then 63 :: Q else []) := by rw [hh, e1, List.take_left']; rfl
  have hno2 : ∀ y ∈ X, ([63] : List UInt8).contains y = false := by intro y hy; simp [(hX y hy).1]
  have hqn : firstN [63] (X ++ (if hq then 63 :: Q else [])) = X.length := by
    cases hq with
    | true => exact firstN_hit _ _ _ _ hno2 (by decide)
    | false => rw [show (if false = true then 63 :: Q else []) = ([] : List UInt8) from rfl, List.append_nil]; exact firstN_none _ _ hno2
  have hfr : (X ++ tailT hq Q hf F).drop (firstN [35] (X ++ tailT hq Q hf F) + 1) = F := by
    rw [hh, e1, List.drop_append]
    have : (X ++ (if hq then 63 :: Q else [])).length + 1 - (X ++ (if hq then 63 :: Q else [])).length = 1 := by omega
    rw [this, List.drop_of_length_le (by omega), List.nil_append]
    cases hf with
    | true => rfl
    | false => rw [hf0 rfl]; rfl
  have hhf : decide (firstN [35] (X ++ tailT hq Q hf F) < (X ++ tailT hq Q hf F).length) = hf := by
    rw [hh]
    conv => lhs; rw [e1]
    rw [List.length_append (bs := if hf = true then 35 :: F else [])]
    cases hf with
    | true => simp
    | false => simp
  have hl2 : (X ++ (if hq then 63 :: Q else [])).take X.length = X := by rw [List.take_left']; rfl
  have hqq : (X ++ (if hq then 63 :: Q else [])).drop (X.length + 1) = Q := by
    rw [List.drop_append, show X.length + 1 - X.length = 1 by omega, List.drop_of_length_le (by omega), List.nil_append]
    cases hq with
    | true => rfl
    | false => rw [hq0 rfl]; rfl
  have hhq : decide (X.length < (X ++ (if hq then 63 :: Q else [])).length) = hq := by
    rw [List.length_append]
    cases hq with
    | true => simp
    | false => simp
  unfold partsR
  simp only [hl1, hqn, hfr, hhf, hl2, hqq, hhq]

theorem parts_same (l : List UInt8) : partsP l = partsR l := by
  obtain ⟨X, hq, Q, hf, F, rfl, hX, hQ, hq0, hf0⟩ := text_split l
  rw [parts_core X hq Q hf F hX hQ hq0 hf0]
  have hT : tailT hq Q hf F = [] ∨ ∃ x r, tailT hq Q hf F = x :: r ∧ (x = 63 ∨ x = 35) := by
    rcases tail_head hq Q hf F [63, 35] (by decide) (by decide) with h | ⟨x, r, e, hx⟩
    · exact .inl h
    · exact .inr ⟨x, r, e, by simpa using hx⟩
  have h1 := schP_R X (tailT hq Q hf F) hX hT
  have hY : ∀ x ∈ (schR X).2, x ≠ 63 ∧ x ≠ 35 := fun x hx => hX x (schR_mem hx)
  have h2 := authP_tail (schR X).2 (tailT hq Q hf F) hY hT
  have hZ : ∀ x ∈ (authP [47] (schR X).2).2.2, x ≠ 63 ∧ x ≠ 35 := fun x hx => hY x (authP_mem hx)
  obtain ⟨Z, hZe⟩ : ∃ Z, (authP [47] (schR X).2).2.2 = Z := ⟨_, rfl⟩
  rw [hZe] at h2 hZ
  have hnz : ∀ y ∈ Z, ([63, 35] : List UInt8).contains y = false := by intro y hy; simp [(hZ y hy).1, (hZ y hy).2]
  have h3 : firstN [63, 35] (Z ++ tailT hq Q hf F) = Z.length := by
    rcases tail_head hq Q hf F [63, 35] (by decide) (by decide) with h | ⟨x, r, e, hx⟩
    · rw [h, List.append_nil]; exact firstN_none _ _ hnz
    · rw [e]; exact firstN_hit _ _ _ _ hnz hx
  have h4 : uptoL [63, 35] (Z ++ tailT hq Q hf F) = (Z, tailT hq Q hf F) := by
    unfold uptoL
    rw [h3, List.take_left', List.drop_left']
    · rfl
    · rfl
  have h5 : queryP (tailT hq Q hf F) = (hq, Q, if hf then 35 :: F else []) := by
    cases hq with
    | false =>
      rw [hq0 rfl]
      cases hf with
      | false => rfl
      | true => rfl
    | true =>
      have hn : ∀ y ∈ Q, ([35] : List UInt8).contains y = false := by intro y hy; simp [hQ y hy]
      have h6 : firstN [35] (Q ++ (if hf then 35 :: F else [])) = Q.length := by
        cases hf with
        | true => exact firstN_hit _ _ _ _ hn (by decide)
        | false => rw [show (if false = true then 35 :: F else []) = ([] : List UInt8) from rfl, List.append_nil]; exact firstN_none _ _ hn
      show queryP (63 :: (Q ++ (if hf then 35 :: F else []))) = _
      unfold queryP
      rw [if_pos (by rfl)]
      simp only [List.drop_succ_cons, List.drop_zero]
      rw [h6, List.take_left', List.drop_left']
      · rfl
      · rfl
  unfold partsP
  simp only [h1, h2, h4, h5, hZe]
  congr 1
  · cases hf with
    | true => rfl
    | false => rw [hf0 rfl]; rfl
  · cases hf with
    | true => rfl
    | false => rfl

/-- What stands ahead of the path, and all. -/
def headL (r : RefV) : List UInt8 := (if r.scheme = [] then [] else r.scheme ++ [58]) ++ (if r.hasAuth then 47 :: 47 :: r.auth else [])
def textL (r : RefV) : List UInt8 := headL r ++ r.path ++ (if r.hasQuery then 63 :: r.query else []) ++ (if r.hasFrag then 35 :: r.frag else [])

theorem schR_text (X : List UInt8) : (if (schR X).1 = [] then [] else (schR X).1 ++ [58]) ++ (schR X).2 = X := by
  unfold schR
  split
  · rename_i h
    simp only [Bool.and_eq_true, decide_eq_true_eq] at h
    obtain ⟨⟨h1, h2⟩, h3⟩ := h
    obtain ⟨x, r, e, hx, hd⟩ := firstN_get _ _ h1
    have hx58 : x = 58 := by rw [hd] at h2; simpa using h2
    subst hx58
    have hne : ¬ X.take (firstN [58, 47] X) = [] := by intro e0; rw [e0] at h3; simp [schemeL] at h3
    show (if X.take (firstN [58, 47] X) = [] then [] else X.take (firstN [58, 47] X) ++ [58]) ++ X.drop (firstN [58, 47] X + 1) = X
    rw [if_neg hne, ← List.drop_drop, hd]
    simp only [List.drop_succ_cons, List.drop_zero, List.append_assoc, List.singleton_append]
    exact e.symm
  · simp
theorem authP_text (m Y : List UInt8) : (if (authP m Y).1 then 47 :: 47 :: (authP m Y).2.1 else []) ++ (authP m Y).2.2 = Y := by
  unfold authP
  split
  · rename_i h
    obtain ⟨r, rfl⟩ := hasPrefix_two h
    show 47 :: 47 :: (r.take _ ++ r.drop _) = _
    rw [List.take_append_drop]
  · simp
theorem text_parts (l : List UInt8) : textL (partsR l) = l := by
  obtain ⟨X, hq, Q, hf, F, rfl, hX, hQ, hq0, hf0⟩ := text_split l
  rw [parts_core X hq Q hf F hX hQ hq0 hf0]
  unfold textL headL tailT
  simp only []
  have h1 := schR_text X
  have h2 := authP_text [47] (schR X).2
  have h3 : (if (schR X).1 = [] then [] else (schR X).1 ++ [58]) ++ ((if (authP [47] (schR X).2).1 then 47 :: 47 :: (authP [47] (schR X).2).2.1 else []) ++ (authP [47] (schR X).2).2.2) = X := by rw [h2]; exact h1
  have h4 := congrArg (fun l => l ++ ((if hq then 63 :: Q else []) ++ (if hf then 35 :: F else []))) h3
  simp only [List.append_assoc] at h4 ⊢
  exact h4

/-- Are parts well formed? -/
def wellL (r : RefV) : Bool :=
  if (!pctL (pathQ [91, 93]) r.auth || r.auth.contains 64 || !pctL (pathQ [47]) r.path || !pctL (pathQ [47, 63]) r.query || !pctL (pathQ [47, 63]) r.frag) then false
  else if r.hasAuth then r.path.isEmpty || r.path.head? == some 47
  else if Lib.hasPrefix r.path [47, 47] then false
  else !r.scheme.isEmpty || !(r.path.take (firstN [47] r.path)).contains 58
theorem first_colon (p : List UInt8) : (p.take (firstN [47] p)).contains 58 = (decide (firstN [58, 47] p < p.length) && !((p.drop (firstN [58, 47] p)).head? == some 47)) := by
  induction p with
  | nil => rfl
  | cons x r ih =>
    rw [firstN_cons, firstN_cons]
    by_cases h47 : x = 47
    · subst h47; simp
    · by_cases h58 : x = 58
      · subst h58
        rw [if_neg (by decide), if_pos (by decide)]
        simp
      · rw [if_neg (by simp [h47]), if_neg (by simp [h47, h58])]
        rw [List.take_succ_cons, List.drop_succ_cons, List.contains_cons, ih]
        have : ((58 : UInt8) == x) = false := by rw [beq_eq_false_iff_ne]; exact fun e => h58 e.symm
        rw [this, Bool.false_or]
        simp

end Go.Proofs.Ythhpijmkhhdhhaa
