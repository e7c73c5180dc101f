/- Quoted texts, as lists of bytes: plain Lean. -/
import Derived.Test.YthhpijmkhhdhhaaScan3
namespace Go.Proofs.Ythhpijmkhhdhhaa
open Go.RowKit
set_option linter.unusedVariables false
set_option linter.unusedSimpArgs false

/-- A byte, or a backslash and one: the byte, and how many were read. -/
def nextL : List UInt8 → Option (UInt8 × Nat)
  | [] => none
  | a :: r => if a = 92 then (match r with | [] => none | c :: _ => if bValue (c.toNat : Int) = true then some (c, 2) else none) else if bValue (a.toNat : Int) = true then some (a, 1) else none

/-- Behind the first quote: the text, and how many bytes up to the last quote. -/
def bodyL : List UInt8 → Option (List UInt8 × Nat)
  | [] => none
  | [a] => if a = 34 then some ([], 1) else none
  | a :: c :: r => if a = 34 then some ([], 1) else if a = 92 then (if bValue (c.toNat : Int) = true then (bodyL r).map fun p => (c :: p.1, p.2 + 2) else none)
      else if bValue (a.toNat : Int) = true then (bodyL (c :: r)).map fun p => (a :: p.1, p.2 + 1) else none

theorem bodyL_quote (r : List UInt8) : bodyL (34 :: r) = some ([], 1) := by
  cases r with
  | nil => rfl
  | cons c r => simp [bodyL]

theorem bodyL_step (a : UInt8) (r : List UInt8) (h : a ≠ 34) : bodyL (a :: r) = match nextL (a :: r) with | some (x, n) => (bodyL ((a :: r).drop n)).map (fun p => (x :: p.1, p.2 + n)) | none => none := by
  cases r with
  | nil =>
    unfold bodyL nextL
    rw [if_neg h]
    by_cases h2 : a = 92
    · simp [h2]
    · by_cases h3 : bValue (a.toNat : Int) = true
      · simp [h2, h3, bodyL]
      · simp [h2, h3]
  | cons c r =>
    rw [show bodyL (a :: c :: r) = if a = 34 then some ([], 1) else if a = 92 then (if bValue (c.toNat : Int) = true then (bodyL r).map fun p => (c :: p.1, p.2 + 2) else none)
      else if bValue (a.toNat : Int) = true then (bodyL (c :: r)).map fun p => (a :: p.1, p.2 + 1) else none by rw [bodyL]]
    unfold nextL
    rw [if_neg h]
    by_cases h2 : a = 92
    · by_cases h3 : bValue (c.toNat : Int) = true
      · simp [h2, h3]
      · simp [h2, h3]
    · by_cases h3 : bValue (a.toNat : Int) = true
      · simp [h2, h3]
      · simp [h2, h3]

theorem nextL_pos {l : List UInt8} {x : UInt8} {n : Nat} (h : nextL l = some (x, n)) : 0 < n ∧ n ≤ 2 ∧ n ≤ l.length := by
  unfold nextL at h
  split at h
  · cases h
  · split at h
    · split at h
      · cases h
      · split at h
        · injection h with h; injection h with h1 h2; subst h2; simp
        · cases h
    · split at h
      · injection h with h; injection h with h1 h2; subst h2; simp
      · cases h

theorem nextL_append {l : List UInt8} {x : UInt8} {n : Nat} (r : List UInt8) (h : nextL l = some (x, n)) : nextL (l ++ r) = some (x, n) := by
  unfold nextL at h ⊢
  split at h
  · cases h
  · next a q =>
    simp only [List.cons_append]
    split at h
    · split at h
      · cases h
      · next h1 _ c q2 => rw [if_pos h1]; exact h
    · next h1 => rw [if_neg h1]; exact h

theorem bodyL_le : ∀ (n : Nat) (l : List UInt8) (p : List UInt8 × Nat), l.length ≤ n → bodyL l = some p → 0 < p.2 ∧ p.2 ≤ l.length ∧ p.1.length ≤ p.2 ∧ ∀ r, bodyL (l ++ r) = some p := by
  intro n
  induction n with
  | zero =>
    intro l p hl h
    obtain rfl : l = [] := List.length_eq_zero_iff.1 (by omega)
    cases h
  | succ n ih =>
    intro l p hl h
    cases l with
    | nil => cases h
    | cons a q =>
      by_cases ha : a = 34
      · subst ha
        rw [bodyL_quote] at h
        injection h with h; subst h
        exact ⟨by simp, by simp, by simp, fun r => by rw [List.cons_append, bodyL_quote]⟩
      · rw [bodyL_step a q ha] at h
        split at h
        · next x m hm =>
          obtain ⟨m0, m2, ml⟩ := nextL_pos hm
          rw [Option.map_eq_some_iff] at h
          obtain ⟨p', h1, rfl⟩ := h
          obtain ⟨i0, i1, i2, i3⟩ := ih _ p' (by rw [List.length_drop]; simp at hl ⊢; omega) h1
          rw [List.length_drop] at i1
          refine ⟨by simp; omega, by simp only; omega, by simp; omega, fun r => ?_⟩
          rw [List.cons_append, bodyL_step a _ ha, ← List.cons_append, nextL_append r hm]
          simp only
          rw [List.drop_append_of_le_length ml, i3 r]
          rfl
        · cases h

theorem bodyL_append {l : List UInt8} {p : List UInt8 × Nat} (h : bodyL l = some p) (r : List UInt8) : bodyL (l ++ r) = some p := (bodyL_le _ l p (Nat.le_refl _) h).2.2.2 r
theorem bodyL_fits {l : List UInt8} {p : List UInt8 × Nat} (h : bodyL l = some p) : 0 < p.2 ∧ p.2 ≤ l.length ∧ p.1.length ≤ p.2 := ⟨(bodyL_le _ l p (Nat.le_refl _) h).1, (bodyL_le _ l p (Nat.le_refl _) h).2.1, (bodyL_le _ l p (Nat.le_refl _) h).2.2.1⟩

/-- The quoted text with which a text begins: what it stands for, how many bytes it has. -/
def frontL : List UInt8 → Option (List UInt8 × Nat)
  | [] => none
  | a :: r => if a = 34 then (bodyL r).map fun p => (p.1, p.2 + 1) else none

theorem frontL_fits {l : List UInt8} {p : List UInt8 × Nat} (h : frontL l = some p) : 0 < p.2 ∧ p.2 ≤ l.length ∧ p.1.length ≤ p.2 := by
  unfold frontL at h
  split at h
  · cases h
  · split at h
    · rw [Option.map_eq_some_iff] at h
      obtain ⟨q, h1, rfl⟩ := h
      have := bodyL_fits h1
      simp; omega
    · cases h

theorem frontL_append {l : List UInt8} {p : List UInt8 × Nat} (h : frontL l = some p) (r : List UInt8) : frontL (l ++ r) = some p := by
  unfold frontL at h ⊢
  split at h
  · cases h
  · next a q =>
    rw [List.cons_append]
    simp only
    split at h
    · next ha =>
      rw [if_pos ha]
      rw [Option.map_eq_some_iff] at h
      obtain ⟨p', h1, rfl⟩ := h
      rw [bodyL_append h1]
      rfl
    · cases h

/-- A byte as it stands between quotes. -/
def escB (c : UInt8) : List UInt8 := if (c.toNat : Int) = 34 ∨ (c.toNat : Int) = 92 then [92, c] else [c]
def escL (l : List UInt8) : List UInt8 := l.flatMap escB
def quoteL (l : List UInt8) : List UInt8 := 34 :: (escL l ++ [34])

theorem escL_nil : escL [] = [] := rfl
theorem escL_cons (c : UInt8) (l : List UInt8) : escL (c :: l) = escB c ++ escL l := by unfold escL; rw [List.flatMap_cons]
theorem escL_snoc (l : List UInt8) (c : UInt8) : escL (l ++ [c]) = escL l ++ escB c := by unfold escL; rw [List.flatMap_append]; simp
theorem escB_len (c : UInt8) : (escB c).length ≤ 2 := by unfold escB; split <;> simp
theorem escL_len (l : List UInt8) : (escL l).length ≤ 2 * l.length := by
  induction l with
  | nil => simp [escL_nil]
  | cons c r ih => rw [escL_cons, List.length_append, List.length_cons]; have := escB_len c; omega
theorem quoteL_len (l : List UInt8) : (quoteL l).length ≤ 2 * l.length + 2 := by unfold quoteL; have := escL_len l; simp; omega
theorem quoteL_len2 (l : List UInt8) : (quoteL l).length = (escL l).length + 2 := by unfold quoteL; simp

theorem bodyL_esc (l r : List UInt8) (h : allB bValue l = true) : bodyL (escL l ++ 34 :: r) = some (l, (escL l).length + 1) := by
  induction l with
  | nil => rw [escL_nil, List.nil_append, bodyL_quote]; rfl
  | cons c l ih =>
    rw [allB_cons, Bool.and_eq_true] at h
    have ih := ih h.2
    rw [escL_cons]
    by_cases hc : (c.toNat : Int) = 34 ∨ (c.toNat : Int) = 92
    · have e : escB c = [92, c] := by unfold escB; rw [if_pos hc]
      have h2 : nextL (92 :: c :: (escL l ++ 34 :: r)) = some (c, 2) := by unfold nextL; simp [h.1]
      rw [e, List.append_assoc]
      show bodyL (92 :: c :: (escL l ++ 34 :: r)) = _
      rw [bodyL_step 92 _ (by decide), h2]
      simp only [List.drop_succ_cons, List.drop_zero]
      rw [ih]
      simp
    · have e : escB c = [c] := by unfold escB; rw [if_neg hc]
      have hc1 : c ≠ 34 := fun e => hc (.inl (by rw [e]; rfl))
      have hc2 : c ≠ 92 := fun e => hc (.inr (by rw [e]; rfl))
      have h2 : nextL (c :: (escL l ++ 34 :: r)) = some (c, 1) := by simp only [nextL]; rw [if_neg hc2, if_pos h.1]
      rw [e, List.append_assoc]
      show bodyL (c :: (escL l ++ 34 :: r)) = _
      rw [bodyL_step c _ hc1, h2]
      simp only [List.drop_succ_cons, List.drop_zero]
      rw [ih]
      simp

theorem frontL_quote (l : List UInt8) (h : allB bValue l = true) : frontL (quoteL l) = some (l, (quoteL l).length) := by
  unfold quoteL
  simp only [frontL]
  rw [if_pos trivial, bodyL_esc l [] h]
  simp

theorem frontL_cut (l : List UInt8) (h : allB bValue l = true) (k : Nat) (hk : k < (quoteL l).length) (p : List UInt8 × Nat) (hp : frontL ((quoteL l).take k) = some p) : False := by
  have h1 := frontL_append hp ((quoteL l).drop k)
  rw [List.take_append_drop, frontL_quote l h] at h1
  injection h1 with h1
  have h2 := (frontL_fits hp).2.1
  rw [List.length_take] at h2
  rw [← h1] at h2
  simp only at h2
  omega

/-- A token, or a quoted text, with which a text begins. -/
def wordL (l : List UInt8) : Option (List UInt8 × Nat) := if 0 < takeN bTok l then some (l.take (takeN bTok l), takeN bTok l) else frontL l

theorem wordL_fits {l : List UInt8} {p : List UInt8 × Nat} (h : wordL l = some p) : 0 < p.2 ∧ p.2 ≤ l.length ∧ p.1.length ≤ p.2 := by
  unfold wordL at h
  split at h
  · injection h with h; subst h
    have := takeN_le bTok l
    simp; omega
  · exact frontL_fits h

/-- A token as it is, else a text in quotes. -/
def eitherL (l : List UInt8) : Option (List UInt8) := if tokenL l = true then some l else if allB bValue l = true then some (quoteL l) else none

theorem takeN_all {q : Int → Bool} {l : List UInt8} (h : allB q l = true) : takeN q l = l.length := by unfold takeN; rw [takeWhile_all h]

theorem takeN_stop {q : Int → Bool} (l : List UInt8) (c : UInt8) (r : List UInt8) (h : allB q l = true) (hc : q (c.toNat : Int) = false) : takeN q (l ++ c :: r) = l.length := by
  unfold takeN
  rw [List.takeWhile_append_of_pos (by unfold allB at h; rw [List.all_eq_true] at h; exact h), List.takeWhile_cons_of_neg (by simp [hc]), List.append_nil]

/-- What Either wrote is read again, with what stands behind it, if that is no byte of a token. -/
theorem wordL_either (l x r : List UInt8) (h : eitherL l = some x) (hr : r = [] ∨ ∃ c q, r = c :: q ∧ bTok (c.toNat : Int) = false) : wordL (x ++ r) = some (l, x.length) := by
  unfold eitherL at h
  split at h
  · next ht =>
    injection h with h; subst h
    unfold tokenL at ht
    rw [Bool.and_eq_true] at ht
    have hl : 0 < l.length := by cases l with | nil => simp at ht | cons a b => simp
    have e : takeN bTok (l ++ r) = l.length := by
      rcases hr with rfl | ⟨c, q, rfl, hc⟩
      · rw [List.append_nil, takeN_all ht.2]
      · exact takeN_stop l c q ht.2 hc
    unfold wordL
    rw [e, if_pos hl, List.take_append_of_le_length (Nat.le_refl _), List.take_length]
  · split at h
    · next hv =>
      injection h with h; subst h
      have e : takeN bTok (quoteL l ++ r) = 0 := rfl
      unfold wordL
      rw [e, if_neg (by omega)]
      exact frontL_append (frontL_quote l hv) r
    · cases h

end Go.Proofs.Ythhpijmkhhdhhaa
