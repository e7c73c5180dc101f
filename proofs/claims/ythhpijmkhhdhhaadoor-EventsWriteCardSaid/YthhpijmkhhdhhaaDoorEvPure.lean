/- Events' lines: plain laws. -/
import Derived.Test.YthhpijmkhhdhhaaDoorDig
import Derived.Test.YthhpijmkhhdhhaaDoorParts
namespace Go.Proofs.YthhpijmkhhdhhaaDoor
open Go.RowKit
set_option linter.unusedVariables false
set_option linter.unusedSimpArgs false

def clientS : List UInt8 := [99, 108, 105, 101, 110, 116]
def upS : List UInt8 := [117, 112, 115, 116, 114, 101, 97, 109]
def endS : List UInt8 := [101, 110, 100]

/-- May an event be? -/
def evOk (k n : Int) : Bool := ((k == 1 || k == 3) && decide (0 ≤ n) && decide (n ≤ 1048576)) || ((k == 2 || k == 4) && n == 0)
/-- An event's line. -/
def evText (k n : Int) : List UInt8 := (if k == 1 || k == 2 then clientS else upS) ++ 32 :: (if k == 2 || k == 4 then endS else digL 10 n.toNat)
/-- The event that a line may be. -/
def evCand (l : List UInt8) : Int × Int :=
  if l.drop (markN 32 l + 1) == endS then ((if l.take (markN 32 l) == upS then 3 else 1) + 1, 0)
  else (if l.take (markN 32 l) == upS then 3 else 1, readV bDigit 10 1048576 (l.drop (markN 32 l + 1)))
def evYes (l : List UInt8) : Bool := evOk (evCand l).1 (evCand l).2 && evText (evCand l).1 (evCand l).2 == l
/-- The reference's. -/
def evRef (l : List UInt8) : Option (Int × Int) :=
  match partsL 32 l with
  | [a, b] => if a == clientS || a == upS then
      (if b == endS then some ((if a == upS then 3 else 1) + 1, 0)
       else if readE bDigit 10 1048576 b == 0 && digL 10 (readV bDigit 10 1048576 b).toNat == b then some (if a == upS then 3 else 1, readV bDigit 10 1048576 b) else none) else none
  | _ => none

theorem readV_range (q : Int → Bool) (b most : Int) (l : List UInt8) (hb : 1 ≤ b) (hq : ∀ n, q n = true → bHex n = true) (hm : 0 ≤ most) : 0 ≤ readV q b most l ∧ readV q b most l ≤ most := by
  unfold readV
  split
  · rename_i h
    split
    · rename_i h2
      refine ⟨numL_nonneg b hb l (fun c hc => hq _ ?_), h2⟩
      simp only [Bool.and_eq_true] at h
      exact List.all_eq_true.1 h.2 c hc
    · exact ⟨Int.le_refl _, hm⟩
  · exact ⟨Int.le_refl _, hm⟩

theorem digL_no (n : Nat) (x : UInt8) (h : bDigit (x.toNat : Int) = false) : ∀ y ∈ digL 10 n, y ≠ x := by
  intro y hy e
  subst e
  have := List.all_eq_true.1 (digL_dec n) y hy
  rw [h] at this; cases this
theorem digL_end (n : Nat) : (digL 10 n == endS) = false := by
  rw [beq_eq_false_iff_ne]
  intro e
  exact digL_no n 101 (by decide +kernel) 101 (by rw [e]; decide) rfl

theorem evText_parts (k n : Int) : partsL 32 (evText k n) = [if k == 1 || k == 2 then clientS else upS, if k == 2 || k == 4 then endS else digL 10 n.toNat] := by
  unfold evText
  have h1 : ∀ x ∈ (if (k == 1 || k == 2) = true then clientS else upS), x ≠ 32 := by
    split
    · decide
    · decide
  have h2 : ∀ x ∈ (if (k == 2 || k == 4) = true then endS else digL 10 n.toNat), x ≠ 32 := by
    split
    · decide
    · exact digL_no _ 32 (by decide +kernel)
  rw [partsL_hit _ _ h1, partsL_all _ h2]
theorem evText_mark (k n : Int) : (evText k n).take (markN 32 (evText k n)) = (if k == 1 || k == 2 then clientS else upS) ∧ (evText k n).drop (markN 32 (evText k n) + 1) = (if k == 2 || k == 4 then endS else digL 10 n.toNat) := by
  unfold evText
  have h1 : ∀ x ∈ (if (k == 1 || k == 2) = true then clientS else upS), x ≠ 32 := by
    split
    · decide
    · decide
  rw [markN_hit _ _ h1]
  constructor
  · rw [List.take_left']; rfl
  · rw [show ∀ (A : List UInt8) (r : List UInt8), A ++ 32 :: r = (A ++ [32]) ++ r by intro A r; simp, List.drop_left']
    simp

theorem evOk_cases {k n : Int} (h : evOk k n = true) : (k = 1 ∧ 0 ≤ n ∧ n ≤ 1048576) ∨ (k = 3 ∧ 0 ≤ n ∧ n ≤ 1048576) ∨ (k = 2 ∧ n = 0) ∨ (k = 4 ∧ n = 0) := by
  unfold evOk at h
  simp at h
  omega

theorem readV_num (n : Int) (h0 : 0 ≤ n) (h1 : n ≤ 1048576) : readV bDigit 10 1048576 (digL 10 n.toNat) = n ∧ readE bDigit 10 1048576 (digL 10 n.toNat) = 0 := by
  have h := readV_dig bDigit 10 (by omega) (by omega) 1048576 n.toNat (digL_dec _)
  have e : ((n.toNat : Nat) : Int) = n := by omega
  rw [e] at h
  rw [if_pos h1, if_pos h1] at h
  exact h

theorem evCand_text {k n : Int} (h : evOk k n = true) : evCand (evText k n) = (k, n) := by
  obtain ⟨m1, m2⟩ := evText_mark k n
  unfold evCand
  rw [m1, m2]
  rcases evOk_cases h with ⟨rfl, h0, h1⟩ | ⟨rfl, h0, h1⟩ | ⟨rfl, rfl⟩ | ⟨rfl, rfl⟩
  · show (if (digL 10 n.toNat == endS) = true then _ else _) = _
    rw [digL_end, if_neg (by simp)]
    show ((1 : Int), readV bDigit 10 1048576 (digL 10 n.toNat)) = _
    rw [(readV_num n h0 h1).1]
  · show (if (digL 10 n.toNat == endS) = true then _ else _) = _
    rw [digL_end, if_neg (by simp)]
    show ((3 : Int), readV bDigit 10 1048576 (digL 10 n.toNat)) = _
    rw [(readV_num n h0 h1).1]
  · rfl
  · rfl

theorem evRef_text {k n : Int} (h : evOk k n = true) : evRef (evText k n) = some (k, n) := by
  unfold evRef
  rw [evText_parts]
  rcases evOk_cases h with ⟨rfl, h0, h1⟩ | ⟨rfl, h0, h1⟩ | ⟨rfl, rfl⟩ | ⟨rfl, rfl⟩
  · show (if (digL 10 n.toNat == endS) = true then _ else _) = _
    rw [digL_end, if_neg (by simp)]
    obtain ⟨r1, r2⟩ := readV_num n h0 h1
    rw [show (if ((1 : Int) == 2 || (1 : Int) == 4) = true then endS else digL 10 n.toNat) = digL 10 n.toNat from rfl, r1, r2, if_pos (by simp)]
    rfl
  · show (if (digL 10 n.toNat == endS) = true then _ else _) = _
    rw [digL_end, if_neg (by simp)]
    obtain ⟨r1, r2⟩ := readV_num n h0 h1
    rw [show (if ((3 : Int) == 2 || (3 : Int) == 4) = true then endS else digL 10 n.toNat) = digL 10 n.toNat from rfl, r1, r2, if_pos (by simp)]
    rfl
  · rfl
  · rfl

theorem parts_two {l a b : List UInt8} (h : partsL 32 l = [a, b]) : l = a ++ 32 :: b := by
  have := partsL_join 32 l
  rw [h, Lib.join_cons] at this
  rw [← this]
  simp [Lib.joinTail]

theorem evRef_ok {l : List UInt8} {e : Int × Int} (h : evRef l = some e) : evOk e.1 e.2 = true ∧ evText e.1 e.2 = l := by
  unfold evRef at h
  split at h
  · rename_i a b hp
    have hl := parts_two hp
    by_cases ha : (a == clientS || a == upS) = true
    · rw [if_pos ha] at h
      by_cases hb : (b == endS) = true
      · rw [if_pos hb] at h
        injection h with h
        subst h
        have hb' : b = endS := by simpa using hb
        by_cases hu : (a == upS) = true
        · have ha' : a = upS := by simpa using hu
          subst ha' hb'
          rw [hl]
          exact ⟨rfl, rfl⟩
        · have ha' : a = clientS := by simp at ha hu; exact ha.resolve_right hu
          subst ha' hb'
          rw [hl]
          exact ⟨rfl, rfl⟩
      · rw [if_neg hb] at h
        split at h
        · rename_i hr
          injection h with h
          subst h
          simp only [Bool.and_eq_true, beq_iff_eq] at hr
          have hv := readV_range bDigit 10 1048576 b (by omega) digit_hex (by omega)
          obtain ⟨v, hvv⟩ : ∃ v, readV bDigit 10 1048576 b = v := ⟨_, rfl⟩
          rw [hvv] at hr hv ⊢
          by_cases hu : (a == upS) = true
          · have ha' : a = upS := by simpa using hu
            subst ha'
            rw [hl]
            refine ⟨?_, ?_⟩
            · show evOk 3 v = true
              unfold evOk; simp; omega
            · show upS ++ 32 :: digL 10 v.toNat = _
              rw [hr.2]
          · have ha' : a = clientS := by simp at ha hu; exact ha.resolve_right hu
            subst ha'
            rw [hl]
            refine ⟨?_, ?_⟩
            · show evOk 1 v = true
              unfold evOk; simp; omega
            · show clientS ++ 32 :: digL 10 v.toNat = _
              rw [hr.2]
        · cases h
    · rw [if_neg ha] at h; cases h
  · cases h

/-- The program's answer is the reference's. -/
theorem evYes_ref (l : List UInt8) : (evYes l = true ∧ evRef l = some (evCand l)) ∨ (evYes l = false ∧ evRef l = none) := by
  cases hr : evRef l with
  | some e =>
    obtain ⟨h1, h2⟩ := evRef_ok hr
    have h3 := evCand_text h1
    rw [h2] at h3
    left
    unfold evYes
    rw [h3, h1]
    exact ⟨by simpa using h2, rfl⟩
  | none =>
    right
    refine ⟨?_, rfl⟩
    rw [← Bool.not_eq_true]
    intro h
    unfold evYes at h
    simp only [Bool.and_eq_true, beq_iff_eq] at h
    have := evRef_text h.1
    rw [h.2, hr] at this
    cases this

end Go.Proofs.YthhpijmkhhdhhaaDoor
