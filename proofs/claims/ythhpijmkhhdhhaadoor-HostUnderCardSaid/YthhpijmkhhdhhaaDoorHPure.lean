/- Hosts: plain laws: small numbers, addresses of four and of six. -/
import Derived.Test.YthhpijmkhhdhhaaDoorHFour
import Derived.Test.YthhpijmkhhdhhaaDoorRef3r
import Derived.Lib.IndexLaws
import Derived.Lib.IndexMore
namespace Go.Proofs.YthhpijmkhhdhhaaDoor
open Go.RowKit
set_option linter.unusedVariables false
set_option linter.unusedSimpArgs false

/-- A text without noughts ahead of a number of five digits at most has five bytes at most. -/
theorem smallL_len (most : Int) (hm : most ≤ 99999) (l : List UInt8) (h : smallL most l = true) : l.length ≤ 5 := by
  unfold smallL at h
  simp only [Bool.and_eq_true, beq_iff_eq] at h
  obtain ⟨h0, h1⟩ := readV_range most l h.1
  rw [← h.2]
  unfold textB
  rw [if_neg (by omega)]
  exact digL_len (by decide) 5 _ (by decide) (by show _ < 100000; omega)

/-- The number of a small text, or -1. -/
def smallV (most : Int) (l : List UInt8) : Int := if smallL most l then readV bDigit 10 most l else -1
theorem smallV_neg (most : Int) (l : List UInt8) : decide (smallV most l < 0) = !smallL most l := by
  unfold smallV
  cases h : smallL most l with
  | true =>
    unfold smallL at h
    simp only [Bool.and_eq_true, beq_iff_eq] at h
    have := (readV_range most l h.1).1
    rw [if_pos rfl, decide_eq_false (by omega)]; rfl
  | false => rfl

/-- One group of an address of six. -/
def hexG (x : List UInt8) : Bool := decide (1 ≤ x.length) && decide (x.length ≤ 4) && allB bHex x
def grpOne (last : Bool) (x : List UInt8) (r : List (List UInt8)) : Option Nat := if last && r.isEmpty && fourL x then some 2 else if hexG x then some 1 else none
/-- How many groups stand in parts; none: they are wrong. -/
def grpO (last : Bool) : List (List UInt8) → Option Nat
  | [] => some 0
  | x :: r => match grpOne last x r with
    | none => none
    | some k => (grpO last r).map (k + ·)
def partsE (l : List UInt8) : List (List UInt8) := if l.isEmpty then [] else partsL 58 l
def gI : Option Nat → Int
  | some n => n
  | none => -1
def wholeL (l : List UInt8) : Bool := grpO true (partsL 58 l) == some 8
def both (a b : Option Nat) : Bool := match a, b with
  | some n, some m => decide (n + m ≤ 7)
  | _, _ => false
/-- Is a text an address of six? -/
def sixL (l : List UInt8) : Bool := if 0 ≤ Lib.index l [58, 58] then both (grpO false (partsE (l.take (Lib.index l [58, 58]).toNat))) (grpO true (partsE (l.drop ((Lib.index l [58, 58]).toNat + 2)))) else wholeL l

theorem partsL_cat (c : UInt8) : ∀ x y : List UInt8, partsL c (x ++ c :: y) = partsL c x ++ partsL c y
  | [], y => by
    rw [List.nil_append]
    conv => lhs; rw [partsL, if_pos rfl]
    rfl
  | a :: x, y => by
    have ih := partsL_cat c x y
    rw [List.cons_append, partsL, ih]
    conv => rhs; rw [partsL]
    by_cases h : a = c
    · rw [if_pos h, if_pos h]; rfl
    · rw [if_neg h, if_neg h]
      cases hp : partsL c x with
      | nil => exact absurd hp (partsL_ne c x)
      | cons p ps => rfl

/-- A text, and so many noughts behind it, each a group. -/
def zeroT (a : List UInt8) : Nat → List UInt8
  | 0 => a
  | k + 1 => (if zeroT a k = [] then [] else zeroT a k ++ [58]) ++ [48]
def fullT (a b : List UInt8) (n : Nat) : List UInt8 := if b = [] then zeroT a n else zeroT a n ++ 58 :: b
theorem zeroT_parts (a : List UInt8) : ∀ k, partsL 58 (zeroT a (k + 1)) = partsE a ++ List.replicate (k + 1) [48]
  | 0 => by
    show partsL 58 ((if a = [] then [] else a ++ [58]) ++ [48]) = _
    unfold partsE
    cases a with
    | nil => rfl
    | cons x r =>
      rw [if_neg (by simp), if_neg (by simp), List.append_assoc]
      exact partsL_cat 58 (x :: r) [48]
  | k + 1 => by
    have hne : zeroT a (k + 1) ≠ [] := by unfold zeroT; simp
    show partsL 58 ((if zeroT a (k + 1) = [] then [] else zeroT a (k + 1) ++ [58]) ++ [48]) = _
    rw [if_neg hne, List.append_assoc]
    have h := partsL_cat 58 (zeroT a (k + 1)) [48]
    rw [zeroT_parts a k] at h
    rw [show [58] ++ [48] = (58 :: [48] : List UInt8) from rfl, h, List.append_assoc]
    congr 1
    rw [List.replicate_succ' (n := k + 1)]
    rfl
theorem fullT_parts (a b : List UInt8) (k : Nat) : partsL 58 (fullT a b (k + 1)) = partsE a ++ (List.replicate (k + 1) [48] ++ partsE b) := by
  unfold fullT
  by_cases hb : b = []
  · subst hb
    rw [if_pos rfl, zeroT_parts]
    simp [partsE]
  · rw [if_neg hb, partsL_cat, zeroT_parts, List.append_assoc]
    congr 2
    unfold partsE
    cases b with
    | nil => exact absurd rfl hb
    | cons x r => rfl

theorem grpO_app (last : Bool) (ys : List (List UInt8)) (hy : ys ≠ []) : ∀ xs, grpO last (xs ++ ys) = match grpO false xs with
    | none => none
    | some n => (grpO last ys).map (n + ·)
  | [] => by
    show grpO last ys = (grpO last ys).map (0 + ·)
    cases grpO last ys with
    | none => rfl
    | some m => simp
  | x :: xs => by
    rw [List.cons_append, grpO, grpO_app last ys hy xs]
    have h1 : grpOne last x (xs ++ ys) = grpOne false x xs := by
      unfold grpOne
      have : (xs ++ ys).isEmpty = false := by cases xs <;> cases ys <;> simp_all
      rw [this]; simp
    rw [h1]
    conv => rhs; rw [grpO]
    cases grpOne false x xs with
    | none => rfl
    | some k =>
      cases grpO false xs with
      | none => rfl
      | some n =>
        cases grpO last ys with
        | none => rfl
        | some m => simp; omega
theorem hexG48 : hexG [48] = true := by decide +kernel
theorem fourL48 : fourL [48] = false := by unfold fourL; simp [partsL]
theorem grpO_rep (last : Bool) : ∀ n, grpO last (List.replicate n [48]) = some n
  | 0 => rfl
  | n + 1 => by
    rw [List.replicate_succ, grpO, grpO_rep last n]
    unfold grpOne
    rw [fourL48, hexG48]
    simp; omega

def bothN (a b : Option Nat) (k : Nat) : Bool := match a, b with
  | some n, some m => n + k + m == 8
  | _, _ => false
theorem whole_full (a b : List UInt8) (k : Nat) : wholeL (fullT a b (k + 1)) = bothN (grpO false (partsE a)) (grpO true (partsE b)) (k + 1) := by
  unfold wholeL
  rw [fullT_parts, grpO_app true _ (by simp [List.replicate_succ])]
  have h2 : grpO true (List.replicate (k + 1) [48] ++ partsE b) = (grpO true (partsE b)).map ((k + 1) + ·) := by
    cases hb : partsE b with
    | nil => rw [List.append_nil, grpO_rep]; rfl
    | cons p ps => rw [grpO_app true (p :: ps) (by simp), grpO_rep]
  rw [h2]
  unfold bothN
  cases grpO false (partsE a) with
  | none => rfl
  | some n =>
    cases grpO true (partsE b) with
    | none => rfl
    | some m =>
      rw [Bool.eq_iff_iff]
      simp
      omega
theorem both_of_bothN {x y : Option Nat} {k : Nat} (hk : 1 ≤ k) (h : bothN x y k = true) : both x y = true := by
  unfold bothN at h
  unfold both
  cases x with
  | none => simp at h
  | some n =>
    cases y with
    | none => simp at h
    | some m => simp at h ⊢; omega
theorem both_no {x y : Option Nat} (h : ∀ k, 1 ≤ k → k ≤ 8 → bothN x y k = false) : both x y = false := by
  unfold both
  cases x with
  | none => rfl
  | some n =>
    cases y with
    | none => rfl
    | some m =>
      rw [decide_eq_false_iff_not]
      intro hle
      have := h (8 - n - m) (by omega) (by omega)
      unfold bothN at this
      simp at this
      omega

/-- Where two colons stand first. -/
theorem sixL_at (l : List UInt8) (i : Nat) (h : Lib.index l [58, 58] = (i : Int)) : sixL l = both (grpO false (partsE (l.take i))) (grpO true (partsE (l.drop (i + 2)))) := by
  unfold sixL
  rw [if_pos (by omega), h]; rfl
theorem sixL_none (l : List UInt8) (h : Lib.index l [58, 58] = -1) : sixL l = wholeL l := by
  unfold sixL
  rw [if_neg (by omega)]

end Go.Proofs.YthhpijmkhhdhhaaDoor
