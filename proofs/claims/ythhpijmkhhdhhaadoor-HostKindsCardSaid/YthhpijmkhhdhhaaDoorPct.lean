/- Texts with percent signs: the plain law; pathq.of, Path, Query; the reference's Of, Path, Query. -/
import Derived.Test.YthhpijmkhhdhhaaDoorAll
namespace Go.Proofs.YthhpijmkhhdhhaaDoor
open Go.RowKit
set_option linter.unusedVariables false
set_option linter.unusedSimpArgs false

/-- Bytes of a class, and percent signs with two digits behind each; so many digits are due. -/
def pctGo (q : Int → Bool) : Nat → List UInt8 → Bool
  | 0, [] => true
  | _ + 1, [] => false
  | 0, c :: r => if c.toNat = 37 then pctGo q 2 r else q (c.toNat : Int) && pctGo q 0 r
  | k + 1, c :: r => bHex (c.toNat : Int) && pctGo q k r
def pctL (q : Int → Bool) (l : List UInt8) : Bool := pctGo q 0 l

theorem pctL_nil (q : Int → Bool) : pctL q [] = true := rfl
theorem pctL_plain (q : Int → Bool) (c : UInt8) (r : List UInt8) (h : ¬ c.toNat = 37) : pctL q (c :: r) = (q (c.toNat : Int) && pctL q r) := by
  unfold pctL; rw [pctGo, if_neg h]
theorem pctL_short (q : Int → Bool) (c : UInt8) (r : List UInt8) (h : c.toNat = 37) (hr : r.length < 2) : pctL q (c :: r) = false := by
  unfold pctL; rw [pctGo, if_pos h]
  match r, hr with
  | [], _ => rfl
  | [a], _ => simp [pctGo]
  | _ :: _ :: _, hr => simp at hr; omega
theorem pctL_pct (q : Int → Bool) (c a b : UInt8) (r : List UInt8) (h : c.toNat = 37) : pctL q (c :: a :: b :: r) = (bHex (a.toNat : Int) && (bHex (b.toNat : Int) && pctL q r)) := by
  unfold pctL; rw [pctGo, if_pos h]; rfl

/-- What stands ahead at three bytes. -/
theorem drop3 (s : ByteArray) (k : Nat) (h : k + 2 < s.size) : s.data.toList.drop k = s[k] :: s[k + 1] :: s[k + 2] :: s.data.toList.drop (k + 3) := by
  rw [drop_cons s k (by omega), drop_cons s (k + 1) (by omega), drop_cons s (k + 2) h]
theorem drop_short (s : ByteArray) (k : Nat) (h : k < s.size) (h2 : s.size ≤ k + 2) : ∃ r, s.data.toList.drop k = s[k] :: r ∧ r.length < 2 :=
  ⟨_, drop_cons s k h, by rw [List.length_drop, ← Lib.size_eq]; omega⟩
theorem drop_all (s : ByteArray) (k : Nat) (h : s.size ≤ k) : s.data.toList.drop k = [] := List.drop_of_length_le (by rw [← Lib.size_eq]; exact h)
theorem extract2 (s : ByteArray) (k : Nat) (h : k + 2 < s.size) : (s.extract (k + 1) (k + 3)).data.toList = [s[k + 1], s[k + 2]] := by
  rw [Lib.extract_data]
  rw [drop_cons s (k + 1) (by omega), drop_cons s (k + 2) h, show k + 3 - (k + 1) = 2 by omega]
  rfl
theorem extract_tail (s : ByteArray) (k : Nat) : (s.extract k s.size).data.toList = s.data.toList.drop k := by
  rw [Lib.extract_data, List.take_of_length_le (by rw [List.length_drop, ← Lib.size_eq]; omega)]
theorem extract_tail_size (s : ByteArray) (k : Nat) : (s.extract k s.size).size = s.size - k := by rw [Lib.size_eq, extract_tail, List.length_drop, ← Lib.size_eq]
theorem u8_255 (c : UInt8) : (c.toNat : Int) ≤ 255 := by have := c.toNat_lt; omega

/-- Bytes of a path, and some others. -/
def pathQ (m : List UInt8) (n : Int) : Bool := bPath n || bOne n m
def pathL (l : List UInt8) : Bool := l.head? == some 47 && pctL (pathQ [47]) l
def queryL (l : List UInt8) : Bool := pctL (pathQ [47, 63]) l

theorem path37 : bPath 37 = false := by decide +kernel

end Go.Proofs.YthhpijmkhhdhhaaDoor
