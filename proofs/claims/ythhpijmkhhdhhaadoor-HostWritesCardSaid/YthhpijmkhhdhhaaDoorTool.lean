/- Small words: a text's first bytes, texts held against themselves. -/
import Derived.Test.YthhpijmkhhdhhaaDoorAll
namespace Go.Proofs.YthhpijmkhhdhhaaDoor
open Go.RowKit
set_option linter.unusedVariables false
set_option linter.unusedSimpArgs false

/-- The first n bytes of a text. -/
def cutX (n : Nat) (s : ByteArray) : ByteArray := ⟨(s.data.toList.take n).toArray⟩
theorem cutX_data (n : Nat) (s : ByteArray) : (cutX n s).data.toList = s.data.toList.take n := rfl
theorem cutX_size (n : Nat) (s : ByteArray) : (cutX n s).size = min n s.size := by
  rw [Lib.size_eq, cutX_data, List.length_take, ← Lib.size_eq]
theorem extract_cutX (n : Nat) (s : ByteArray) (k : Nat) (h : k = min s.size n) : s.extract 0 k = cutX n s := by
  subst h
  rw [Lib.extract_eq, cutX, List.drop_zero, Nat.sub_zero]
  congr 2
  rw [Lib.size_eq]
  apply List.take_eq_take_iff.2
  omega
theorem ret_strX {a b : ByteArray} (h : a = b) : Ending.returned (.string a) = .returned (.string b) := by rw [h]
theorem eq_selfX (t : ByteArray) : (t.toList == t.toList) = true := by simp
theorem neq_selfX (t : ByteArray) : (t.toList != t.toList) = false := by simp
theorem bytes_extX {a b : ByteArray} (h : a.data.toList = b.data.toList) : a = b := by apply ByteArray.ext; apply Array.ext'; exact h

end Go.Proofs.YthhpijmkhhdhhaaDoor
