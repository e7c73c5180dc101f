/- Contract: the reference's fold of a text. -/
import Derived.Test.YthhpijmkhhdhhaaDoorFold
import Derived.Deep.QuietTactic
import Derived.BigQuiet
namespace Go.Proofs.YthhpijmkhhdhhaaDoor
open Go.RowKit
set_option linter.unusedVariables false
set_option linter.unusedSimpArgs false

def lowTo (c : UInt8) (k : Nat) : UInt8 := if 65 ≤ c.toNat ∧ c.toNat < 65 + k then (c.toNat + 32).toUInt8 else c

def great : ByteArray := ⟨#[65, 66, 67, 68, 69, 70, 71, 72, 73, 74, 75, 76, 77, 78, 79, 80, 81, 82, 83, 84, 85, 86, 87, 88, 89, 90]⟩
def small : ByteArray := ⟨#[97, 98, 99, 100, 101, 102, 103, 104, 105, 106, 107, 108, 109, 110, 111, 112, 113, 114, 115, 116, 117, 118, 119, 120, 121, 122]⟩

theorem extract_one (s : ByteArray) (i : Nat) (h : i < s.size) : s.extract i (i + 1) = ⟨#[s[i]]⟩ := by
  apply ByteArray.ext
  rw [ByteArray.data_extract]
  apply Array.ext'
  have h' : i < s.data.toList.length := by simpa using h
  simp only [Array.toList_extract, List.extract_eq_take_drop]
  rw [List.drop_eq_getElem_cons h', Nat.add_sub_cancel_left, List.take_succ_cons, List.take_zero]
  rfl

theorem great_at : ∀ j (h : j < great.size), (great[j]'h).toNat = 65 + j := by
  have : ∀ j : Fin 26, (great[j.val]'(j.isLt)).toNat = 65 + j.val := by decide +kernel
  exact fun j h => this ⟨j, h⟩

theorem small_cut : ∀ j, j < 26 → small.extract j (j + 1) = ⟨#[(65 + j + 32).toUInt8]⟩ := by
  have : ∀ j : Fin 26, small.extract j.val (j.val + 1) = ⟨#[(65 + j.val + 32).toUInt8]⟩ := by decide +kernel
  exact fun j h => this ⟨j, h⟩

theorem lowTo_zero (c : UInt8) : lowTo c 0 = c := by unfold lowTo; rw [if_neg (by omega)]

theorem lowTo_hit (c : UInt8) (j : Nat) (hj : j < 26) (h : (((great[j]'hj).toNat : Int) == (c.toNat : Int)) = true) : (⟨#[(65 + j + 32).toUInt8]⟩ : ByteArray) = ⟨#[lowTo c (j + 1)]⟩ := by
  have hg := great_at j hj
  have h1 : c.toNat = 65 + j := by have := eq_of_beq h; omega
  unfold lowTo
  rw [if_pos (by omega), h1]

theorem lowTo_miss (c : UInt8) (j : Nat) (hj : j < 26) (h : (((great[j]'hj).toNat : Int) == (c.toNat : Int)) = false) : lowTo c j = lowTo c (j + 1) := by
  have hg := great_at j hj
  have h1 : c.toNat ≠ 65 + j := by intro e; simp at h; omega
  unfold lowTo
  by_cases h2 : 65 ≤ c.toNat ∧ c.toNat < 65 + j
  · rw [if_pos h2, if_pos (by omega)]
  · rw [if_neg h2, if_neg (by omega)]

theorem lowTo_all (c : UInt8) : lowTo c 26 = lowB c := by
  unfold lowTo lowB bLow
  by_cases h2 : 65 ≤ c.toNat ∧ c.toNat < 65 + 26
  · rw [if_pos h2, if_pos (by omega)]
    congr 1
  · rw [if_neg h2, if_neg (by omega)]
    simp [Nat.toUInt8]

theorem foldL_snoc (s : ByteArray) (i : Nat) (h : i < s.size) : (⟨(foldL (s.data.toList.take i)).toArray⟩ ++ ⟨#[lowB s[i]]⟩ : ByteArray) = ⟨(foldL (s.data.toList.take (i + 1))).toArray⟩ := by
  rw [List.take_succ_eq_append_getElem (by simpa using h)]
  apply ByteArray.ext
  rw [ByteArray.data_append]
  simp [foldL]
  rfl

theorem foldL_take_len (s : ByteArray) (i : Nat) (h : i < s.size) (hs : s.size ≤ 9223372036854775807) : ¬ 9223372036854775807 < (foldL (s.data.toList.take i)).length + 1 := by
  have : (foldL (s.data.toList.take i)).length ≤ i := by simp [foldL]; omega
  omega

set_option maxRecDepth 100000 in
theorem rFold_any (s : ByteArray) (w : World) (hs : s.size ≤ maxLen) :
    Calls Tryd.prog 86 #[.string s] w fun e w' => e = .returned (.string ⟨(foldL s.data.toList).toArray⟩) ∧ Below w.heap.size w w' := by
  unfold maxLen at hs
  go_enter Tryd.func86, Tryd.ntmps86
  go_wp2
  go_loopw [3, 4, 5, 6] (fun out i _ _ wr => ∃ k : Nat, k ≤ s.size ∧ i = .int .i64 k ∧ out = .string ⟨(foldL (s.data.toList.take k)).toArray⟩ ∧ Below w.heap.size w wr) (fun _ i _ _ _ => s.size - (intOf i).toNat)
  case atStart => exact ⟨0, Nat.zero_le _, rfl, rfl, Below.refl _ _⟩
  case round =>
    obtain ⟨i, hi, rfl, rfl, hbl⟩ := hrel
    by_cases hlt : i < s.size
    · go_wp2
      obtain ⟨wo, rfl⟩ : ∃ wo : World, wo = wr := ⟨_, rfl⟩
      go_loopw [5, 6] (fun c k wr => ∃ j : Nat, j ≤ 26 ∧ k = .int .i64 j ∧ c = .string ⟨#[lowTo s[i] j]⟩ ∧ Below w.heap.size w wr) (fun _ k _ => 26 - (intOf k).toNat)
      case atStart => exact ⟨0, by omega, rfl, by rw [extract_one s i hlt, lowTo_zero], hbl⟩
      case round =>
        obtain ⟨j, hj, rfl, rfl, hbl2⟩ := hrel
        by_cases hj26 : j < 26
        · go_wp2
          go_quiet (fail)
          go_wp2
          · go_roundw
            case rel =>
              have h : (((great[j]'hj26).toNat : Int) == (s[i].toNat : Int)) = true := by assumption
              exact ⟨j + 1, by omega, by go_num, by rw [← lowTo_hit s[i] j hj26 h]; exact congrArg Value.string (small_cut j hj26), below_drewN hbl2 _⟩
            case measure => simp [intOf]; omega
          · go_roundw
            case rel =>
              have h : (((great[j]'hj26).toNat : Int) == (s[i].toNat : Int)) = false := by assumption
              exact ⟨j + 1, by omega, by go_num, by rw [← lowTo_miss s[i] j hj26 h], below_drewN hbl2 _⟩
            case measure => simp [intOf]; omega
        · obtain rfl : j = 26 := by omega
          have hln := foldL_take_len s i hlt hs
          go_wp2
          go_roundw
          case rel => exact ⟨i + 1, by omega, by go_num, by rw [lowTo_all]; exact congrArg Value.string (foldL_snoc s i hlt), hbl2⟩
          case measure => simp [intOf]; omega
    · obtain rfl : i = s.size := by omega
      go_wp2
      go_ret
      exact ⟨ret_str (by rw [List.take_of_length_le (by simp)]), hbl⟩
end Go.Proofs.YthhpijmkhhdhhaaDoor
