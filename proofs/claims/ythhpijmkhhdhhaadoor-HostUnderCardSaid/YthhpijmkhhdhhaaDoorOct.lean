/- Contracts of the functions of package octet that look at one byte. -/
import Derived.Test.YthhpijmkhhdhhaaDoorChecked
import Derived.Test.YthhpijmkhhdhhaaDoorPure
import Derived.Test.YthhpijmkhhdhhaaDoorShelf
import Derived.WalkKit
import Derived.Outline
import Derived.Lib.Hide
namespace Go.Proofs.YthhpijmkhhdhhaaDoor
open Go.RowKit
set_option linter.unusedVariables false
set_option linter.unusedSimpArgs false

theorem ret_bool {a b : Bool} (h : a = b) : Ending.returned (.bool a) = .returned (.bool b) := by rw [h]
theorem ret_int {k : IntKind} {a b : Int} (h : a = b) : Ending.returned (.int k a) = .returned (.int k b) := by rw [h]

theorem isDigit_any (n : Int) (w : World) :
    Calls Tryd.prog 60 #[.int .u8 n] w fun e w' => e = .returned (.bool (bDigit n)) ∧ w = w' := by
  go_enter Tryd.func60, Tryd.ntmps60
  go_wp2
  all_goals go_ret
  all_goals exact ⟨ret_bool (by simp [bDigit]; try omega), rfl⟩

theorem lower_any (n : Int) (w : World) (h0 : 0 ≤ n) (h1 : n ≤ 255) :
    Calls Tryd.prog 93 #[.int .u8 n] w fun e w' => e = .returned (.int .u8 (bLow n)) ∧ w = w' := by
  have hl : bLow n = if 65 ≤ n ∧ n ≤ 90 then n + 32 else n := rfl
  have HL := Lib.hid hl; clear hl
  by_cases ha : 65 ≤ n
  · by_cases hb : n ≤ 90
    · go_enter Tryd.func93, Tryd.ntmps93
      go_wp2
      all_goals go_ret
      all_goals exact ⟨ret_int (by rw [HL.out, if_pos ⟨ha, hb⟩]), rfl⟩
    · go_enter Tryd.func93, Tryd.ntmps93
      go_wp2
      all_goals go_ret
      all_goals exact ⟨ret_int (by rw [HL.out, if_neg (by omega)]), rfl⟩
  · go_enter Tryd.func93, Tryd.ntmps93
    go_wp2
    all_goals go_ret
    all_goals exact ⟨ret_int (by rw [HL.out, if_neg (by omega)]), rfl⟩

theorem isHex_any (n : Int) (w : World) (h0 : 0 ≤ n) (h1 : n ≤ 255) :
    Calls Tryd.prog 65 #[.int .u8 n] w fun e w' => e = .returned (.bool (bHex n)) ∧ w = w' := by
  go_enter Tryd.func65, Tryd.ntmps65
  go_wp2_with (first | (go_at_call 60; refine (isDigit_any _ _).mono ?_; rintro e w' ⟨rfl, rfl⟩) | (go_at_call 93; refine (lower_any _ _ h0 h1).mono ?_; rintro e w' ⟨rfl, rfl⟩))
  all_goals go_ret
  all_goals exact ⟨ret_bool (by simp_all [bHex]; try omega), rfl⟩

theorem isAlpha_any (n : Int) (w : World) (h0 : 0 ≤ n) (h1 : n ≤ 255) :
    Calls Tryd.prog 105 #[.int .u8 n] w fun e w' => e = .returned (.bool (bAlpha n)) ∧ w = w' := by
  go_enter Tryd.func105, Tryd.ntmps105
  go_wp2_with ((go_at_call 93; refine (lower_any _ _ h0 h1).mono ?_; rintro e w' ⟨rfl, rfl⟩))
  all_goals go_ret
  all_goals exact ⟨ret_bool (by simp_all [bAlpha]; try omega), rfl⟩

theorem stringsIndexByte_any (s : ByteArray) (n : Int) (w : World) :
    Calls Tryd.prog 97 #[.string s, .int .u8 n] w fun e w' => e = .returned (.int .i64 (Lib.indexByte s.data.toList n.toNat.toUInt8)) ∧ w = w' :=
  (Tryd.strings_IndexByte s n w).mono fun _ _ ⟨h, g⟩ => ⟨h, g.symm⟩

theorem one_any (n : Int) (s : ByteArray) (w : World) (h0 : 0 ≤ n) (h1 : n ≤ 255) :
    Calls Tryd.prog 106 #[.int .u8 n, .string s] w fun e w' => e = .returned (.bool (bOne n s.data.toList)) ∧ w = w' := by
  go_enter Tryd.func106, Tryd.ntmps106
  go_wp2_with ((go_at_call 97; refine (stringsIndexByte_any _ _ _).mono ?_; rintro e w' ⟨rfl, rfl⟩))
  all_goals go_ret
  all_goals exact ⟨ret_bool (by rw [← indexByte_bOne _ _ h0 h1]), rfl⟩

theorem isUnres_any (n : Int) (w : World) (h0 : 0 ≤ n) (h1 : n ≤ 255) :
    Calls Tryd.prog 74 #[.int .u8 n] w fun e w' => e = .returned (.bool (bUnres n)) ∧ w = w' := by
  go_enter Tryd.func74, Tryd.ntmps74
  go_wp2_with (first | (go_at_call 105; refine (isAlpha_any _ _ h0 h1).mono ?_; rintro e w' ⟨rfl, rfl⟩) | (go_at_call 60; refine (isDigit_any _ _).mono ?_; rintro e w' ⟨rfl, rfl⟩) | (go_at_call 106; refine (one_any _ _ _ h0 h1).mono ?_; rintro e w' ⟨rfl, rfl⟩))
  all_goals go_ret
  all_goals exact ⟨ret_bool (by simp_all [bUnres]), rfl⟩

theorem isSub_any (n : Int) (w : World) (h0 : 0 ≤ n) (h1 : n ≤ 255) :
    Calls Tryd.prog 75 #[.int .u8 n] w fun e w' => e = .returned (.bool (bSub n)) ∧ w = w' := by
  go_enter Tryd.func75, Tryd.ntmps75
  go_wp2_with ((go_at_call 106; refine (one_any _ _ _ h0 h1).mono ?_; rintro e w' ⟨rfl, rfl⟩))
  all_goals go_ret
  all_goals exact ⟨ret_bool (by simp_all [bSub]), rfl⟩

theorem isPath_any (n : Int) (w : World) (h0 : 0 ≤ n) (h1 : n ≤ 255) :
    Calls Tryd.prog 96 #[.int .u8 n] w fun e w' => e = .returned (.bool (bPath n)) ∧ w = w' := by
  go_enter Tryd.func96, Tryd.ntmps96
  go_wp2_with (first | (go_at_call 74; refine (isUnres_any _ _ h0 h1).mono ?_; rintro e w' ⟨rfl, rfl⟩) | (go_at_call 75; refine (isSub_any _ _ h0 h1).mono ?_; rintro e w' ⟨rfl, rfl⟩) | (go_at_call 106; refine (one_any _ _ _ h0 h1).mono ?_; rintro e w' ⟨rfl, rfl⟩))
  all_goals go_ret
  all_goals exact ⟨ret_bool (by simp_all [bPath]), rfl⟩

end Go.Proofs.YthhpijmkhhdhhaaDoor
