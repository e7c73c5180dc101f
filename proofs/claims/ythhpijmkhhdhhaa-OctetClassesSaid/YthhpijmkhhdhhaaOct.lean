/- Contracts of the functions of package octet that look at one byte. -/
import Derived.Test.YthhpijmkhhdhhaaChecked
import Derived.Test.YthhpijmkhhdhhaaPure
import Derived.Test.YthhpijmkhhdhhaaShelf
import Derived.WalkKit
import Derived.Outline
import Derived.Lib.Hide
namespace Go.Proofs.Ythhpijmkhhdhhaa
open Go.RowKit
set_option linter.unusedVariables false
set_option linter.unusedSimpArgs false

theorem ret_bool {a b : Bool} (h : a = b) : Ending.returned (.bool a) = .returned (.bool b) := by rw [h]
theorem ret_int {k : IntKind} {a b : Int} (h : a = b) : Ending.returned (.int k a) = .returned (.int k b) := by rw [h]

theorem isDigit_any (n : Int) (w : World) :
    Calls Try.prog 30 #[.int .u8 n] w fun e w' => e = .returned (.bool (bDigit n)) ∧ w = w' := by
  go_enter Try.func30, Try.ntmps30
  go_wp2
  all_goals go_ret
  all_goals exact ⟨ret_bool (by simp [bDigit]; try omega), rfl⟩

theorem lower_any (n : Int) (w : World) (h0 : 0 ≤ n) (h1 : n ≤ 255) :
    Calls Try.prog 50 #[.int .u8 n] w fun e w' => e = .returned (.int .u8 (bLow n)) ∧ w = w' := by
  have hl : bLow n = if 65 ≤ n ∧ n ≤ 90 then n + 32 else n := rfl
  have HL := Lib.hid hl; clear hl
  by_cases ha : 65 ≤ n
  · by_cases hb : n ≤ 90
    · go_enter Try.func50, Try.ntmps50
      go_wp2
      all_goals go_ret
      all_goals exact ⟨ret_int (by rw [HL.out, if_pos ⟨ha, hb⟩]), rfl⟩
    · go_enter Try.func50, Try.ntmps50
      go_wp2
      all_goals go_ret
      all_goals exact ⟨ret_int (by rw [HL.out, if_neg (by omega)]), rfl⟩
  · go_enter Try.func50, Try.ntmps50
    go_wp2
    all_goals go_ret
    all_goals exact ⟨ret_int (by rw [HL.out, if_neg (by omega)]), rfl⟩

theorem isHex_any (n : Int) (w : World) (h0 : 0 ≤ n) (h1 : n ≤ 255) :
    Calls Try.prog 32 #[.int .u8 n] w fun e w' => e = .returned (.bool (bHex n)) ∧ w = w' := by
  go_enter Try.func32, Try.ntmps32
  go_wp2_with (first | (go_at_call 30; refine (isDigit_any _ _).mono ?_; rintro e w' ⟨rfl, rfl⟩) | (go_at_call 50; refine (lower_any _ _ h0 h1).mono ?_; rintro e w' ⟨rfl, rfl⟩))
  all_goals go_ret
  all_goals exact ⟨ret_bool (by simp_all [bHex]; try omega), rfl⟩

theorem isAlpha_any (n : Int) (w : World) (h0 : 0 ≤ n) (h1 : n ≤ 255) :
    Calls Try.prog 34 #[.int .u8 n] w fun e w' => e = .returned (.bool (bAlpha n)) ∧ w = w' := by
  go_enter Try.func34, Try.ntmps34
  go_wp2_with ((go_at_call 50; refine (lower_any _ _ h0 h1).mono ?_; rintro e w' ⟨rfl, rfl⟩))
  all_goals go_ret
  all_goals exact ⟨ret_bool (by simp_all [bAlpha]; try omega), rfl⟩

theorem isBlank_any (n : Int) (w : World) :
    Calls Try.prog 36 #[.int .u8 n] w fun e w' => e = .returned (.bool (bBlank n)) ∧ w = w' := by
  go_enter Try.func36, Try.ntmps36
  go_wp2
  all_goals go_ret
  all_goals exact ⟨ret_bool (by simp_all [bBlank]), rfl⟩

theorem isVisible_any (n : Int) (w : World) :
    Calls Try.prog 38 #[.int .u8 n] w fun e w' => e = .returned (.bool (bVisible n)) ∧ w = w' := by
  go_enter Try.func38, Try.ntmps38
  go_wp2
  all_goals go_ret
  all_goals exact ⟨ret_bool (by simp_all [bVisible]; try omega), rfl⟩

theorem stringsIndexByte_any (s : ByteArray) (n : Int) (w : World) :
    Calls Try.prog 122 #[.string s, .int .u8 n] w fun e w' => e = .returned (.int .i64 (Lib.indexByte s.data.toList n.toNat.toUInt8)) ∧ w = w' :=
  (Try.strings_IndexByte s n w).mono fun _ _ ⟨h, g⟩ => ⟨h, g.symm⟩

theorem one_any (n : Int) (s : ByteArray) (w : World) (h0 : 0 ≤ n) (h1 : n ≤ 255) :
    Calls Try.prog 106 #[.int .u8 n, .string s] w fun e w' => e = .returned (.bool (bOne n s.data.toList)) ∧ w = w' := by
  go_enter Try.func106, Try.ntmps106
  go_wp2_with ((go_at_call 122; refine (stringsIndexByte_any _ _ _).mono ?_; rintro e w' ⟨rfl, rfl⟩))
  all_goals go_ret
  all_goals exact ⟨ret_bool (by rw [← indexByte_bOne _ _ h0 h1]), rfl⟩

theorem isToken_any (n : Int) (w : World) (h0 : 0 ≤ n) (h1 : n ≤ 255) :
    Calls Try.prog 40 #[.int .u8 n] w fun e w' => e = .returned (.bool (bTok n)) ∧ w = w' := by
  go_enter Try.func40, Try.ntmps40
  go_wp2_with (first | (go_at_call 34; refine (isAlpha_any _ _ h0 h1).mono ?_; rintro e w' ⟨rfl, rfl⟩) | (go_at_call 30; refine (isDigit_any _ _).mono ?_; rintro e w' ⟨rfl, rfl⟩) | (go_at_call 106; refine (one_any _ _ _ h0 h1).mono ?_; rintro e w' ⟨rfl, rfl⟩))
  all_goals go_ret
  all_goals exact ⟨ret_bool (by simp_all [bTok]), rfl⟩

theorem isValue_any (n : Int) (w : World) :
    Calls Try.prog 42 #[.int .u8 n] w fun e w' => e = .returned (.bool (bValue n)) ∧ w = w' := by
  go_enter Try.func42, Try.ntmps42
  go_wp2_with (first | (go_at_call 38; refine (isVisible_any _ _).mono ?_; rintro e w' ⟨rfl, rfl⟩) | (go_at_call 36; refine (isBlank_any _ _).mono ?_; rintro e w' ⟨rfl, rfl⟩))
  all_goals go_ret
  all_goals exact ⟨ret_bool (by simp_all [bValue]), rfl⟩

theorem isUnres_any (n : Int) (w : World) (h0 : 0 ≤ n) (h1 : n ≤ 255) :
    Calls Try.prog 44 #[.int .u8 n] w fun e w' => e = .returned (.bool (bUnres n)) ∧ w = w' := by
  go_enter Try.func44, Try.ntmps44
  go_wp2_with (first | (go_at_call 34; refine (isAlpha_any _ _ h0 h1).mono ?_; rintro e w' ⟨rfl, rfl⟩) | (go_at_call 30; refine (isDigit_any _ _).mono ?_; rintro e w' ⟨rfl, rfl⟩) | (go_at_call 106; refine (one_any _ _ _ h0 h1).mono ?_; rintro e w' ⟨rfl, rfl⟩))
  all_goals go_ret
  all_goals exact ⟨ret_bool (by simp_all [bUnres]), rfl⟩

theorem isSub_any (n : Int) (w : World) (h0 : 0 ≤ n) (h1 : n ≤ 255) :
    Calls Try.prog 46 #[.int .u8 n] w fun e w' => e = .returned (.bool (bSub n)) ∧ w = w' := by
  go_enter Try.func46, Try.ntmps46
  go_wp2_with ((go_at_call 106; refine (one_any _ _ _ h0 h1).mono ?_; rintro e w' ⟨rfl, rfl⟩))
  all_goals go_ret
  all_goals exact ⟨ret_bool (by simp_all [bSub]), rfl⟩

theorem isPath_any (n : Int) (w : World) (h0 : 0 ≤ n) (h1 : n ≤ 255) :
    Calls Try.prog 48 #[.int .u8 n] w fun e w' => e = .returned (.bool (bPath n)) ∧ w = w' := by
  go_enter Try.func48, Try.ntmps48
  go_wp2_with (first | (go_at_call 44; refine (isUnres_any _ _ h0 h1).mono ?_; rintro e w' ⟨rfl, rfl⟩) | (go_at_call 46; refine (isSub_any _ _ h0 h1).mono ?_; rintro e w' ⟨rfl, rfl⟩) | (go_at_call 106; refine (one_any _ _ _ h0 h1).mono ?_; rintro e w' ⟨rfl, rfl⟩))
  all_goals go_ret
  all_goals exact ⟨ret_bool (by simp_all [bPath]), rfl⟩

end Go.Proofs.Ythhpijmkhhdhhaa
