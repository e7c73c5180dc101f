/- Contracts of the functions of package doorstepref01. -/
import Derived.Test.YthhpijmkhhdhhaaDoorOct
namespace Go.Proofs.YthhpijmkhhdhhaaDoor
open Go.RowKit
set_option linter.unusedVariables false
set_option linter.unusedSimpArgs false

theorem bOne_take_succ (n : Int) (s : ByteArray) (k : Nat) (h : k < s.size) : bOne n (s.data.toList.take (k + 1)) = (bOne n (s.data.toList.take k) || ((s[k].toNat : Int) == n)) := by
  rw [List.take_succ_eq_append_getElem (by simpa using h)]
  simp [bOne]
  rfl

theorem in_any (n : Int) (s : ByteArray) (w : World) (hs : s.size ≤ maxLen) :
    Calls Tryd.prog 99 #[.int .u8 n, .string s] w fun e w' => e = .returned (.bool (bOne n s.data.toList)) ∧ w = w' := by
  unfold maxLen at hs
  go_enter Tryd.func99, Tryd.ntmps99
  go_wp2
  go_loop [5] (fun i => ∃ k : Nat, k ≤ s.size ∧ i = .int .i64 k ∧ bOne n (s.data.toList.take k) = false) (fun i => s.size - (intOf i).toNat)
  case atStart => exact ⟨0, Nat.zero_le _, rfl, by simp [bOne]⟩
  case round =>
    obtain ⟨k, hk, rfl, hno⟩ := hrel
    have HN := Lib.hid hno; clear hno
    by_cases hlt : k < s.size
    · have hsn := bOne_take_succ n s k hlt
      have HS := Lib.hid hsn; clear hsn
      by_cases hx : ((s[k].toNat : Int) == n) = true
      · go_wp2
        go_ret
        exact ⟨ret_bool (by
          have h1 := HS.out
          rw [hx] at h1
          have : bOne n s.data.toList = true := by
            rw [← List.take_append_drop (k + 1) s.data.toList]
            unfold bOne at h1 ⊢
            rw [List.any_append, h1]; simp
          exact this.symm), rfl⟩
      · rw [Bool.not_eq_true] at hx
        go_wp2
        go_round
        case rel => exact ⟨k + 1, by omega, by go_num, by rw [HS.out, HN.out, hx]; rfl⟩
        case measure => simp [intOf]; omega
    · go_wp2
      go_ret
      exact ⟨ret_bool (by have := HN.out; rw [List.take_of_length_le (by simp; omega)] at this; exact this.symm), rfl⟩

theorem all256 (p q : Int → Bool) (h : ((List.range 256).all fun k => p k == q k) = true) (n : Int) (h0 : 0 ≤ n) (h1 : n ≤ 255) : p n = q n := by
  obtain ⟨k, rfl⟩ := Int.eq_ofNat_of_zero_le h0
  have := List.all_eq_true.1 h k (by simp; omega)
  simpa using this

theorem rDigit_list (n : Int) (h0 : 0 ≤ n) (h1 : n ≤ 255) : bOne n [48, 49, 50, 51, 52, 53, 54, 55, 56, 57] = bDigit n :=
  all256 (fun n => bOne n [48, 49, 50, 51, 52, 53, 54, 55, 56, 57]) bDigit (by decide +kernel) n h0 h1

theorem rHex_list (n : Int) (h0 : 0 ≤ n) (h1 : n ≤ 255) : bOne n [48, 49, 50, 51, 52, 53, 54, 55, 56, 57, 97, 98, 99, 100, 101, 102, 65, 66, 67, 68, 69, 70] = bHex n :=
  all256 (fun n => bOne n [48, 49, 50, 51, 52, 53, 54, 55, 56, 57, 97, 98, 99, 100, 101, 102, 65, 66, 67, 68, 69, 70]) bHex (by decide +kernel) n h0 h1

theorem rHex_any (n : Int) (w : World) (h0 : 0 ≤ n) (h1 : n ≤ 255) :
    Calls Tryd.prog 76 #[.int .u8 n] w fun e w' => e = .returned (.bool (bHex n)) ∧ w = w' := by
  go_enter Tryd.func76, Tryd.ntmps76
  go_wp2_with ((go_at_call 99; refine (in_any _ _ _ (by decide)).mono ?_; rintro e w' ⟨rfl, rfl⟩))
  all_goals go_ret
  all_goals exact ⟨ret_bool (rHex_list n h0 h1), rfl⟩

theorem rAlpha_list (n : Int) (h0 : 0 ≤ n) (h1 : n ≤ 255) : bOne n [97, 98, 99, 100, 101, 102, 103, 104, 105, 106, 107, 108, 109, 110, 111, 112, 113, 114, 115, 116, 117, 118, 119, 120, 121, 122, 65, 66, 67, 68, 69, 70, 71, 72, 73, 74, 75, 76, 77, 78, 79, 80, 81, 82, 83, 84, 85, 86, 87, 88, 89, 90] = bAlpha n :=
  all256 (fun n => bOne n [97, 98, 99, 100, 101, 102, 103, 104, 105, 106, 107, 108, 109, 110, 111, 112, 113, 114, 115, 116, 117, 118, 119, 120, 121, 122, 65, 66, 67, 68, 69, 70, 71, 72, 73, 74, 75, 76, 77, 78, 79, 80, 81, 82, 83, 84, 85, 86, 87, 88, 89, 90]) bAlpha (by decide +kernel) n h0 h1

theorem rTok_list (n : Int) (h0 : 0 ≤ n) (h1 : n ≤ 255) : bOne n [97, 98, 99, 100, 101, 102, 103, 104, 105, 106, 107, 108, 109, 110, 111, 112, 113, 114, 115, 116, 117, 118, 119, 120, 121, 122, 65, 66, 67, 68, 69, 70, 71, 72, 73, 74, 75, 76, 77, 78, 79, 80, 81, 82, 83, 84, 85, 86, 87, 88, 89, 90, 48, 49, 50, 51, 52, 53, 54, 55, 56, 57, 33, 35, 36, 37, 38, 39, 42, 43, 45, 46, 94, 95, 96, 124, 126] = bTok n :=
  all256 (fun n => bOne n [97, 98, 99, 100, 101, 102, 103, 104, 105, 106, 107, 108, 109, 110, 111, 112, 113, 114, 115, 116, 117, 118, 119, 120, 121, 122, 65, 66, 67, 68, 69, 70, 71, 72, 73, 74, 75, 76, 77, 78, 79, 80, 81, 82, 83, 84, 85, 86, 87, 88, 89, 90, 48, 49, 50, 51, 52, 53, 54, 55, 56, 57, 33, 35, 36, 37, 38, 39, 42, 43, 45, 46, 94, 95, 96, 124, 126]) bTok (by decide +kernel) n h0 h1

theorem rUnreserved_list (n : Int) (h0 : 0 ≤ n) (h1 : n ≤ 255) : bOne n [97, 98, 99, 100, 101, 102, 103, 104, 105, 106, 107, 108, 109, 110, 111, 112, 113, 114, 115, 116, 117, 118, 119, 120, 121, 122, 65, 66, 67, 68, 69, 70, 71, 72, 73, 74, 75, 76, 77, 78, 79, 80, 81, 82, 83, 84, 85, 86, 87, 88, 89, 90, 48, 49, 50, 51, 52, 53, 54, 55, 56, 57, 45, 46, 95, 126] = bUnres n :=
  all256 (fun n => bOne n [97, 98, 99, 100, 101, 102, 103, 104, 105, 106, 107, 108, 109, 110, 111, 112, 113, 114, 115, 116, 117, 118, 119, 120, 121, 122, 65, 66, 67, 68, 69, 70, 71, 72, 73, 74, 75, 76, 77, 78, 79, 80, 81, 82, 83, 84, 85, 86, 87, 88, 89, 90, 48, 49, 50, 51, 52, 53, 54, 55, 56, 57, 45, 46, 95, 126]) bUnres (by decide +kernel) n h0 h1

theorem rUnreserved_any (n : Int) (w : World) (h0 : 0 ≤ n) (h1 : n ≤ 255) :
    Calls Tryd.prog 77 #[.int .u8 n] w fun e w' => e = .returned (.bool (bUnres n)) ∧ w = w' := by
  go_enter Tryd.func77, Tryd.ntmps77
  go_wp2_with ((go_at_call 99; refine (in_any _ _ _ (by decide)).mono ?_; rintro e w' ⟨rfl, rfl⟩))
  all_goals go_ret
  all_goals exact ⟨ret_bool (rUnreserved_list n h0 h1), rfl⟩

theorem rSub_list (n : Int) (h0 : 0 ≤ n) (h1 : n ≤ 255) : bOne n [33, 36, 38, 39, 40, 41, 42, 43, 44, 59, 61] = bSub n :=
  all256 (fun n => bOne n [33, 36, 38, 39, 40, 41, 42, 43, 44, 59, 61]) bSub (by decide +kernel) n h0 h1

theorem rSub_any (n : Int) (w : World) (h0 : 0 ≤ n) (h1 : n ≤ 255) :
    Calls Tryd.prog 78 #[.int .u8 n] w fun e w' => e = .returned (.bool (bSub n)) ∧ w = w' := by
  go_enter Tryd.func78, Tryd.ntmps78
  go_wp2_with ((go_at_call 99; refine (in_any _ _ _ (by decide)).mono ?_; rintro e w' ⟨rfl, rfl⟩))
  all_goals go_ret
  all_goals exact ⟨ret_bool (rSub_list n h0 h1), rfl⟩

theorem rPath_plain (n : Int) (h0 : 0 ≤ n) (h1 : n ≤ 255) : (bUnres n || bSub n || (n == 58) || (n == 64)) = bPath n :=
  all256 (fun n => bUnres n || bSub n || (n == 58) || (n == 64)) bPath (by decide +kernel) n h0 h1

theorem rPath_any (n : Int) (w : World) (h0 : 0 ≤ n) (h1 : n ≤ 255) :
    Calls Tryd.prog 98 #[.int .u8 n] w fun e w' => e = .returned (.bool (bPath n)) ∧ w = w' := by
  go_enter Tryd.func98, Tryd.ntmps98
  go_wp2_with (first | (go_at_call 77; refine (rUnreserved_any _ _ h0 h1).mono ?_; rintro e w' ⟨rfl, rfl⟩) | (go_at_call 78; refine (rSub_any _ _ h0 h1).mono ?_; rintro e w' ⟨rfl, rfl⟩))
  all_goals go_ret
  all_goals exact ⟨ret_bool (by rw [← rPath_plain n h0 h1]; simp_all), rfl⟩

end Go.Proofs.YthhpijmkhhdhhaaDoor
