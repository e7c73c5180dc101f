/- The reference's Name. -/
import Derived.Test.YthhpijmkhhdhhaaDoorHName
import Derived.IntWalk
namespace Go.Proofs.YthhpijmkhhdhhaaDoor
open Go.RowKit
set_option linter.unusedVariables false
set_option linter.unusedSimpArgs false

set_option maxRecDepth 100000 in
set_option maxHeartbeats 400000 in
theorem rName_any (s : ByteArray) (w : World) (hs : s.size ≤ 1000000) :
    Calls Tryd.prog 48 #[.string s] w fun e w' => e = .returned (.bool (nameL s.data.toList)) ∧ w = w' := by
  have HV : Hid (nameL s.data.toList = (decide (0 < s.size) && pctL nameQ s.data.toList)) := Lib.hid (by
    unfold nameL
    rcases Nat.eq_zero_or_pos s.size with h | h
    · rw [size0 s h, decide_eq_false (by omega)]; rfl
    · rw [← Lib.toList_data, nonempty_of_size s h, decide_eq_true h]; rfl)
  go_enter Tryd.func48, Tryd.ntmps48
  go_wp2_with fail
  go_loop [3] (fun i => ∃ k : Nat, k ≤ s.size ∧ i = .int .i64 k ∧ Hid (pctL nameQ s.data.toList = pctL nameQ (s.data.toList.drop k))) (fun i => s.size - (intOf i).toNat)
  case atStart => exact ⟨0, Nat.zero_le _, rfl, rfl⟩
  case round =>
    obtain ⟨k, hk, rfl, hp⟩ := hrel
    by_cases hlt : k < s.size
    · have hx255 := u8_255 s[k]
      have IU := Lib.hid (fun W => rUnreserved_any (s[k].toNat : Int) W (by omega) hx255)
      have IS := Lib.hid (fun W => rSub_any (s[k].toNat : Int) W (by omega) hx255)
      by_cases h37 : s[k].toNat = 37
      · have hc37 : ((s[k].toNat : Int) == 37) = true := by rw [h37]; rfl
        have g2 : IntKind.i64.wrap ((k : Int) + 2) = (k : Int) + 2 := IntWalk.i64_in _ (by omega)
        by_cases h2 : k + 2 < s.size
        · have hd := hp.out
          rw [drop3 s k h2, pctL_pct _ _ _ _ _ h37] at hd
          have R1 := Lib.hid (fun w => rHex_any (s[k + 1].toNat : Int) w (by omega) (u8_255 _))
          have R2 := Lib.hid (fun w => rHex_any (s[k + 2].toNat : Int) w (by omega) (u8_255 _))
          obtain ⟨a, ha⟩ : ∃ a, bHex (s[k + 1].toNat : Int) = a := ⟨_, rfl⟩
          obtain ⟨b, hb⟩ : ∃ b, bHex (s[k + 2].toNat : Int) = b := ⟨_, rfl⟩
          rw [ha] at hd R1
          rw [hb] at hd R2
          have HD := Lib.hid hd
          have HK := Lib.hid h37; clear hd ha hb h37
          have g1 : (k : Int) + 2 < (s.size : Int) := by omega
          have g3 : IntKind.i64.wrap ((k : Int) + 1) = (k : Int) + 1 := IntWalk.i64_in _ (by omega)
          have g4 : (k : Int) + 1 < (s.size : Int) := by omega
          have g6 : k + 1 < s.size := by omega
          cases a with
          | false =>
            have HN : Hid (pctL nameQ s.data.toList = false) := Lib.hid (by rw [HD.out]; rfl)
            go_wp2_with fail
            (refine (R1.out _).mono ?_; rintro e w' ⟨rfl, rfl⟩; go_wp2_with fail)
            go_ret
            exact ⟨ret_bool (by rw [HV.out, HN.out]; simp), rfl⟩
          | true =>
            cases b with
            | false =>
              have HN : Hid (pctL nameQ s.data.toList = false) := Lib.hid (by rw [HD.out]; rfl)
              go_wp2_with fail
              (refine (R1.out _).mono ?_; rintro e w' ⟨rfl, rfl⟩; go_wp2_with fail)
              (refine (R2.out _).mono ?_; rintro e w' ⟨rfl, rfl⟩; go_wp2_with fail)
              go_ret
              exact ⟨ret_bool (by rw [HV.out, HN.out]; simp), rfl⟩
            | true =>
              have HN : Hid (pctL nameQ s.data.toList = pctL nameQ (s.data.toList.drop (k + 3))) := Lib.hid (by rw [HD.out]; rfl)
              go_wp2_with fail
              (refine (R1.out _).mono ?_; rintro e w' ⟨rfl, rfl⟩; go_wp2_with fail)
              (refine (R2.out _).mono ?_; rintro e w' ⟨rfl, rfl⟩; go_wp2_with fail)
              go_round
              case rel => exact ⟨k + 3, by omega, by go_num, HN⟩
              case measure => simp [intOf]; omega
        · obtain ⟨r, hr, hr2⟩ := drop_short s k hlt (by omega)
          have HN : Hid (pctL nameQ s.data.toList = false) := Lib.hid (by rw [hp.out, hr, pctL_short _ _ _ h37 hr2])
          have g1 : ¬ (k : Int) + 2 < (s.size : Int) := by omega
          have HK := Lib.hid h37; clear h37 hr hr2
          go_wp2_with fail
          go_ret
          exact ⟨ret_bool (by rw [HV.out, HN.out]; simp), rfl⟩
      · have hc37 : ((s[k].toNat : Int) == 37) = false := by rw [beq_eq_false_iff_ne]; omega
        have hd := hp.out
        rw [drop_cons s k hlt, pctL_plain _ _ _ h37, show nameQ (s[k].toNat : Int) = (bUnres (s[k].toNat : Int) || bSub (s[k].toNat : Int)) from rfl] at hd
        obtain ⟨u, hu⟩ : ∃ u, bUnres (s[k].toNat : Int) = u := ⟨_, rfl⟩
        obtain ⟨b, hbs⟩ : ∃ b, bSub (s[k].toNat : Int) = b := ⟨_, rfl⟩
        rw [hu] at hd IU
        rw [hbs] at hd IS
        have HD := Lib.hid hd
        have HK := Lib.hid h37; clear hd hu hbs h37
        cases u with
        | true =>
          have HN : Hid (pctL nameQ s.data.toList = pctL nameQ (s.data.toList.drop (k + 1))) := Lib.hid (by rw [HD.out]; rfl)
          go_wp2_with fail
          (refine (IU.out _).mono ?_; rintro e w' ⟨rfl, rfl⟩; go_wp2_with fail)
          go_round
          case rel => exact ⟨k + 1, by omega, by go_num, HN⟩
          case measure => simp [intOf]; omega
        | false =>
          cases b with
          | true =>
            have HN : Hid (pctL nameQ s.data.toList = pctL nameQ (s.data.toList.drop (k + 1))) := Lib.hid (by rw [HD.out]; rfl)
            go_wp2_with fail
            (refine (IU.out _).mono ?_; rintro e w' ⟨rfl, rfl⟩; go_wp2_with fail)
            (refine (IS.out _).mono ?_; rintro e w' ⟨rfl, rfl⟩; go_wp2_with fail)
            go_round
            case rel => exact ⟨k + 1, by omega, by go_num, HN⟩
            case measure => simp [intOf]; omega
          | false =>
            have HN : Hid (pctL nameQ s.data.toList = false) := Lib.hid (by rw [HD.out]; rfl)
            go_wp2_with fail
            (refine (IU.out _).mono ?_; rintro e w' ⟨rfl, rfl⟩; go_wp2_with fail)
            (refine (IS.out _).mono ?_; rintro e w' ⟨rfl, rfl⟩; go_wp2_with fail)
            go_ret
            exact ⟨ret_bool (by rw [HV.out, HN.out]; simp), rfl⟩
    · obtain rfl : k = s.size := by omega
      have HN : Hid (pctL nameQ s.data.toList = true) := Lib.hid (by rw [hp.out, drop_all s _ (Nat.le_refl _)]; rfl)
      have hk0 : decide ((0 : Int) < (s.size : Int)) = decide (0 < s.size) := by rw [decide_eq_decide]; omega
      go_wp2_with fail
      go_ret
      exact ⟨ret_bool (by rw [HV.out, HN.out]; simp), rfl⟩

end Go.Proofs.YthhpijmkhhdhhaaDoor
