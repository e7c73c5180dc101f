/- The reference's Text. -/
import Derived.Test.YthhpijmkhhdhhaaDoorHText
namespace Go.Proofs.YthhpijmkhhdhhaaDoor
open Go.RowKit
set_option linter.unusedVariables false
set_option linter.unusedSimpArgs false

set_option maxRecDepth 1000000 in
set_option maxHeartbeats 4000000 in
theorem rTextH_any (h : HostB) (w : World) (hs : h.Nm.size ≤ 1000) (h0 : -9223372036854775808 ≤ h.Po) (h1 : h.Po ≤ 9223372036854775807) :
    Calls Tryd.prog 58 #[h.val] w fun e w' => e = .returned (txtV h) ∧ Below w.heap.size w w' := by
  have htl := txtL_len h h0 h1
  have PA := Lib.hid (fun W => rParseH_any (mkH (txtL h)) W (by rw [mkH_size]; omega))
  have htv : txtV h = if backH h then .tuple #[.string (mkH (txtL h)), .int .i64 0] else .tuple #[.string ⟨#[]⟩, .int .i64 27] := rfl
  obtain ⟨X, ee, hpv, hbk⟩ : ∃ X ee, hostV (parseB (mkH (txtL h))) = .tuple #[HostB.val X, .int .i64 ee] ∧ ((ee = 27 ∧ backH h = false) ∨ (ee = 0 ∧ backH h = hostEq X h)) := by
    unfold backH
    cases parseB (mkH (txtL h)) with
    | some x => exact ⟨x, 0, rfl, .inr ⟨rfl, rfl⟩⟩
    | none => exact ⟨_, 27, rfl, .inl ⟨rfl, rfl⟩⟩
  rw [hpv] at PA
  have NQ := fun W => host_neq X h W
  obtain ⟨bk, hbk2⟩ : ∃ bk, backH h = bk := ⟨_, rfl⟩
  rw [hbk2] at hbk htv
  have HBK := Lib.hid hbk; clear hbk hpv hbk2
  have htx : txtL h = preL h ++ (if h.Po = -1 then [] else 58 :: textB 10 h.Po) := rfl
  have hpr : preL h = if h.K = 3 then 91 :: (h.Nm.data.toList ++ [93]) else h.Nm.data.toList := rfl
  have hprl : (preL h).length ≤ h.Nm.size + 2 := by rw [hpr, Lib.size_eq]; split <;> simp
  have TX := Lib.hid (fun W => rText3_any 10 (.inl rfl) h.Po W h1)
  have hT : ∃ T : ByteArray, (⟨(textB 10 h.Po).toArray⟩ : ByteArray) = T ∧ T.data.toList = textB 10 h.Po := ⟨_, rfl, rfl⟩
  obtain ⟨T, hT1, hT2⟩ := hT
  have hTl := textB_len h.Po h0 h1
  rw [hT1, show ((10 : Nat) : Int) = 10 from rfl] at TX
  rw [← hT2] at htx hTl
  rw [← Lib.size_eq] at hTl
  obtain ⟨tx, htx2⟩ : ∃ tx, txtL h = tx := ⟨_, rfl⟩
  obtain ⟨pr, hpr2⟩ : ∃ pr, preL h = pr := ⟨_, rfl⟩
  rw [htx2] at PA htx htv htl
  rw [hpr2] at htx hpr hprl
  clear htx2 hpr2 hT1 hT2
  obtain ⟨K, Nm, Po⟩ := h
  simp only at hs h0 h1 htl htx hpr hprl TX
  have HTX := Lib.hid htx; have HTV := Lib.hid htv; have HPR := Lib.hid hpr; clear htx htv hpr
  have r1 : HostAt (w.alloc (.cells (⟨K, Nm, Po⟩ : HostB).cells 69)) w.heap.size ⟨K, Nm, Po⟩ := hostAt_new w _
  have hb1 : Below w.heap.size w (w.alloc (.cells (⟨K, Nm, Po⟩ : HostB).cells 69)) := (Below.refl _ _).alloc (Nat.le_refl _) _
  unfold HostB.val HostB.cells at PA NQ
  simp only at PA NQ
  show Calls Tryd.prog 58 #[.agg #[.int .i64 K, .string Nm, .int .i64 Po]] w _
  go_enter Tryd.func58, Tryd.ntmps58
  go_upto_region 1 with fail
  obtain ⟨w1, hw1⟩ : ∃ w1, w.alloc (.cells (⟨K, Nm, Po⟩ : HostB).cells 69) = w1 := ⟨_, rfl⟩
  rw [hw1] at r1 hb1
  unfold HostB.cells at hw1
  simp only at hw1
  rw [hw1]
  clear hw1
  have R1 := Lib.hid r1; have HB1 := Lib.hid hb1; clear hb1
  obtain ⟨c0, c1, c2⟩ := host_cells r1
  dsimp only at c0 c1 c2
  clear r1
  go_upto_if 11 with fail
  go_cut [4] (fun v wx => v = .string (mkH pr) ∧ HostAt wx w.heap.size ⟨K, Nm, Po⟩ ∧ Below w.heap.size w wx)
  case first =>
    by_cases hk : K = 3
    · subst hk
      have HX : Hid (mkH pr = ⟨#[91]⟩ ++ Nm ++ ⟨#[93]⟩) := Lib.hid (by rw [HPR.out]; exact bytes_extX (by simp [mkH_data, ByteArray.data_append]))
      have q1 : (⟨#[91]⟩ : ByteArray).size + Nm.size ≤ 9223372036854775807 := by show 1 + Nm.size ≤ _; omega
      have q2 : (⟨#[91]⟩ ++ Nm : ByteArray).size + (⟨#[93]⟩ : ByteArray).size ≤ 9223372036854775807 := by rw [ByteArray.size_append]; show 1 + Nm.size + 1 ≤ _; omega
      go_wp2_with fail
      go_meet
      exact ⟨by rw [HX.out], R1.out, HB1.out⟩
    · have hk1 : (K == 3) = false := by rw [beq_eq_false_iff_ne]; exact hk
      have HX : Hid (mkH pr = Nm) := Lib.hid (by rw [HPR.out, if_neg hk, mkH_of])
      go_wp2_with fail
      go_meet
      exact ⟨by rw [HX.out], R1.out, HB1.out⟩
  case rest =>
    obtain ⟨rfl, hr3, hb3⟩ := hcut
    clear R1 HB1 c0 c1 c2
    have R3 := Lib.hid hr3; have HB3 := Lib.hid hb3
    clear hr3 hb3
    obtain ⟨c0, c1, c2⟩ := host_cells R3.out
    dsimp only at c0 c1 c2
    obtain ⟨H, hH⟩ : ∃ H, mkH pr = H := ⟨_, rfl⟩
    have hHs : H.size ≤ 1002 := by rw [← hH, mkH_size]; omega
    have HHd : Hid (H.data.toList = pr) := Lib.hid (by rw [← hH, mkH_data])
    rw [hH]
    clear hH
    go_upto_if 17 with fail
    go_cut [4] (fun v wx => v = .string (mkH tx) ∧ HostAt wx w.heap.size ⟨K, Nm, Po⟩ ∧ Below w.heap.size w wx)
    case first =>
      by_cases hpo : Po = -1
      · have hp1 : (Po != -1) = false := by rw [bne, beq_iff_eq.2 hpo]; rfl
        have HT3 : Hid (mkH tx = H) := Lib.hid (by rw [HTX.out, if_pos hpo, List.append_nil, ← HHd.out, mkH_of])
        clear hpo
        go_wp2_with fail
        go_meet
        exact ⟨by rw [HT3.out], R3.out, HB3.out⟩
      · have hp1 : (Po != -1) = true := by rw [bne, beq_eq_false_iff_ne.2 hpo]; rfl
        have HT3 : Hid (mkH tx = H ++ ⟨#[58]⟩ ++ T) := Lib.hid (by rw [HTX.out, if_neg hpo]; exact bytes_extX (by simp [mkH_data, ByteArray.data_append, HHd.out]))
        have q1 : H.size + (⟨#[58]⟩ : ByteArray).size ≤ 9223372036854775807 := by show H.size + 1 ≤ _; omega
        have q2 : (H ++ ⟨#[58]⟩ : ByteArray).size + T.size ≤ 9223372036854775807 := by rw [ByteArray.size_append]; show H.size + 1 + T.size ≤ _; omega
        clear hpo
        go_wp2_with fail
        refine (TX.out _).mono ?_
        rintro e w4 ⟨rfl, hw4⟩
        have R4 := Lib.hid (hostAt_call R3.out hw4); have HB4 := Lib.hid (bseq HB3.out hw4)
        clear hw4
        go_wp2_with fail
        go_meet
        exact ⟨by rw [HT3.out], R4.out, HB4.out⟩
    case rest =>
      obtain ⟨rfl, hr5, hb5⟩ := hcut
      clear R3 HB3 c0 c1 c2 hHs HHd
      have R6 := Lib.hid hr5; have HB6 := Lib.hid hb5
      clear hr5 hb5
      obtain ⟨X0, X1, X2⟩ := X
      simp only at PA NQ
      go_wp2_with fail
      refine (PA.out _).mono ?_
      rintro e w7 ⟨rfl, hw7⟩
      have r7 := hostAt_call R6.out hw7
      have hbb := bseq HB6.out hw7
      have N7 := Lib.hid (hostAt_new w7 ⟨X0, X1, X2⟩)
      have R7 := Lib.hid (hostAt_alloc r7 (.cells (⟨X0, X1, X2⟩ : HostB).cells 69))
      have HB7 := Lib.hid (hbb.alloc hbb.size (.cells (⟨X0, X1, X2⟩ : HostB).cells 69))
      clear r7 hbb hw7 R6 HB6 PA
      obtain ⟨c0, c1, c2⟩ := host_cells R7.out
      obtain ⟨d0, d1, d2⟩ := host_cells N7.out
      dsimp only [HostB.cells] at c0 c1 c2 d0 d1 d2
      rcases HBK.out with ⟨rfl, hk⟩ | ⟨rfl, hk⟩
      · have HK := Lib.hid hk; clear hk
        go_wp2_with fail
        go_ret2
        exact ⟨by rw [HTV.out, HK.out]; rfl, HB7.out⟩
      · have HK := Lib.hid hk; clear hk
        cases hre : hostEq ⟨X0, X1, X2⟩ ⟨K, Nm, Po⟩ with
        | true =>
          rw [hre] at HK
          simp only [hre] at NQ
          clear hre
          go_wp2_with fail
          go_ret2
          exact ⟨by rw [HTV.out, HK.out]; rfl, HB7.out⟩
        | false =>
          rw [hre] at HK
          simp only [hre] at NQ
          clear hre
          go_wp2_with fail
          go_ret2
          exact ⟨by rw [HTV.out, HK.out]; rfl, HB7.out⟩

end Go.Proofs.YthhpijmkhhdhhaaDoor
