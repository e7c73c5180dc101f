/- The laws of layer 45: awake, and the walks of EventsRead and EventsWrite. -/
import Derived.Test.YthhpijmkhhdhhaaDoorEv3
namespace Go.Proofs.YthhpijmkhhdhhaaDoor
open Go.RowKit
set_option linter.unusedVariables false
set_option linter.unusedSimpArgs false

theorem evParse_at (s : ByteArray) (w : World) (hs : s.size ≤ 100000) (hM : MaxAt w) (hP : PowAt w) (k n f : Int) (h1 : (if evYes s.data.toList then (evCand s.data.toList).1 else 0) = k) (h2 : (if evYes s.data.toList then (evCand s.data.toList).2 else 0) = n) (h3 : (if evYes s.data.toList then (0 : Int) else 2) = f) :
    Calls Tryd.prog 37 #[.string s] w fun e w' => e = .returned (.tuple #[.agg #[.int .i64 k, .int .i64 n], .int .i64 f]) ∧ Below w.heap.size w w' := by
  refine (evParse_any s w hs hM hP).mono ?_
  rintro e w' ⟨rfl, hb⟩
  rw [h1, h2, h3]
  exact ⟨rfl, hb⟩
theorem rEvParse_at (s : ByteArray) (w : World) (hs : s.size ≤ 100000) (k n f : Int) (h1 : (if evYes s.data.toList then (evCand s.data.toList).1 else 0) = k) (h2 : (if evYes s.data.toList then (evCand s.data.toList).2 else 0) = n) (h3 : (if evYes s.data.toList then (0 : Int) else 2) = f) :
    Calls Tryd.prog 38 #[.string s] w fun e w' => e = .returned (.tuple #[.agg #[.int .i64 k, .int .i64 n], .int .i64 f]) ∧ Below w.heap.size w w' := by
  refine (rEvParse_any s w hs).mono ?_
  rintro e w' ⟨rfl, hb⟩
  rw [h1, h2, h3]
  exact ⟨rfl, hb⟩
theorem evText_at (k n : Int) (w : World) (hn0 : -9223372036854775808 ≤ n) (hn1 : n ≤ 9223372036854775807) (hP : PowAt w) (s : ByteArray) (f : Int) (h1 : evT k n = s.data.toList) (h2 : evE k n = f) :
    Calls Tryd.prog 39 #[.agg #[.int .i64 k, .int .i64 n]] w fun e w' => e = .returned (.tuple #[.string s, .int .i64 f]) ∧ Below w.heap.size w w' := by
  refine (evText_any k n w hn0 hn1 hP).mono ?_
  rintro e w' ⟨rfl, hb⟩
  rw [h1, h2, Lib.mk_data]
  exact ⟨rfl, hb⟩
theorem rEvText_at (k n : Int) (w : World) (hn0 : -9223372036854775808 ≤ n) (hn1 : n ≤ 9223372036854775807) (s : ByteArray) (f : Int) (h1 : evT k n = s.data.toList) (h2 : evE k n = f) :
    Calls Tryd.prog 40 #[.agg #[.int .i64 k, .int .i64 n]] w fun e w' => e = .returned (.tuple #[.string s, .int .i64 f]) ∧ Below w.heap.size w w' := by
  refine (rEvText_any k n w hn0 hn1).mono ?_
  rintro e w' ⟨rfl, hb⟩
  rw [h1, h2, Lib.mk_data]
  exact ⟨rfl, hb⟩

/-- An event that was laid into a block of its own stays. -/
theorem ev_kept {w1 w2 : World} {k n : Int} (hb : Below (w1.alloc (.cells #[.int .i64 k, .int .i64 n] 47)).heap.size (w1.alloc (.cells #[.int .i64 k, .int .i64 n] 47)) w2) :
    w2.cell? ⟨w1.heap.size, 0, none⟩ = some (.int .i64 k) ∧ w2.cell? ⟨w1.heap.size, 1, none⟩ = some (.int .i64 n) ∧ w1.heap.size < w2.heap.size := by
  have hk := (hb.block w1.heap.size (by simp)).trans (heap_alloc_new w1 _)
  exact ⟨by rw [cell_of_row w2 w1.heap.size 0 _ _ _ hk]; rfl, by rw [cell_of_row w2 w1.heap.size 1 _ _ _ hk]; rfl, lt_of_block hk⟩

theorem awake45_any (w : World) (hM : MaxAt w) (hP : PowAt w) : Calls Tryd.prog 36 #[] w fun e w' => e = .returned (.bool true) ∧ Below w.heap.size w w' := by
  have HM := Lib.hid hM; clear hM
  have HP := Lib.hid hP; clear hP
  have C := Lib.hid (evParse_at ⟨#[99, 108, 105, 101, 110, 116, 32, 53]⟩ w (by decide) HM.out HP.out 1 5 0 (by decide +kernel) (by decide +kernel) (by decide +kernel))
  have T := Lib.hid (fun w h => evText_at 4 0 w (by decide) (by decide) h ⟨#[117, 112, 115, 116, 114, 101, 97, 109, 32, 101, 110, 100]⟩ 0 (by decide +kernel) (by decide +kernel))
  go_enter Tryd.func36, Tryd.ntmps36
  go_wp2_with fail
  refine C.out.mono ?_
  rintro e w1 ⟨rfl, hb1⟩
  have HA1 : Hid (Below w.heap.size w (w1.alloc (.cells #[.int .i64 1, .int .i64 5] 47))) := Lib.hid (hb1.alloc hb1.size _)
  clear hb1
  go_wp2_with fail
  refine (T.out _ (powAt_below HP.out HA1.out)).mono ?_
  rintro e w2 ⟨rfl, hb2⟩
  obtain ⟨c0, c1, _⟩ := ev_kept hb2
  have HB2 := Lib.hid (bseq HA1.out hb2); clear hb2
  go_wp2_with fail
  go_ret
  exact ⟨rfl, HB2.out⟩

/-- What the laws look at: the program's answer and the reference's are one. -/
theorem evScen (l : List UInt8) : (evYes l = true ∧ ∃ k n, evCand l = (k, n) ∧ evE k n = 0 ∧ evT k n = l ∧ 0 ≤ n ∧ n ≤ 1048576) ∨ evYes l = false := by
  cases h : evYes l with
  | false => exact .inr rfl
  | true =>
    left
    refine ⟨rfl, (evCand l).1, (evCand l).2, rfl, ?_⟩
    unfold evYes at h
    simp only [Bool.and_eq_true, beq_iff_eq] at h
    obtain ⟨h1, h2⟩ := h
    refine ⟨by unfold evE; rw [h1]; rfl, by unfold evT; rw [h1]; exact h2, ?_⟩
    rcases evOk_cases h1 with ⟨_, a, b⟩ | ⟨_, a, b⟩ | ⟨_, a⟩ | ⟨_, a⟩ <;> omega

set_option maxRecDepth 100000 in
set_option maxHeartbeats 1000000 in
theorem eventsRead_walk (s : ByteArray) (w : World) (hs : s.size ≤ maxLen) (hM : MaxAt w) (hP : PowAt w) :
    Calls Tryd.prog 9 #[.string s] w fun e w' => e = .returned (.bool true) ∧ Below w.heap.size w w' := by
  unfold maxLen at hs
  have HM := Lib.hid hM; clear hM
  have HP := Lib.hid hP; clear hP
  have AW := Lib.hid (awake45_any w HM.out HP.out)
  obtain ⟨t, hT⟩ : ∃ t, cutX 60 s = t := ⟨_, rfl⟩
  have ht : t.size ≤ 60 := by rw [← hT, cutX_size]; omega
  have hx : s.extract 0 (min (s.size : Int) 60).toNat = t := by rw [extract_cutX 60 s _ (by omega), hT]
  have n1 := eq_selfX t
  clear hT
  rcases evScen t.data.toList with ⟨hy, k, n, hc, hE, hTx, a0, a1⟩ | hy
  · have P1 := Lib.hid (fun w a b => evParse_at t w (by omega) a b k n 0 (by rw [hy, hc]; rfl) (by rw [hy, hc]; rfl) (by rw [hy]; rfl))
    have P2 := Lib.hid (fun w => rEvParse_at t w (by omega) k n 0 (by rw [hy, hc]; rfl) (by rw [hy, hc]; rfl) (by rw [hy]; rfl))
    have T1 := Lib.hid (fun w a => evText_at k n w (by omega) (by omega) a t 0 hTx hE)
    clear hy hc hE hTx
    go_enter Tryd.func9, Tryd.ntmps9
    go_wp2_with fail
    (refine (AW.out).mono ?_; rintro e w1 ⟨rfl, h1⟩; have H1 := Lib.hid h1; clear h1; go_wp2_with fail)
    refine (P1.out _ (maxAt_below HM.out H1.out) (powAt_below HP.out H1.out)).mono ?_
    rintro e w2 ⟨rfl, hb2⟩
    have H2 := Lib.hid (bseq H1.out hb2)
    have A2 : Hid (Below w.heap.size w (w2.alloc (.cells #[.int .i64 k, .int .i64 n] 47))) := Lib.hid (H2.out.alloc H2.out.size _)
    clear hb2
    go_wp2_with fail
    refine (P2.out _).mono ?_
    rintro e w3 ⟨rfl, hb3⟩
    obtain ⟨c0, c1, hlt⟩ := ev_kept hb3
    have hA3 := hb3.alloc hb3.size (.cells #[.int .i64 k, .int .i64 n] 47)
    have A3 : Hid (Below w.heap.size w (w3.alloc (.cells #[.int .i64 k, .int .i64 n] 47))) := Lib.hid (bseq A2.out hA3)
    obtain ⟨d0, d1, hlt2⟩ := ev_kept (w2 := w3.alloc (.cells #[.int .i64 k, .int .i64 n] 47)) hA3
    have HA3 := Lib.hid hA3
    clear hb3 hA3
    go_wp2_with fail
    refine (T1.out _ (powAt_below HP.out A3.out)).mono ?_
    rintro e w4 ⟨rfl, hb4⟩
    obtain ⟨e0, e1, _⟩ := ev_kept hb4
    have f0 : w4.cell? ⟨w2.heap.size, 0, none⟩ = some (.int .i64 k) := (hb4.cell (p := ⟨w2.heap.size, 0, none⟩) (by exact hlt2)).trans d0
    have f1 : w4.cell? ⟨w2.heap.size, 1, none⟩ = some (.int .i64 n) := (hb4.cell (p := ⟨w2.heap.size, 1, none⟩) (by exact hlt2)).trans d1
    have H4 := Lib.hid (bseq A3.out hb4)
    clear hb4 c0 c1 d0 d1
    go_wp2_with fail
    go_ret
    exact ⟨ret_bool (by simp), H4.out⟩
  · have P1 := Lib.hid (fun w a b => evParse_at t w (by omega) a b 0 0 2 (by rw [hy]; rfl) (by rw [hy]; rfl) (by rw [hy]; rfl))
    have P2 := Lib.hid (fun w => rEvParse_at t w (by omega) 0 0 2 (by rw [hy]; rfl) (by rw [hy]; rfl) (by rw [hy]; rfl))
    have T1 := Lib.hid (fun w a => evText_at 0 0 w (by decide) (by decide) a ⟨#[]⟩ 1 rfl rfl)
    clear hy
    go_enter Tryd.func9, Tryd.ntmps9
    go_wp2_with fail
    (refine (AW.out).mono ?_; rintro e w1 ⟨rfl, h1⟩; have H1 := Lib.hid h1; clear h1; go_wp2_with fail)
    refine (P1.out _ (maxAt_below HM.out H1.out) (powAt_below HP.out H1.out)).mono ?_
    rintro e w2 ⟨rfl, hb2⟩
    have H2 := Lib.hid (bseq H1.out hb2)
    have A2 : Hid (Below w.heap.size w (w2.alloc (.cells #[.int .i64 0, .int .i64 0] 47))) := Lib.hid (H2.out.alloc H2.out.size _)
    clear hb2
    go_wp2_with fail
    refine (P2.out _).mono ?_
    rintro e w3 ⟨rfl, hb3⟩
    obtain ⟨c0, c1, hlt⟩ := ev_kept hb3
    have hA3 := hb3.alloc hb3.size (.cells #[.int .i64 0, .int .i64 0] 47)
    have A3 : Hid (Below w.heap.size w (w3.alloc (.cells #[.int .i64 0, .int .i64 0] 47))) := Lib.hid (bseq A2.out hA3)
    obtain ⟨d0, d1, hlt2⟩ := ev_kept (w2 := w3.alloc (.cells #[.int .i64 0, .int .i64 0] 47)) hA3
    have HA3 := Lib.hid hA3
    clear hb3 hA3
    go_wp2_with fail
    refine (T1.out _ (powAt_below HP.out A3.out)).mono ?_
    rintro e w4 ⟨rfl, hb4⟩
    obtain ⟨e0, e1, _⟩ := ev_kept hb4
    have f0 : w4.cell? ⟨w2.heap.size, 0, none⟩ = some (.int .i64 0) := (hb4.cell (p := ⟨w2.heap.size, 0, none⟩) (by exact hlt2)).trans d0
    have f1 : w4.cell? ⟨w2.heap.size, 1, none⟩ = some (.int .i64 0) := (hb4.cell (p := ⟨w2.heap.size, 1, none⟩) (by exact hlt2)).trans d1
    have H4 := Lib.hid (bseq A3.out hb4)
    clear hb4 c0 c1 d0 d1
    go_wp2_with fail
    go_ret
    exact ⟨rfl, H4.out⟩


set_option maxRecDepth 100000 in
set_option maxHeartbeats 1000000 in
theorem eventsWrite_walk (k n : Int) (w : World) (hn0 : -9223372036854775808 ≤ n) (hn1 : n ≤ 9223372036854775807) (hM : MaxAt w) (hP : PowAt w) :
    Calls Tryd.prog 10 #[.agg #[.int .i64 k, .int .i64 n]] w fun e w' => e = .returned (.bool true) ∧ Below w.heap.size w w' := by
  have HM := Lib.hid hM; clear hM
  have HP := Lib.hid hP; clear hP
  have AWW := Lib.hid (fun w a b => awake45_any w a b)
  have CK := Lib.hid (fun w => evCheck_any k n w)
  unfold evV at CK
  obtain ⟨S, hS⟩ : ∃ S : ByteArray, ⟨(evT k n).toArray⟩ = S := ⟨_, rfl⟩
  have hSl : evT k n = S.data.toList := by rw [← hS]
  have n1 := eq_selfX S
  by_cases h0 : evE k n = 0
  · have hok := ev_ok h0
    have T1 := Lib.hid (fun w a => evText_at k n w hn0 hn1 a S 0 hSl h0)
    have T2 := Lib.hid (fun w => rEvText_at k n w hn0 hn1 S 0 hSl h0)
    have hST : S.data.toList = evText k n := by rw [← hSl]; unfold evT; rw [hok]; rfl
    have hy : evYes S.data.toList = true := by unfold evYes; rw [hST, evCand_text hok]; simp [hok]
    have hc : evCand S.data.toList = (k, n) := by rw [hST]; exact evCand_text hok
    have hSs : S.size ≤ 100000 := by
      rw [Lib.size_eq, hST]
      unfold evText
      have h1 : (if (k == 1 || k == 2) = true then clientS else upS).length ≤ 8 := by split <;> decide
      have h2 : (if (k == 2 || k == 4) = true then endS else digL 10 n.toNat).length ≤ 64 := by
        split
        · decide
        · exact digL_len (by omega) 64 _ (by omega) (by
            have h3 : (9223372036854775807 : Nat) < 10 ^ 64 := by decide
            omega)
      rw [List.length_append, List.length_cons]; omega
    have P1 := Lib.hid (fun w a b => evParse_at S w hSs a b k n 0 (by rw [hy, hc]; rfl) (by rw [hy, hc]; rfl) (by rw [hy]; rfl))
    rw [h0] at CK
    clear hok hST hy hc hSs h0 hSl hS
    go_enter Tryd.func10, Tryd.ntmps10
    go_wp2_with fail
    obtain ⟨wb, hwb⟩ : ∃ wb, w.alloc (.cells #[.int .i64 k, .int .i64 n] 47) = wb := ⟨_, rfl⟩
    have kb : wb.heap[w.heap.size]? = some (.cells #[.int .i64 k, .int .i64 n] 47 (0, 0)) := by rw [← hwb]; exact heap_alloc_new w _
    have hbb : Below w.heap.size w wb := by rw [← hwb]; exact (Below.refl _ _).alloc (Nat.le_refl _) _
    have AW := Lib.hid (AWW.out wb (maxAt_below HM.out hbb) (powAt_below HP.out hbb))
    have HBB := Lib.hid hbb; clear hbb
    rw [hwb]
    refine AW.out.mono ?_
    rintro e w1 ⟨rfl, hb1⟩
    have k1 := (hb1.block _ (lt_of_block kb)).trans kb
    have H1 : Hid (Below w.heap.size w w1) := Lib.hid (bseq HBB.out hb1)
    have b0 : w1.cell? ⟨w.heap.size, 0, none⟩ = some (.int .i64 k) := by rw [cell_of_row w1 w.heap.size 0 _ _ _ k1]; rfl
    have b1 : w1.cell? ⟨w.heap.size, 1, none⟩ = some (.int .i64 n) := by rw [cell_of_row w1 w.heap.size 1 _ _ _ k1]; rfl
    have K1 := Lib.hid k1; clear k1 hb1 hwb kb AW AWW
    go_wp2_with fail
    refine (T1.out _ (powAt_below HP.out H1.out)).mono ?_
    rintro e w2 ⟨rfl, hb2⟩
    have k2 := (hb2.block _ (lt_of_block K1.out)).trans K1.out
    have H2 : Hid (Below w.heap.size w w2) := Lib.hid (bseq H1.out hb2)
    have d0 : w2.cell? ⟨w.heap.size, 0, none⟩ = some (.int .i64 k) := by rw [cell_of_row w2 w.heap.size 0 _ _ _ k2]; rfl
    have d1 : w2.cell? ⟨w.heap.size, 1, none⟩ = some (.int .i64 n) := by rw [cell_of_row w2 w.heap.size 1 _ _ _ k2]; rfl
    have K2 := Lib.hid k2; clear k2 hb2 b0 b1 K1
    go_wp2_with fail
    refine (T2.out _).mono ?_
    rintro e w3 ⟨rfl, hb3⟩
    have k3 := (hb3.block _ (lt_of_block K2.out)).trans K2.out
    have H3 : Hid (Below w.heap.size w w3) := Lib.hid (bseq H2.out hb3)
    have K3 := Lib.hid k3; clear k3 hb3 d0 d1 K2
    go_wp2_with fail
    refine (P1.out _ (maxAt_below HM.out H3.out) (powAt_below HP.out H3.out)).mono ?_
    rintro e w4 ⟨rfl, hb4⟩
    have hA4 := hb4.alloc hb4.size (.cells #[.int .i64 k, .int .i64 n] 47)
    have k4 := (hA4.block _ (lt_of_block K3.out)).trans K3.out
    have H4 : Hid (Below w.heap.size w (w4.alloc (.cells #[.int .i64 k, .int .i64 n] 47))) := Lib.hid (bseq H3.out hA4)
    have d0 : (w4.alloc (.cells #[.int .i64 k, .int .i64 n] 47)).cell? ⟨w.heap.size, 0, none⟩ = some (.int .i64 k) := by rw [cell_of_row _ w.heap.size 0 _ _ _ k4]; rfl
    have d1 : (w4.alloc (.cells #[.int .i64 k, .int .i64 n] 47)).cell? ⟨w.heap.size, 1, none⟩ = some (.int .i64 n) := by rw [cell_of_row _ w.heap.size 1 _ _ _ k4]; rfl
    have k44 := (hb4.block _ (lt_of_block K3.out)).trans K3.out
    have hne4 : w.heap.size < w4.heap.size := lt_of_block k44
    have e0 : w4.cell? ⟨w.heap.size, 0, none⟩ = some (.int .i64 k) := by rw [cell_of_row w4 w.heap.size 0 _ _ _ k44]; rfl
    have e1 : w4.cell? ⟨w.heap.size, 1, none⟩ = some (.int .i64 n) := by rw [cell_of_row w4 w.heap.size 1 _ _ _ k44]; rfl
    have K4 := Lib.hid k4; clear k4 k44 hb4 hA4 K3
    go_wp2_with fail
    refine (CK.out _).mono ?_
    rintro e w5 ⟨rfl, hb5⟩
    have k5 := (hb5.block _ (lt_of_block K4.out)).trans K4.out
    obtain ⟨x0, x1, _⟩ := ev_kept hb5
    have H5 : Hid (Below w.heap.size w w5) := Lib.hid (bseq H4.out hb5)
    have y0 : w5.cell? ⟨w.heap.size, 0, none⟩ = some (.int .i64 k) := by rw [cell_of_row w5 w.heap.size 0 _ _ _ k5]; rfl
    have y1 : w5.cell? ⟨w.heap.size, 1, none⟩ = some (.int .i64 n) := by rw [cell_of_row w5 w.heap.size 1 _ _ _ k5]; rfl
    clear k5 hb5 d0 d1 e0 e1 K4
    go_wp2_with fail
    go_ret
    exact ⟨ret_bool (by simp), H5.out⟩
  · have h1 : evE k n = 1 := by unfold evE; rw [ev_no h0]; rfl
    have hSe : S = ⟨#[]⟩ := by rw [← hS]; unfold evT; rw [ev_no h0]; rfl
    subst hSe
    have T1 := Lib.hid (fun w a => evText_at k n w hn0 hn1 a ⟨#[]⟩ 1 hSl h1)
    have T2 := Lib.hid (fun w => rEvText_at k n w hn0 hn1 ⟨#[]⟩ 1 hSl h1)
    have P1 := Lib.hid (fun w a b => evParse_at ⟨#[]⟩ w (by decide) a b 0 0 2 (by decide +kernel) (by decide +kernel) (by decide +kernel))
    rw [h1] at CK
    clear h0 h1 hSl hS
    go_enter Tryd.func10, Tryd.ntmps10
    go_wp2_with fail
    obtain ⟨wb, hwb⟩ : ∃ wb, w.alloc (.cells #[.int .i64 k, .int .i64 n] 47) = wb := ⟨_, rfl⟩
    have kb : wb.heap[w.heap.size]? = some (.cells #[.int .i64 k, .int .i64 n] 47 (0, 0)) := by rw [← hwb]; exact heap_alloc_new w _
    have hbb : Below w.heap.size w wb := by rw [← hwb]; exact (Below.refl _ _).alloc (Nat.le_refl _) _
    have AW := Lib.hid (AWW.out wb (maxAt_below HM.out hbb) (powAt_below HP.out hbb))
    have HBB := Lib.hid hbb; clear hbb
    rw [hwb]
    refine AW.out.mono ?_
    rintro e w1 ⟨rfl, hb1⟩
    have k1 := (hb1.block _ (lt_of_block kb)).trans kb
    have H1 : Hid (Below w.heap.size w w1) := Lib.hid (bseq HBB.out hb1)
    have b0 : w1.cell? ⟨w.heap.size, 0, none⟩ = some (.int .i64 k) := by rw [cell_of_row w1 w.heap.size 0 _ _ _ k1]; rfl
    have b1 : w1.cell? ⟨w.heap.size, 1, none⟩ = some (.int .i64 n) := by rw [cell_of_row w1 w.heap.size 1 _ _ _ k1]; rfl
    have K1 := Lib.hid k1; clear k1 hb1 hwb kb AW AWW
    go_wp2_with fail
    refine (T1.out _ (powAt_below HP.out H1.out)).mono ?_
    rintro e w2 ⟨rfl, hb2⟩
    have k2 := (hb2.block _ (lt_of_block K1.out)).trans K1.out
    have H2 : Hid (Below w.heap.size w w2) := Lib.hid (bseq H1.out hb2)
    have d0 : w2.cell? ⟨w.heap.size, 0, none⟩ = some (.int .i64 k) := by rw [cell_of_row w2 w.heap.size 0 _ _ _ k2]; rfl
    have d1 : w2.cell? ⟨w.heap.size, 1, none⟩ = some (.int .i64 n) := by rw [cell_of_row w2 w.heap.size 1 _ _ _ k2]; rfl
    have K2 := Lib.hid k2; clear k2 hb2 b0 b1 K1
    go_wp2_with fail
    refine (T2.out _).mono ?_
    rintro e w3 ⟨rfl, hb3⟩
    have k3 := (hb3.block _ (lt_of_block K2.out)).trans K2.out
    have H3 : Hid (Below w.heap.size w w3) := Lib.hid (bseq H2.out hb3)
    have K3 := Lib.hid k3; clear k3 hb3 d0 d1 K2
    go_wp2_with fail
    refine (P1.out _ (maxAt_below HM.out H3.out) (powAt_below HP.out H3.out)).mono ?_
    rintro e w4 ⟨rfl, hb4⟩
    have hA4 := hb4.alloc hb4.size (.cells #[.int .i64 0, .int .i64 0] 47)
    have k4 := (hA4.block _ (lt_of_block K3.out)).trans K3.out
    have H4 : Hid (Below w.heap.size w (w4.alloc (.cells #[.int .i64 0, .int .i64 0] 47))) := Lib.hid (bseq H3.out hA4)
    have d0 : (w4.alloc (.cells #[.int .i64 0, .int .i64 0] 47)).cell? ⟨w.heap.size, 0, none⟩ = some (.int .i64 k) := by rw [cell_of_row _ w.heap.size 0 _ _ _ k4]; rfl
    have d1 : (w4.alloc (.cells #[.int .i64 0, .int .i64 0] 47)).cell? ⟨w.heap.size, 1, none⟩ = some (.int .i64 n) := by rw [cell_of_row _ w.heap.size 1 _ _ _ k4]; rfl
    have k44 := (hb4.block _ (lt_of_block K3.out)).trans K3.out
    have hne4 : w.heap.size < w4.heap.size := lt_of_block k44
    have e0 : w4.cell? ⟨w.heap.size, 0, none⟩ = some (.int .i64 k) := by rw [cell_of_row w4 w.heap.size 0 _ _ _ k44]; rfl
    have e1 : w4.cell? ⟨w.heap.size, 1, none⟩ = some (.int .i64 n) := by rw [cell_of_row w4 w.heap.size 1 _ _ _ k44]; rfl
    have K4 := Lib.hid k4; clear k4 k44 hb4 hA4 K3
    go_wp2_with fail
    refine (CK.out _).mono ?_
    rintro e w5 ⟨rfl, hb5⟩
    have k5 := (hb5.block _ (lt_of_block K4.out)).trans K4.out
    obtain ⟨x0, x1, _⟩ := ev_kept hb5
    have H5 : Hid (Below w.heap.size w w5) := Lib.hid (bseq H4.out hb5)
    have y0 : w5.cell? ⟨w.heap.size, 0, none⟩ = some (.int .i64 k) := by rw [cell_of_row w5 w.heap.size 0 _ _ _ k5]; rfl
    have y1 : w5.cell? ⟨w.heap.size, 1, none⟩ = some (.int .i64 n) := by rw [cell_of_row w5 w.heap.size 1 _ _ _ k5]; rfl
    clear k5 hb5 d0 d1 e0 e1 K4
    go_wp2_with fail
    go_ret
    exact ⟨ret_bool (by simp), H5.out⟩

end Go.Proofs.YthhpijmkhhdhhaaDoor
