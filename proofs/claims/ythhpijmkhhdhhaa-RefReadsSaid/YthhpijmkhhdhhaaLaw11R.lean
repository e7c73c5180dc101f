/- RefReads. -/
import Derived.Test.YthhpijmkhhdhhaaRefU
import Derived.Test.YthhpijmkhhdhhaaRefV
import Derived.Test.YthhpijmkhhdhhaaFold
import Derived.Test.YthhpijmkhhdhhaaRFold
namespace Go.Proofs.Ythhpijmkhhdhhaa
open Go.RowKit
set_option linter.unusedVariables false
set_option linter.unusedSimpArgs false

set_option maxRecDepth 100000 in
set_option maxHeartbeats 2000000 in
theorem base_any (r : RefB) (w : World) (hS : r.S.size ≤ 10000) (hA : r.A.size ≤ 10000) (hh : (headL r.toV).length ≤ 30000) :
    Calls Try.prog 103 #[r.val] w fun e w' => e = .returned (.string (mkB (foldL (headL r.toV)))) ∧ Below w.heap.size w w' := by
  have HEAD := Lib.hid (fun W => head_any r W hS hA)
  have FO := Lib.hid (fun W => fold_any (mkB (headL r.toV)) W (by rw [mkB_size]; unfold maxLen; omega))
  rw [mkB_data] at FO
  obtain ⟨H, hH⟩ : ∃ H, mkB (headL r.toV) = H := ⟨_, rfl⟩
  rw [hH] at HEAD FO
  obtain ⟨FF, hFF⟩ : ∃ FF, mkB (foldL (headL r.toV)) = FF := ⟨_, rfl⟩
  rw [show (⟨(foldL (headL r.toV)).toArray⟩ : ByteArray) = FF from hFF] at FO
  rw [hFF]
  clear hH hFF
  obtain ⟨S, A, Pa, Q, F, ha, hq, hf⟩ := r
  have r1 : RefAt (w.alloc (.cells (⟨S, A, Pa, Q, F, ha, hq, hf⟩ : RefB).cells 95)) w.heap.size ⟨S, A, Pa, Q, F, ha, hq, hf⟩ := refAt_new w _
  have hb1 : Below w.heap.size w (w.alloc (.cells (⟨S, A, Pa, Q, F, ha, hq, hf⟩ : RefB).cells 95)) := (Below.refl _ _).alloc (Nat.le_refl _) _
  have HB1 := Lib.hid hb1
  obtain ⟨c0, c1, c2, c3, c4, c5, c6, c7⟩ := ref_cells r1
  clear r1 hb1
  unfold RefB.val RefB.cells at HEAD
  simp only at HEAD
  show Calls Try.prog 103 #[.agg #[.string S, .string A, .string Pa, .string Q, .string F, .bool ha, .bool hq, .bool hf]] w _
  go_enter Try.func103, Try.ntmps103
  go_wp2_with fail
  refine (HEAD.out _).mono ?_
  rintro e w2 ⟨rfl, hb2⟩
  have HB2 := Lib.hid (bseq HB1.out hb2); clear hb2
  go_wp2_with fail
  refine (FO.out _).mono ?_
  rintro e w3 ⟨rfl, hb3⟩
  have HB3 := Lib.hid (bseq HB2.out hb3); clear hb3
  go_wp2_with fail
  go_ret
  exact ⟨rfl, HB3.out⟩

theorem headL_length (r : RefB) : (headL r.toV).length ≤ r.S.size + r.A.size + 3 := by
  simp only [Lib.size_eq]
  unfold headL RefB.toV
  simp only [List.length_append]
  have h1 : (if r.S.data.toList = [] then ([] : List UInt8) else r.S.data.toList ++ [58]).length ≤ r.S.data.toList.length + 1 := by split <;> simp
  have h2 : (if r.ha = true then (47 :: 47 :: r.A.data.toList) else ([] : List UInt8)).length ≤ r.A.data.toList.length + 2 := by split <;> simp
  omega

set_option maxRecDepth 1000000 in
set_option maxHeartbeats 4000000 in
theorem refReads_walk (s : ByteArray) (W : World) (hs : s.size ≤ maxLen) :
    Calls Try.prog 20 #[.string s] W fun e w' => e = .returned (.bool true) ∧ Below W.heap.size W w' := by
  unfold maxLen at hs
  have AW := Lib.hid (awake11_any W)
  have FST := Lib.hid (fun w => few11_any s w (by omega))
  obtain ⟨S0, hS⟩ : ∃ S0, bs (s.data.toList.take 150) = S0 := ⟨_, rfl⟩
  rw [hS] at FST
  have hS1 : S0.size ≤ 1000 := by rw [← hS, bs_size, List.length_take]; omega
  clear hS
  have PA := Lib.hid (fun w => parse_any S0 w (by omega))
  have RP := Lib.hid (fun w => rParse_any S0 w (by omega))
  obtain ⟨z1, z2, z3, z4, z5⟩ := parts_sizes S0.data.toList
  rw [← Lib.size_eq] at z1 z2 z3 z4 z5
  obtain ⟨X, ee, T, ff, hpv, htv, hcase, y1, y2, y3, y4, y5⟩ : ∃ X ee T ff, parseV S0.data.toList = .tuple #[RefB.val X, .int .i64 ee] ∧ textV X = .tuple #[.string T, .int .i64 ff] ∧ (ee = 2 ∨ (ee = 0 ∧ ff = 0 ∧ T = S0)) ∧ X.S.size ≤ 1000 ∧ X.A.size ≤ 1000 ∧ X.Pa.size ≤ 1000 ∧ X.Q.size ≤ 1000 ∧ X.F.size ≤ 1000 := by
    unfold parseV
    cases hw : wellL (partsP S0.data.toList) with
    | true =>
      have hb := back_parts hw
      refine ⟨(partsP S0.data.toList).toB, 0, S0, 0, by rw [if_pos rfl], ?_, .inr ⟨rfl, rfl, rfl⟩, ?_, ?_, ?_, ?_, ?_⟩
      · unfold textV
        rw [hb, text_toB, mkB_of]; rfl
      all_goals (show (mkB _).size ≤ _; rw [mkB_size]; omega)
    | false =>
      obtain ⟨T, ff, h⟩ : ∃ T ff, textV RefB.zero = .tuple #[.string T, .int .i64 ff] := by
        unfold textV
        split
        · exact ⟨_, _, rfl⟩
        · exact ⟨_, _, rfl⟩
      exact ⟨RefB.zero, 2, T, ff, by rw [if_neg (by simp)], h, .inl rfl, by decide, by decide, by decide, by decide, by decide⟩
  rw [hpv] at PA RP
  have TX := Lib.hid (fun w => text_any X w (by omega) (by omega) (by omega) (by omega) (by omega))
  rw [htv] at TX
  have hhl := headL_length X
  have BA := Lib.hid (fun w => base_any X w (by omega) (by omega) (by omega))
  have RH := Lib.hid (fun w => rHead_any X w (by omega) (by omega))
  have RF := Lib.hid (fun w => rFold_any (mkB (headL X.toV)) w (by rw [mkB_size]; unfold maxLen; omega))
  rw [mkB_data] at RF
  have NQ := fun W => ref_neq X X W
  simp only [(refEq_iff X X).2 rfl] at NQ
  obtain ⟨H, hH⟩ : ∃ H, mkB (headL X.toV) = H := ⟨_, rfl⟩
  obtain ⟨FF, hFF⟩ : ∃ FF, mkB (foldL (headL X.toV)) = FF := ⟨_, rfl⟩
  rw [show (⟨(foldL (headL X.toV)).toArray⟩ : ByteArray) = FF from hFF, hH] at RF
  rw [hH] at RH
  rw [hFF] at BA
  obtain ⟨S, A, Pa, Q, F, ha, hq, hf⟩ := X
  have HC := Lib.hid hcase
  clear hcase hH hFF hhl htv hpv z1 z2 z3 z4 z5 y1 y2 y3 y4 y5
  unfold RefB.val RefB.cells at PA RP TX BA RH NQ
  simp only at PA RP TX BA RH NQ
  go_enter Try.func20, Try.ntmps20
  go_wp2_with fail
  refine AW.out.mono ?_
  rintro e w ⟨rfl, hb0⟩
  have HB0 := Lib.hid hb0; clear AW hb0
  go_wp2_with fail
  (refine (FST.out _).mono ?_; rintro e w' ⟨rfl, rfl⟩; go_wp2_with fail)
  refine (PA.out _).mono ?_
  rintro e w1 ⟨rfl, hb1⟩
  have HB1 := Lib.hid (bseq HB0.out hb1); clear hb1 PA HB0
  have r1 := refAt_new w1 ⟨S, A, Pa, Q, F, ha, hq, hf⟩
  have b1 := HB1.out.alloc HB1.out.size (.cells (⟨S, A, Pa, Q, F, ha, hq, hf⟩ : RefB).cells 95)
  go_wp2_with fail
  obtain ⟨w1a, hw1a⟩ : ∃ w1a, w1.alloc (.cells (⟨S, A, Pa, Q, F, ha, hq, hf⟩ : RefB).cells 95) = w1a := ⟨_, rfl⟩
  rw [hw1a] at r1 b1
  unfold RefB.cells at hw1a
  simp only at hw1a
  rw [hw1a]
  clear hw1a
  refine (RP.out _).mono ?_
  rintro e w2 ⟨rfl, hb2⟩
  have r2 := refAt_below r1 hb2 (refAt_lt r1)
  have hbb := bseq b1 hb2
  have n2 := refAt_new w2 ⟨S, A, Pa, Q, F, ha, hq, hf⟩
  have r2 := refAt_alloc r2 (.cells (⟨S, A, Pa, Q, F, ha, hq, hf⟩ : RefB).cells 95)
  have b2 := hbb.alloc hbb.size (.cells (⟨S, A, Pa, Q, F, ha, hq, hf⟩ : RefB).cells 95)
  clear hbb hb2 r1 b1 RP HB1
  have R2 := Lib.hid r2; have N2 := Lib.hid n2; have HB2 := Lib.hid b2
  clear r2 n2 b2
  obtain ⟨c0, c1, c2, c3, c4, c5, c6, c7⟩ := ref_cells R2.out
  obtain ⟨d0, d1, d2, d3, d4, d5, d6, d7⟩ := ref_cells N2.out
  dsimp only [RefB.cells] at c0 c1 c2 c3 c4 c5 c6 c7 d0 d1 d2 d3 d4 d5 d6 d7
  go_wp2_with fail
  refine (TX.out _).mono ?_
  rintro e w3 ⟨rfl, hb3⟩
  have R3 := Lib.hid (refAt_below R2.out hb3 (refAt_lt R2.out))
  have HB3 := Lib.hid (bseq HB2.out hb3)
  clear c0 c1 c2 c3 c4 c5 c6 c7 d0 d1 d2 d3 d4 d5 d6 d7 hb3 R2 N2 HB2 TX
  obtain ⟨c0, c1, c2, c3, c4, c5, c6, c7⟩ := ref_cells R3.out
  rcases HC.out with rfl | ⟨rfl, rfl, rfl⟩
  · go_wp2_with fail
    go_quiet (fail)
    go_wp2_with fail
    go_ret
    exact ⟨rfl, below_drewN HB3.out _⟩
  · have ss := eq_selfX T
    have ff := eq_selfX FF
    go_wp2_with fail
    go_region_held3 (fun w' => w'.cell? ⟨w1.heap.size, 0, none⟩ = some (.string S) ∧ w'.cell? ⟨w1.heap.size, 1, none⟩ = some (.string A) ∧ w'.cell? ⟨w1.heap.size, 2, none⟩ = some (.string Pa) ∧ w'.cell? ⟨w1.heap.size, 3, none⟩ = some (.string Q) ∧ w'.cell? ⟨w1.heap.size, 4, none⟩ = some (.string F) ∧ w'.cell? ⟨w1.heap.size, 5, none⟩ = some (.bool ha) ∧ w'.cell? ⟨w1.heap.size, 6, none⟩ = some (.bool hq) ∧ w'.cell? ⟨w1.heap.size, 7, none⟩ = some (.bool hf)) (first | exact ref_cells R6.out | exact ref_cells R5.out | exact ref_cells R4.out | go_keep) (first | (go_at_call 103; refine (BA.out _).mono ?_; rintro e w4 ⟨rfl, hb4⟩; have R4 := Lib.hid (refAt_below (refAt_drew R3.out) hb4 (refAt_lt R3.out))) | (go_at_call 104; refine (RH.out _).mono ?_; rintro e w5 ⟨rfl, hb5⟩; have R5 := Lib.hid (refAt_below R4.out hb5 (refAt_lt R4.out))) | (go_at_call 25; refine (RF.out _).mono ?_; rintro e w6 ⟨rfl, hb6⟩; have R6 := Lib.hid (refAt_below R5.out hb6 (refAt_lt R5.out))))
    all_goals
      go_wp2_with fail
      go_ret
      exact ⟨rfl, bseq (bseq (bseq HB3.out.drew hb4) hb5) hb6⟩

end Go.Proofs.Ythhpijmkhhdhhaa
