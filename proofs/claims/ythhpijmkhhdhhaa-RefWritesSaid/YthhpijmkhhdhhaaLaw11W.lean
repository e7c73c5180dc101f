/- RefWrites. -/
import Derived.Test.YthhpijmkhhdhhaaRefU
import Derived.Test.YthhpijmkhhdhhaaRefV
namespace Go.Proofs.Ythhpijmkhhdhhaa
open Go.RowKit
set_option linter.unusedVariables false
set_option linter.unusedSimpArgs false

set_option maxRecDepth 1000000 in
set_option maxHeartbeats 4000000 in
theorem refWrites_walk (r : RefB) (W : World) (hs0 : r.S.size ≤ maxLen) (hs1 : r.A.size ≤ maxLen) (hs2 : r.Pa.size ≤ maxLen) (hs3 : r.Q.size ≤ maxLen) (hs4 : r.F.size ≤ maxLen) :
    Calls Try.prog 19 #[r.val] W fun e w' => e = .returned (.bool true) ∧ Below W.heap.size W w' := by
  unfold maxLen at hs0 hs1 hs2 hs3 hs4
  obtain ⟨S0, A0, P0, Q0, F0, ha, hq, hf⟩ := r
  simp only at hs0 hs1 hs2 hs3 hs4
  have FS0 := Lib.hid (fun w => few11_any S0 w (by omega))
  have FS1 := Lib.hid (fun w => few11_any A0 w (by omega))
  have FS2 := Lib.hid (fun w => few11_any P0 w (by omega))
  have FS3 := Lib.hid (fun w => few11_any Q0 w (by omega))
  have FS4 := Lib.hid (fun w => few11_any F0 w (by omega))
  have hsz : ∀ s : ByteArray, (bs (s.data.toList.take 150)).size ≤ 150 := fun s => by rw [bs_size, List.length_take]; omega
  have z0 := hsz S0; have z1 := hsz A0; have z2 := hsz P0; have z3 := hsz Q0; have z4 := hsz F0
  clear hsz hs0 hs1 hs2 hs3 hs4
  generalize bs (S0.data.toList.take 150) = S at *
  generalize bs (A0.data.toList.take 150) = A at *
  generalize bs (P0.data.toList.take 150) = Pa at *
  generalize bs (Q0.data.toList.take 150) = Q at *
  generalize bs (F0.data.toList.take 150) = F at *
  obtain ⟨T, ee, Y, ff, htv, hpv, hTs, hcase⟩ : ∃ T ee Y ff, textV ⟨S, A, Pa, Q, F, ha, hq, hf⟩ = .tuple #[.string T, .int .i64 ee] ∧ parseV T.data.toList = .tuple #[RefB.val Y, .int .i64 ff] ∧ T.size ≤ 1000 ∧ (ee = 2 ∨ (ee = 0 ∧ ff = 0 ∧ Y = ⟨S, A, Pa, Q, F, ha, hq, hf⟩)) := by
    unfold textV
    cases hb : backB ⟨S, A, Pa, Q, F, ha, hq, hf⟩ with
    | true =>
      refine ⟨mkB (textL (⟨S, A, Pa, Q, F, ha, hq, hf⟩ : RefB).toV), 0, _, 0, by rw [if_pos rfl], by rw [mkB_data]; exact back_yes hb, ?_, .inr ⟨rfl, rfl, rfl⟩⟩
      rw [mkB_size]
      have := textL_length ⟨S, A, Pa, Q, F, ha, hq, hf⟩
      simp only at this
      omega
    | false =>
      obtain ⟨Y, ff, h⟩ : ∃ Y ff, parseV (⟨#[]⟩ : ByteArray).data.toList = .tuple #[RefB.val Y, .int .i64 ff] := by
        unfold parseV
        split
        · exact ⟨_, _, rfl⟩
        · exact ⟨_, _, rfl⟩
      exact ⟨⟨#[]⟩, 2, Y, ff, by rw [if_neg (by simp)], h, by decide, .inl rfl⟩
  have TX := Lib.hid (fun w => text_any ⟨S, A, Pa, Q, F, ha, hq, hf⟩ w (by show S.size ≤ _; omega) (by show A.size ≤ _; omega) (by show Pa.size ≤ _; omega) (by show Q.size ≤ _; omega) (by show F.size ≤ _; omega))
  have RT := Lib.hid (fun w => rText_any ⟨S, A, Pa, Q, F, ha, hq, hf⟩ w (by show S.size ≤ _; omega) (by show A.size ≤ _; omega) (by show Pa.size ≤ _; omega) (by show Q.size ≤ _; omega) (by show F.size ≤ _; omega))
  have PA := Lib.hid (fun w => parse_any T w (by omega))
  have EQ := fun W => ref_eql ⟨S, A, Pa, Q, F, ha, hq, hf⟩ ⟨S, A, Pa, Q, F, ha, hq, hf⟩ W
  simp only [(refEq_iff (⟨S, A, Pa, Q, F, ha, hq, hf⟩ : RefB) ⟨S, A, Pa, Q, F, ha, hq, hf⟩).2 rfl] at EQ
  rw [htv] at TX RT
  rw [hpv] at PA
  have HC := Lib.hid hcase
  clear hcase htv hpv hTs z0 z1 z2 z3 z4
  unfold RefB.val RefB.cells at TX RT PA EQ
  simp only at TX RT PA EQ
  have r1 : RefAt (W.alloc (.cells (⟨S0, A0, P0, Q0, F0, ha, hq, hf⟩ : RefB).cells 95)) W.heap.size ⟨S0, A0, P0, Q0, F0, ha, hq, hf⟩ := refAt_new W _
  have hb1 : Below W.heap.size W (W.alloc (.cells (⟨S0, A0, P0, Q0, F0, ha, hq, hf⟩ : RefB).cells 95)) := (Below.refl _ _).alloc (Nat.le_refl _) _
  have AW := Lib.hid (awake11_any (W.alloc (.cells (⟨S0, A0, P0, Q0, F0, ha, hq, hf⟩ : RefB).cells 95)))
  unfold RefB.cells at r1 hb1 AW
  simp only at r1 hb1 AW
  show Calls Try.prog 19 #[.agg #[.string S0, .string A0, .string P0, .string Q0, .string F0, .bool ha, .bool hq, .bool hf]] W _
  go_enter Try.func19, Try.ntmps19
  go_wp2_with fail
  refine AW.out.mono ?_
  rintro e w ⟨rfl, hb0⟩
  have R1 := Lib.hid (refAt_below r1 hb0 (refAt_lt r1))
  have HB1 := Lib.hid (bseq hb1 hb0)
  clear r1 hb1 AW hb0
  obtain ⟨c0, c1, c2, c3, c4, c5, c6, c7⟩ := ref_cells R1.out
  have f0 := ref_frozen R1.out 0
  have f1 := ref_frozen R1.out 1
  have f2 := ref_frozen R1.out 2
  have f3 := ref_frozen R1.out 3
  have f4 := ref_frozen R1.out 4
  go_wp2_with fail
  (refine (FS0.out _).mono ?_; rintro e w' ⟨rfl, rfl⟩; go_wp2_with fail)
  (refine (FS1.out _).mono ?_; rintro e w' ⟨rfl, rfl⟩; go_wp2_with fail)
  (refine (FS2.out _).mono ?_; rintro e w' ⟨rfl, rfl⟩; go_wp2_with fail)
  (refine (FS3.out _).mono ?_; rintro e w' ⟨rfl, rfl⟩; go_wp2_with fail)
  (refine (FS4.out _).mono ?_; rintro e w' ⟨rfl, rfl⟩; go_wp2_with fail)
  have r5 := ref_set4 (ref_set3 (ref_set2 (ref_set1 (ref_set0 R1.out S) A) Pa) Q) F
  have hb5 := ((((HB1.out.setCell (p := ⟨W.heap.size, 0, none⟩) (Nat.le_refl _) (.string S)).setCell (p := ⟨W.heap.size, 1, none⟩) (Nat.le_refl _) (.string A)).setCell (p := ⟨W.heap.size, 2, none⟩) (Nat.le_refl _) (.string Pa)).setCell (p := ⟨W.heap.size, 3, none⟩) (Nat.le_refl _) (.string Q)).setCell (p := ⟨W.heap.size, 4, none⟩) (Nat.le_refl _) (.string F)
  refine (TX.out _).mono ?_
  rintro e w6 ⟨rfl, hb6⟩
  have R6 := Lib.hid (refAt_below r5 hb6 (refAt_lt r5))
  have HB6 := Lib.hid (bseq hb5 hb6)
  clear r5 hb5 hb6 R1 HB1 c0 c1 c2 c3 c4 c5 c6 c7 f0 f1 f2 f3 f4 TX FS0 FS1 FS2 FS3 FS4
  obtain ⟨c0, c1, c2, c3, c4, c5, c6, c7⟩ := ref_cells R6.out
  go_wp2_with fail
  refine (RT.out _).mono ?_
  rintro e w7 ⟨rfl, hb7⟩
  have R7 := Lib.hid (refAt_below R6.out hb7 (refAt_lt R6.out))
  have HB7 := Lib.hid (bseq HB6.out hb7)
  clear hb7 R6 HB6 RT c0 c1 c2 c3 c4 c5 c6 c7
  obtain ⟨c0, c1, c2, c3, c4, c5, c6, c7⟩ := ref_cells R7.out
  go_wp2_with fail
  refine (PA.out _).mono ?_
  rintro e w8 ⟨rfl, hb8⟩
  have ss := eq_selfX T
  obtain ⟨X0, X1, X2, X3, X4, x5, x6, x7⟩ := Y
  have r8 := refAt_below R7.out hb8 (refAt_lt R7.out)
  have hbb := bseq HB7.out hb8
  have N8 := Lib.hid (refAt_new w8 ⟨X0, X1, X2, X3, X4, x5, x6, x7⟩)
  have R8 := Lib.hid (refAt_alloc r8 (.cells (⟨X0, X1, X2, X3, X4, x5, x6, x7⟩ : RefB).cells 95))
  have HB8 := Lib.hid (hbb.alloc hbb.size (.cells (⟨X0, X1, X2, X3, X4, x5, x6, x7⟩ : RefB).cells 95))
  clear r8 hbb hb8 R7 HB7 PA c0 c1 c2 c3 c4 c5 c6 c7
  obtain ⟨c0, c1, c2, c3, c4, c5, c6, c7⟩ := ref_cells R8.out
  obtain ⟨d0, d1, d2, d3, d4, d5, d6, d7⟩ := ref_cells N8.out
  dsimp only [RefB.cells] at c0 c1 c2 c3 c4 c5 c6 c7 d0 d1 d2 d3 d4 d5 d6 d7
  rcases HC.out with rfl | ⟨rfl, rfl, he⟩
  · go_wp2_with fail
    go_ret
    exact ⟨rfl, HB8.out⟩
  · obtain ⟨rfl, rfl, rfl, rfl, rfl, rfl, rfl, rfl⟩ : X0 = S ∧ X1 = A ∧ X2 = Pa ∧ X3 = Q ∧ X4 = F ∧ x5 = ha ∧ x6 = hq ∧ x7 = hf := by
      injection he with h0 h1 h2 h3 h4 h5 h6 h7
      exact ⟨h0, h1, h2, h3, h4, h5, h6, h7⟩
    clear he
    go_wp2_with fail
    go_ret
    exact ⟨rfl, HB8.out⟩

end Go.Proofs.Ythhpijmkhhdhhaa
