/- The reference's Text. -/
import Derived.Test.YthhpijmkhhdhhaaRefP
import Derived.Test.YthhpijmkhhdhhaaRefT
import Derived.Deep.RegionHeld3
namespace Go.Proofs.Ythhpijmkhhdhhaa
open Go.RowKit
set_option linter.unusedVariables false
set_option linter.unusedSimpArgs false

set_option maxRecDepth 1000000 in
set_option maxHeartbeats 4000000 in
theorem rText_any (r : RefB) (w : World) (hS : r.S.size ≤ 10000) (hA : r.A.size ≤ 10000) (hP : r.Pa.size ≤ 10000) (hQ : r.Q.size ≤ 10000) (hF : r.F.size ≤ 10000) :
    Calls Try.prog 100 #[r.val] w fun e w' => e = .returned (textV r) ∧ Below w.heap.size w w' := by
  have htl := textL_length r
  have HEAD := Lib.hid (fun W => rHead_any r W (by omega) (by omega))
  have hhl : (headL r.toV).length ≤ 20003 := by
    have h1 : (headL r.toV).length ≤ r.S.size + r.A.size + 3 := by
      simp only [Lib.size_eq]
      unfold headL RefB.toV
      simp only [List.length_append]
      have h1 : (if r.S.data.toList = [] then ([] : List UInt8) else r.S.data.toList ++ [58]).length ≤ r.S.data.toList.length + 1 := by split <;> simp
      have h2 : (if r.ha = true then (47 :: 47 :: r.A.data.toList) else ([] : List UInt8)).length ≤ r.A.data.toList.length + 2 := by split <;> simp
      omega
    omega
  have PA := Lib.hid (fun W => rParse_any (mkB (textL r.toV)) W (by rw [mkB_size]; omega))
  rw [mkB_data] at PA
  have htx : textL r.toV = headL r.toV ++ r.Pa.data.toList ++ (if r.hq then 63 :: r.Q.data.toList else []) ++ (if r.hf then 35 :: r.F.data.toList else []) := rfl
  have htv : textV r = if backB r then .tuple #[.string (mkB (textL r.toV)), .int .i64 0] else .tuple #[.string ⟨#[]⟩, .int .i64 2] := rfl
  obtain ⟨X, ee, hpv, hbk⟩ : ∃ X ee, parseV (textL r.toV) = .tuple #[RefB.val X, .int .i64 ee] ∧ ((ee = 2 ∧ backB r = false) ∨ (ee = 0 ∧ backB r = refEq X r)) := by
    unfold parseV backB
    cases hw : wellL (partsP (textL r.toV)) with
    | true => exact ⟨_, 0, by rw [if_pos rfl], .inr ⟨rfl, by rw [Bool.true_and]⟩⟩
    | false => exact ⟨_, 2, by rw [if_neg (by simp)], .inl ⟨rfl, rfl⟩⟩
  rw [hpv] at PA
  have NQ := fun W => ref_neq X r W
  have HBK := Lib.hid hbk; clear hbk hpv htl
  obtain ⟨hd, hhd⟩ : ∃ hd, headL r.toV = hd := ⟨_, rfl⟩
  obtain ⟨tx, htx2⟩ : ∃ tx, textL r.toV = tx := ⟨_, rfl⟩
  rw [hhd] at HEAD htx hhl
  rw [htx2] at PA htx htv
  obtain ⟨bk, hbk2⟩ : ∃ bk, backB r = bk := ⟨_, rfl⟩
  rw [hbk2] at HBK htv
  clear hhd htx2 hbk2
  obtain ⟨S, A, Pa, Q, F, ha, hq, hf⟩ := r
  simp only at hS hA hP hQ hF htx
  have HTX := Lib.hid htx; have HTV := Lib.hid htv; clear htx htv
  have r1 : RefAt (w.alloc (.cells (⟨S, A, Pa, Q, F, ha, hq, hf⟩ : RefB).cells 95)) w.heap.size ⟨S, A, Pa, Q, F, ha, hq, hf⟩ := refAt_new w _
  have hb1 : Below w.heap.size w (w.alloc (.cells (⟨S, A, Pa, Q, F, ha, hq, hf⟩ : RefB).cells 95)) := (Below.refl _ _).alloc (Nat.le_refl _) _
  have R1 := Lib.hid r1; have HB1 := Lib.hid hb1
  obtain ⟨c0, c1, c2, c3, c4, c5, c6, c7⟩ := ref_cells r1
  clear r1 hb1
  unfold RefB.val RefB.cells at HEAD NQ PA
  simp only at HEAD NQ PA
  show Calls Try.prog 100 #[.agg #[.string S, .string A, .string Pa, .string Q, .string F, .bool ha, .bool hq, .bool hf]] w _
  go_enter Try.func100, Try.ntmps100
  go_upto_region 1 with fail
  obtain ⟨w1, hw1⟩ : ∃ w1, w.alloc (.cells (⟨S, A, Pa, Q, F, ha, hq, hf⟩ : RefB).cells 95) = w1 := ⟨_, rfl⟩
  rw [hw1] at R1 HB1
  unfold RefB.cells at hw1 c0 c1 c2 c3 c4 c5 c6 c7
  simp only at hw1 c0 c1 c2 c3 c4 c5 c6 c7
  rw [hw1] at c0 c1 c2 c3 c4 c5 c6 c7 ⊢
  clear hw1
  go_cut [4] (fun s0 wx => s0 = .string (mkB (hd ++ Pa.data.toList)) ∧ Below w.heap.size w wx ∧ RefAt wx w.heap.size ⟨S, A, Pa, Q, F, ha, hq, hf⟩)
  case first =>
    have hsz : (mkB hd).size ≤ 20003 := by rw [mkB_size]; exact hhl
    have hsum : (mkB hd).size + Pa.size ≤ 9223372036854775807 := by omega
    obtain ⟨H, hH⟩ : ∃ H, mkB hd = H := ⟨_, rfl⟩
    have HH : Hid (mkB (hd ++ Pa.data.toList) = H ++ Pa) := Lib.hid (by rw [← hH]; exact bytes_extX (by rw [mkB_data, ByteArray.data_append, Array.toList_append, mkB_data]))
    rw [hH] at HEAD hsz hsum
    clear hH
    refine wp_region_noPanic ?_
    refine wp_region_held_drew (S := fun w' => w'.cell? ⟨w.heap.size, 0, none⟩ = some (.string S) ∧ w'.cell? ⟨w.heap.size, 1, none⟩ = some (.string A) ∧ w'.cell? ⟨w.heap.size, 2, none⟩ = some (.string Pa) ∧ w'.cell? ⟨w.heap.size, 3, none⟩ = some (.string Q) ∧ w'.cell? ⟨w.heap.size, 4, none⟩ = some (.string F) ∧ w'.cell? ⟨w.heap.size, 5, none⟩ = some (.bool ha) ∧ w'.cell? ⟨w.heap.size, 6, none⟩ = some (.bool hq) ∧ w'.cell? ⟨w.heap.size, 7, none⟩ = some (.bool hf)) (by kernel_rfl) (by go_keep) (fun hHeld => ?_)
    refine wpAnyH_take (i := 0) (v := (⟨S, A, Pa, Q, F, ha, hq, hf⟩ : RefB).val) rfl (by kernel_rfl) (by kernel_rfl) (by kernel_rfl) (fun _ _ _ h => h) (Or.inl ⟨by rfl, by intro w hSw; (try dsimp only at hSw); unfold RefB.val RefB.cells; go_simp⟩) (by assumption) ?_
    simp only [Act.put, List.setIfInBounds_toArray, List.set_cons_zero, List.set_cons_succ, List.getElem_toArray, List.getElem_cons_zero, List.getElem_cons_succ]
    unfold RefB.val RefB.cells
    simp only
    refine wpAnyH_take (i := 2) (v := .pointer (some ⟨w.heap.size, 2, none⟩)) rfl (by kernel_rfl) (by kernel_rfl) (by kernel_rfl) (fun _ _ _ h => h) (Or.inl ⟨by rfl, by intro w hSw; (try dsimp only at hSw); go_simp⟩) (by assumption) ?_
    simp only [Act.put, List.setIfInBounds_toArray, List.set_cons_zero, List.set_cons_succ, List.getElem_toArray, List.getElem_cons_zero, List.getElem_cons_succ]
    refine wpAnyH_take (i := 3) (v := .string Pa) rfl (by kernel_rfl) (by kernel_rfl) (by kernel_rfl) (fun _ _ _ h => h) (Or.inl ⟨by rfl, by intro w hSw; (try dsimp only at hSw); go_simp⟩) (by assumption) ?_
    simp only [Act.put, List.setIfInBounds_toArray, List.set_cons_zero, List.set_cons_succ, List.getElem_toArray, List.getElem_cons_zero, List.getElem_cons_succ]
    refine wpAnyH_ready (rs := [1]) (by kernel_rfl) (by simp) ?_
    refine AllReadyH.cons (by rfl) (fun K hK => ?_) AllReadyH.nil
    go_simp
    go_at_call 104
    refine (HEAD.out _).mono ?_
    rintro e w2 ⟨rfl, hb2⟩
    have R2 := Lib.hid (refAt_below (refAt_drew R1.out) hb2 (refAt_lt R1.out))
    go_wp2_with fail
    refine hK.out _ _ (ref_cells R2.out) (fun hHeld2 => ?_)
    clear hK hHeld K
    refine wpAnyH_take (i := 4) (v := .string (H ++ Pa)) rfl (by kernel_rfl) (by kernel_rfl) (by kernel_rfl) (fun _ _ _ h => h) (Or.inl ⟨by rfl, by intro w hSw; (try dsimp only at hSw); go_simp⟩) (by assumption) ?_
    simp only [Act.put, List.setIfInBounds_toArray, List.set_cons_zero, List.set_cons_succ, List.getElem_toArray, List.getElem_cons_zero, List.getElem_cons_succ]
    refine wpAnyH_take (i := 5) (v := .string (H ++ Pa)) rfl (by kernel_rfl) (by kernel_rfl) (by kernel_rfl) (fun _ _ _ h => h) (Or.inl ⟨by rfl, by intro w hSw; (try dsimp only at hSw); go_simp⟩) (by assumption) ?_
    simp only [Act.put, List.setIfInBounds_toArray, List.set_cons_zero, List.set_cons_succ, List.getElem_toArray, List.getElem_cons_zero, List.getElem_cons_succ]
    refine wpAnyH_done (by kernel_rfl) ?_ _
    refine NoPanic.normal ?_
    go_wp2_with fail
    go_meet
    exact ⟨by rw [HH.out], bseq (HB1.out.drew) hb2, R2.out⟩
  case rest =>
    obtain ⟨rfl, hb3, r3⟩ := hcut
    clear R1 HB1 HEAD c0 c1 c2 c3 c4 c5 c6 c7
    have R3 := Lib.hid r3; have HB3 := Lib.hid hb3; clear r3 hb3
    obtain ⟨c0, c1, c2, c3, c4, c5, c6, c7⟩ := ref_cells R3.out
    obtain ⟨l4, hl4⟩ : ∃ l4, hd ++ Pa.data.toList = l4 := ⟨_, rfl⟩
    have hll4 : l4.length ≤ 30003 := by rw [← hl4, List.length_append, ← Lib.size_eq]; omega
    rw [hl4] at HTX ⊢
    clear hl4 hhl
    obtain ⟨T, hT⟩ : ∃ T, mkB l4 = T := ⟨_, rfl⟩
    have hTs : T.size ≤ 30003 := by rw [← hT, mkB_size]; exact hll4
    have HTd : Hid (T.data.toList = l4) := Lib.hid (by rw [← hT, mkB_data])
    rw [hT]
    clear hT
    go_upto_if 13 with fail
    go_cut [4] (fun s0 wx => s0 = .string (mkB (l4 ++ (if hq then 63 :: Q.data.toList else []))) ∧ Below w.heap.size w wx ∧ RefAt wx w.heap.size ⟨S, A, Pa, Q, F, ha, hq, hf⟩)
    case first =>
      cases hq with
      | true =>
        have hX : Hid (mkB (l4 ++ (if true = true then 63 :: Q.data.toList else [])) = T ++ ⟨#[63]⟩ ++ Q) := Lib.hid (by exact bytes_extX (by simp [mkB_data, ByteArray.data_append, HTd.out]))
        have hsum1 : (⟨#[63]⟩ : ByteArray).size + Q.size ≤ 9223372036854775807 := by show 1 + Q.size ≤ _; omega
        have hsum2 : T.size + (⟨#[63]⟩ ++ Q : ByteArray).size ≤ 9223372036854775807 := by rw [ByteArray.size_append]; show T.size + (1 + Q.size) ≤ _; omega
        have hsum3 : T.size + (⟨#[63]⟩ : ByteArray).size ≤ 9223372036854775807 := by show T.size + 1 ≤ _; omega
        have hsum4 : (T ++ ⟨#[63]⟩ : ByteArray).size + Q.size ≤ 9223372036854775807 := by rw [ByteArray.size_append]; show T.size + 1 + Q.size ≤ _; omega
        go_wp2_with fail
        go_meet
        exact ⟨by rw [hX.out], HB3.out, R3.out⟩
      | false =>
        go_wp2_with fail
        go_meet
        exact ⟨by rw [← HTd.out, show (if false = true then 63 :: Q.data.toList else []) = [] from rfl, List.append_nil, mkB_of], HB3.out, R3.out⟩
    case rest =>
      obtain ⟨rfl, hb4, r4⟩ := hcut
      obtain ⟨l5, hl5⟩ : ∃ l5, l4 ++ (if hq then 63 :: Q.data.toList else []) = l5 := ⟨_, rfl⟩
      have hll5 : l5.length ≤ 40004 := by
        rw [← hl5, List.length_append]
        have : (if hq = true then 63 :: Q.data.toList else ([] : List UInt8)).length ≤ Q.data.toList.length + 1 := by split <;> simp
        rw [← Lib.size_eq] at this
        omega
      rw [hl5] at HTX ⊢
      clear hl5 hll4 hTs HTd R3 HB3 c0 c1 c2 c3 c4 c5 c6 c7
      have R4 := Lib.hid r4; have HB4 := Lib.hid hb4; clear r4 hb4
      obtain ⟨c0, c1, c2, c3, c4, c5, c6, c7⟩ := ref_cells R4.out
      obtain ⟨T, hT⟩ : ∃ T, mkB l5 = T := ⟨_, rfl⟩
      have hTs : T.size ≤ 40004 := by rw [← hT, mkB_size]; exact hll5
      have HTd : Hid (T.data.toList = l5) := Lib.hid (by rw [← hT, mkB_data])
      rw [hT]
      clear hT
      go_upto_if 20 with fail
      go_cut [4] (fun s0 wx => s0 = .string (mkB tx) ∧ Below w.heap.size w wx ∧ RefAt wx w.heap.size ⟨S, A, Pa, Q, F, ha, hq, hf⟩)
      case first =>
        cases hf with
        | true =>
          have hX : Hid (mkB tx = T ++ ⟨#[35]⟩ ++ F) := Lib.hid (by rw [HTX.out]; exact bytes_extX (by simp [mkB_data, ByteArray.data_append, HTd.out]))
          have hsum1 : (⟨#[35]⟩ : ByteArray).size + F.size ≤ 9223372036854775807 := by show 1 + F.size ≤ _; omega
          have hsum2 : T.size + (⟨#[35]⟩ ++ F : ByteArray).size ≤ 9223372036854775807 := by rw [ByteArray.size_append]; show T.size + (1 + F.size) ≤ _; omega
          have hsum3 : T.size + (⟨#[35]⟩ : ByteArray).size ≤ 9223372036854775807 := by show T.size + 1 ≤ _; omega
          have hsum4 : (T ++ ⟨#[35]⟩ : ByteArray).size + F.size ≤ 9223372036854775807 := by rw [ByteArray.size_append]; show T.size + 1 + F.size ≤ _; omega
          go_wp2_with fail
          go_meet
          exact ⟨by rw [hX.out], HB4.out, R4.out⟩
        | false =>
          go_wp2_with fail
          go_meet
          exact ⟨by rw [HTX.out, ← HTd.out, show (if false = true then 35 :: F.data.toList else []) = [] from rfl, List.append_nil, mkB_of], HB4.out, R4.out⟩
      case rest =>
        obtain ⟨rfl, hb5, r5⟩ := hcut
        clear hll5 hTs HTd R4 HB4 c0 c1 c2 c3 c4 c5 c6 c7
        have R5 := Lib.hid r5; have HB5 := Lib.hid hb5; clear r5 hb5
        obtain ⟨X0, X1, X2, X3, X4, x5, x6, x7⟩ := X
        simp only at PA NQ
        go_wp2_with fail
        refine (PA.out _).mono ?_
        rintro e w6 ⟨rfl, hb6⟩
        have r6 := refAt_below R5.out hb6 (refAt_lt R5.out)
        have hbb := bseq HB5.out hb6
        have n6 := refAt_new w6 ⟨X0, X1, X2, X3, X4, x5, x6, x7⟩
        have R6 := Lib.hid (refAt_alloc r6 (.cells (⟨X0, X1, X2, X3, X4, x5, x6, x7⟩ : RefB).cells 95))
        have HB6 := Lib.hid (hbb.alloc hbb.size (.cells (⟨X0, X1, X2, X3, X4, x5, x6, x7⟩ : RefB).cells 95))
        have N6 := Lib.hid n6
        clear n6 r6 hbb hb6 PA R5 HB5
        obtain ⟨c0, c1, c2, c3, c4, c5, c6, c7⟩ := ref_cells R6.out
        obtain ⟨d0, d1, d2, d3, d4, d5, d6, d7⟩ := ref_cells N6.out
        dsimp only [RefB.cells] at c0 c1 c2 c3 c4 c5 c6 c7 d0 d1 d2 d3 d4 d5 d6 d7
        rcases HBK.out with ⟨rfl, hk⟩ | ⟨rfl, hk⟩
        · have HK := Lib.hid hk; clear hk
          go_wp2_with fail
          go_ret2
          exact ⟨by rw [HTV.out, HK.out]; rfl, HB6.out⟩
        · have HK := Lib.hid hk; clear hk
          cases hre : refEq ⟨X0, X1, X2, X3, X4, x5, x6, x7⟩ ⟨S, A, Pa, Q, F, ha, hq, hf⟩ with
          | true =>
            rw [hre] at HK
            simp only [hre] at NQ
            clear hre
            go_wp2_with fail
            go_ret2
            exact ⟨by rw [HTV.out, HK.out]; rfl, HB6.out⟩
          | false =>
            rw [hre] at HK
            simp only [hre] at NQ
            clear hre
            go_wp2_with fail
            go_ret2
            exact ⟨by rw [HTV.out, HK.out]; rfl, HB6.out⟩

end Go.Proofs.Ythhpijmkhhdhhaa
