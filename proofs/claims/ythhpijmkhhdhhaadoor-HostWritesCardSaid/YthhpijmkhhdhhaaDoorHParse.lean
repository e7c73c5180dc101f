/- hostport.Parse. -/
import Derived.Test.YthhpijmkhhdhhaaDoorHostR
namespace Go.Proofs.YthhpijmkhhdhhaaDoor
open Go.RowKit
set_option linter.unusedVariables false
set_option linter.unusedSimpArgs false

theorem ofP_ok (s : ByteArray) (h : ofOk s = true) : ofP s = ofB s ∧ (ofB s).K ≠ 0 := by
  unfold ofOk at h
  unfold ofP ofB
  by_cases h1 : brkB s = true
  · rw [if_pos h1, if_pos h1]; exact ⟨rfl, by show (3 : Int) ≠ 0; decide⟩
  · rw [if_neg h1, if_neg h1]
    by_cases h2 : fourL s.data.toList = true
    · rw [if_pos h2, if_pos h2]; exact ⟨rfl, by show (2 : Int) ≠ 0; decide⟩
    · rw [if_neg h2, if_neg h2]
      by_cases h3 : nameL s.data.toList = true
      · rw [if_pos h3, if_pos h3]; exact ⟨rfl, by show (1 : Int) ≠ 0; decide⟩
      · simp only [Bool.not_eq_true] at h1 h2 h3
        rw [h1, h2, h3] at h; cases h
theorem ofP_no (s : ByteArray) (h : ofOk s = false) : (ofB s).K = 0 := by
  unfold ofOk at h
  simp only [Bool.or_eq_false_iff] at h
  unfold ofB
  rw [h.1.1, h.1.2, h.2]; rfl
theorem ofOk_iff (s : ByteArray) : ofOk s = decide ((ofB s).K ≠ 0) := by
  cases h : ofOk s with
  | true => rw [decide_eq_true (ofP_ok s h).2]
  | false => rw [decide_eq_false (by simp [ofP_no s h])]

/-- A host with a port behind a colon. -/
def portOf (s : ByteArray) (i : Nat) : Option HostB :=
  if ofOk (s.extract 0 i) && smallL 65535 (s.extract (i + 1) s.size).data.toList then some { ofB (s.extract 0 i) with Po := readV bDigit 10 65535 (s.extract (i + 1) s.size).data.toList } else none
def parseB (s : ByteArray) : Option HostB := if ofOk s then some (ofB s) else if Lib.lastIndexByte s 58 < 0 then none else portOf s (Lib.lastIndexByte s 58).toNat
def hostV : Option HostB → Value
  | some h => .tuple #[h.val, .int .i64 0]
  | none => .tuple #[HostB.zero.val, .int .i64 27]

theorem last_range (s : ByteArray) (c : Int) : Lib.lastIndexByte s c = -1 ∨ ∃ i : Nat, i < s.size ∧ Lib.lastIndexByte s c = i := by
  rcases Lib.lastIndexByte_spec s c with ⟨h, _⟩ | ⟨i, h1, h2, _⟩
  · exact .inl h
  · exact .inr ⟨i, h1, h2⟩

set_option maxRecDepth 100000 in
set_option maxHeartbeats 2000000 in
theorem pParseH_any (s : ByteArray) (w : World) (hs : s.size ≤ 10000) (hM : MaxAt w) (hP : PowAt w) :
    Calls Tryd.prog 55 #[.string s] w fun e w' => e = .returned (hostV (parseB s)) ∧ Below w.heap.size w w' := by
  have HM := Lib.hid hM; have HP := Lib.hid hP; clear hM hP
  have OF := Lib.hid (fun W h1 h2 => pOfH_any s W hs h1 h2)
  have LI := Lib.hid (fun W => Tryd.strings_LastIndexByte s 58 (by omega) W)
  have hpb : parseB s = if ofOk s then some (ofB s) else if Lib.lastIndexByte s 58 < 0 then none else portOf s (Lib.lastIndexByte s 58).toNat := rfl
  have hrange := last_range s 58
  obtain ⟨ok, hok⟩ : ∃ ok, ofOk s = ok := ⟨_, rfl⟩
  obtain ⟨li, hli⟩ : ∃ li, Lib.lastIndexByte s 58 = li := ⟨_, rfl⟩
  have hofp : ok = true → ofP s = ofB s := fun h => (ofP_ok s (by rw [hok]; exact h)).1
  obtain ⟨R, hR⟩ : ∃ R, ofP s = R := ⟨_, rfl⟩
  rw [hok, hli] at hpb
  rw [hok, hR] at OF
  rw [hli] at LI hrange
  rw [hR] at hofp
  obtain ⟨RK, RN, RP⟩ := R
  have HPB := Lib.hid hpb; have HOFP := Lib.hid hofp; have HRG := Lib.hid hrange
  clear hpb hofp hok hli hR hrange
  go_enter Tryd.func55, Tryd.ntmps55
  go_wp2_with fail
  have m0 := hostAt_new w HostB.zero
  have hb0 : Below w.heap.size w (w.alloc (.cells HostB.zero.cells 69)) := (Below.refl _ _).alloc (Nat.le_refl _) _
  refine (OF.out _ (maxAt_below HM.out hb0) (powAt_below HP.out hb0)).mono ?_
  rintro e w1 ⟨rfl, hw1⟩
  have a0 := hostAt_call m0 hw1
  have a1 := hostAt_new w1 ⟨RK, RN, RP⟩
  have A0 := Lib.hid (hostAt_alloc a0 (.cells (⟨RK, RN, RP⟩ : HostB).cells 69))
  have hb1 := bseq hb0 hw1
  have HB1 := Lib.hid (hb1.alloc hb1.size (.cells (⟨RK, RN, RP⟩ : HostB).cells 69))
  have A1 := Lib.hid a1
  clear m0 hb0 a0 hw1 hb1 a1
  unfold HostB.val HostB.cells
  simp only
  obtain ⟨d0, d1, d2⟩ := host_cells A0.out
  have e0 := host_frozen A0.out 0
  have e1 := host_frozen A0.out 1
  have e2 := host_frozen A0.out 2
  obtain ⟨c0, c1, c2⟩ := host_cells A1.out
  dsimp only [HostB.cells] at c0 c1 c2 d0 d1 d2 e0 e1 e2
  have BB := Lib.hid (fun (W : World) (h : Below w.heap.size w W) v0 v1 v2 => ((h.setCell (p := ⟨w.heap.size, 0, none⟩) (Nat.le_refl _) v0).setCell (p := ⟨w.heap.size, 1, none⟩) (Nat.le_refl _) v1).setCell (p := ⟨w.heap.size, 2, none⟩) (Nat.le_refl _) v2)
  cases ok with
  | true =>
    have HV : Hid (hostV (parseB s) = .tuple #[(⟨RK, RN, RP⟩ : HostB).val, .int .i64 0]) := Lib.hid (by rw [HPB.out, HOFP.out (by first | rfl | trivial)]; rfl)
    go_wp2_with fail
    refine bodyPost_ret (host_result2 rfl (host_all A0.out ⟨RK, RN, RP⟩) _ rfl) rfl ?_
    exact ⟨by rw [HV.out]; rfl, BB.out _ HB1.out _ _ _⟩
  | false =>
    rcases HRG.out with rfl | ⟨i, hi, rfl⟩
    · have HV : Hid (hostV (parseB s) = .tuple #[HostB.zero.val, .int .i64 27]) := Lib.hid (by rw [HPB.out]; rfl)
      go_wp2_with fail
      refine (LI.out _).mono ?_
      rintro e w2 ⟨rfl, hw2⟩
      subst hw2
      go_wp2_with fail
      refine bodyPost_ret (host_result2 rfl (host_all A0.out HostB.zero) _ rfl) rfl ?_
      exact ⟨by rw [HV.out]; rfl, BB.out _ HB1.out _ _ _⟩
    · have hpb2 : parseB s = portOf s i := by
        rw [HPB.out, if_neg (by simp), if_neg (by omega)]; rfl
      obtain ⟨a, ha⟩ : ∃ a, s.extract 0 i = a := ⟨_, rfl⟩
      obtain ⟨t, ht⟩ : ∃ t, s.extract (i + 1) s.size = t := ⟨_, rfl⟩
      have has : a.size ≤ 10000 := by rw [← ha, Lib.size_eq, Lib.extract_data, List.length_take, List.length_drop, ← Lib.size_eq]; omega
      have hts : t.size ≤ 10000 := by rw [← ht, extract_tail_size]; omega
      have hpo : portOf s i = if ofOk a && smallL 65535 t.data.toList then some { ofB a with Po := readV bDigit 10 65535 t.data.toList } else none := by unfold portOf; rw [ha, ht]
      have OF2 := Lib.hid (fun W h1 h2 => pOfH_any a W has h1 h2)
      have SM := Lib.hid (fun W h => small_any t 65535 W (by omega) (by decide) (by decide) h)
      have DE := Lib.hid (fun W => decimal_any t 65535 W (by omega) (by decide) (by decide))
      obtain ⟨ok2, hok2⟩ : ∃ ok2, ofOk a = ok2 := ⟨_, rfl⟩
      obtain ⟨sm, hsm⟩ : ∃ sm, smallL 65535 t.data.toList = sm := ⟨_, rfl⟩
      obtain ⟨rv, hrv⟩ : ∃ rv, readV bDigit 10 65535 t.data.toList = rv := ⟨_, rfl⟩
      obtain ⟨re, hre⟩ : ∃ re, readE bDigit 10 65535 t.data.toList = re := ⟨_, rfl⟩
      have hofp2 : ok2 = true → ofP a = ofB a := fun h => (ofP_ok a (by rw [hok2]; exact h)).1
      obtain ⟨R2, hR2⟩ : ∃ R2, ofP a = R2 := ⟨_, rfl⟩
      rw [hok2, hR2] at OF2
      rw [hok2, hsm, hrv] at hpo
      rw [hsm] at SM
      rw [hrv, hre] at DE
      rw [hR2] at hofp2
      obtain ⟨QK, QN, QP⟩ := R2
      have HPO := Lib.hid (hpb2.trans hpo); have HOFP2 := Lib.hid hofp2
      have g0 : ¬ (i : Int) < 0 := by omega
      have g1 : i ≤ s.size := by omega
      have g2 : (i : Int) ≤ (s.size : Int) := by omega
      have g3 : IntKind.i64.wrap ((i : Int) + 1) = ((i + 1 : Nat) : Int) := by rw [IntWalk.i64_in _ (by omega)]; omega
      have g4 : i + 1 ≤ s.size := by omega
      have g5 : ((i + 1 : Nat) : Int) ≤ (s.size : Int) := by omega
      clear hpb2 hpo hok2 hsm hrv hre hR2 hofp2
      unfold HostB.val HostB.cells at OF2
      simp only at OF2
      go_wp2_with fail
      refine (LI.out _).mono ?_
      rintro e w2 ⟨rfl, hw2⟩
      subst hw2
      go_wp2_with fail
      refine (OF2.out _ (maxAt_below HM.out HB1.out) (powAt_below HP.out HB1.out)).mono ?_
      rintro e w3 ⟨rfl, hw3⟩
      have b0 := hostAt_call A0.out hw3
      have b1 := hostAt_new w3 ⟨QK, QN, QP⟩
      have B0 := Lib.hid (hostAt_alloc b0 (.cells (⟨QK, QN, QP⟩ : HostB).cells 69))
      have hb3 := bseq HB1.out hw3
      have HB3 := Lib.hid (hb3.alloc hb3.size (.cells (⟨QK, QN, QP⟩ : HostB).cells 69))
      have B1 := Lib.hid b1
      have hlt0 : w.heap.size < w3.heap.size := hostAt_lt b0
      have HLT := Lib.hid hlt0
      clear b0 hw3 hb3 b1 d0 d1 d2 c0 c1 c2 e0 e1 e2 A0 A1 HB1 OF OF2 LI hlt0
      obtain ⟨d0, d1, d2⟩ := host_cells B0.out
      have e0 := host_frozen B0.out 0
      have e1 := host_frozen B0.out 1
      have e2 := host_frozen B0.out 2
      obtain ⟨c0, c1, c2⟩ := host_cells B1.out
      have f2 := host_frozen B1.out 2
      dsimp only [HostB.cells] at c0 c1 c2 d0 d1 d2 e0 e1 e2 f2
      cases ok2 with
      | false =>
        have HV : Hid (hostV (parseB s) = .tuple #[HostB.zero.val, .int .i64 27]) := Lib.hid (by rw [HPO.out]; rfl)
        go_wp2_with fail
        refine bodyPost_ret (host_result2 rfl (host_all B0.out HostB.zero) _ rfl) rfl ?_
        exact ⟨by rw [HV.out]; rfl, BB.out _ HB3.out _ _ _⟩
      | true =>
        go_wp2_with fail
        refine (SM.out _ (powAt_below HP.out HB3.out)).mono ?_
        rintro e w4 ⟨rfl, hw4⟩
        have E0 := Lib.hid (hostAt_call B0.out hw4)
        have E1 := Lib.hid (hostAt_call B1.out hw4)
        have HB4 := Lib.hid (bseq HB3.out hw4)
        clear hw4 d0 d1 d2 c0 c1 c2 e0 e1 e2 f2
        obtain ⟨d0, d1, d2⟩ := host_cells E0.out
        have e0 := host_frozen E0.out 0
        have e1 := host_frozen E0.out 1
        have e2 := host_frozen E0.out 2
        obtain ⟨c0, c1, c2⟩ := host_cells E1.out
        cases sm with
        | false =>
          have HV : Hid (hostV (parseB s) = .tuple #[HostB.zero.val, .int .i64 27]) := Lib.hid (by rw [HPO.out]; rfl)
          go_wp2_with fail
          refine bodyPost_ret (host_result2 rfl (host_all E0.out HostB.zero) _ rfl) rfl ?_
          exact ⟨by rw [HV.out]; rfl, BB.out _ HB4.out _ _ _⟩
        | true =>
          have HV : Hid (hostV (parseB s) = .tuple #[(⟨QK, QN, rv⟩ : HostB).val, .int .i64 0]) := Lib.hid (by rw [HPO.out, ← HOFP2.out (by first | rfl | trivial)]; rfl)
          go_wp2_with fail
          refine (DE.out _).mono ?_
          rintro e w5 ⟨rfl, hw5⟩
          have F0 := Lib.hid (hostAt_other (hostAt_call E0.out hw5) (c := w3.heap.size) (i := 2) (by have := HLT.out; omega) (.int .i64 rv))
          have f1' := hostAt_call E1.out hw5
          have F1 := Lib.hid (host_set2 f1' rv)
          have hb5 := bseq HB4.out hw5
          have HB5 := Lib.hid (hb5.setCell (p := ⟨w3.heap.size, 2, none⟩) (by have := HLT.out; show w.heap.size ≤ w3.heap.size; omega) (.int .i64 rv))
          clear hw5 d0 d1 d2 c0 c1 c2 e0 e1 e2 hb5
          obtain ⟨c0, c1, c2⟩ := host_cells f1'
          have f2 := host_frozen f1' 2
          clear f1'
          obtain ⟨d0, d1, d2⟩ := host_cells F0.out
          have e0 := host_frozen F0.out 0
          have e1 := host_frozen F0.out 1
          have e2 := host_frozen F0.out 2
          go_wp2_with fail
          refine bodyPost_ret (host_result2 rfl (host_all F0.out ⟨QK, QN, rv⟩) _ rfl) rfl ?_
          exact ⟨by rw [HV.out]; rfl, BB.out _ HB5.out _ _ _⟩

end Go.Proofs.YthhpijmkhhdhhaaDoor
