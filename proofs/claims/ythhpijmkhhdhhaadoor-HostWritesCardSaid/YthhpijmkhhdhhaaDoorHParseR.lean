/- The reference's Parse. -/
import Derived.Test.YthhpijmkhhdhhaaDoorHParse
namespace Go.Proofs.YthhpijmkhhdhhaaDoor
open Go.RowKit
set_option linter.unusedVariables false
set_option linter.unusedSimpArgs false

theorem last_step (s : ByteArray) (k : Nat) (h : k < s.size) : Lib.lastIdx s 58 (k + 1) = if ((s[k].toNat : Int) == 58) then (k : Int) else Lib.lastIdx s 58 k := by
  have e : s.data[k]! = s[k] := by
    rw [getElem!_pos s.data k h]; rfl
  by_cases hc : (s[k].toNat : Int) = 58
  · rw [if_pos (by simpa using hc), Lib.lastIdx_hit s 58 k (by rw [e]; exact hc)]
  · rw [if_neg (by simpa using hc), Lib.lastIdx_miss s 58 k (by rw [e]; exact hc)]

theorem ofB_cases (s : ByteArray) : (ofOk s = true ∧ (ofB s).K ≠ 0) ∨ (ofOk s = false ∧ ofB s = HostB.zero) := by
  cases h : ofOk s with
  | true => exact .inl ⟨rfl, (ofP_ok s h).2⟩
  | false =>
    right
    refine ⟨rfl, ?_⟩
    unfold ofOk at h
    simp only [Bool.or_eq_false_iff] at h
    unfold ofB
    rw [h.1.1, h.1.2, h.2]; rfl

set_option maxRecDepth 100000 in
set_option maxHeartbeats 2000000 in
theorem rParseH_any (s : ByteArray) (w : World) (hs : s.size ≤ 10000) :
    Calls Tryd.prog 56 #[.string s] w fun e w' => e = .returned (hostV (parseB s)) ∧ Below w.heap.size w w' := by
  have OF := Lib.hid (fun W => rOfH_any s W hs)
  have hpb : parseB s = if ofOk s then some (ofB s) else if Lib.lastIdx s 58 s.size < 0 then none else portOf s (Lib.lastIdx s 58 s.size).toNat := rfl
  have hca := ofB_cases s
  obtain ⟨R, hR⟩ : ∃ R, ofB s = R := ⟨_, rfl⟩
  rw [hR] at OF hpb hca
  obtain ⟨RK, RN, RP⟩ := R
  have HPB := Lib.hid hpb; have HCA := Lib.hid hca
  clear hpb hca hR
  go_enter Tryd.func56, Tryd.ntmps56
  go_wp2_with fail
  have m0 := hostAt_new w HostB.zero
  have hb0 : Below w.heap.size w (w.alloc (.cells HostB.zero.cells 69)) := (Below.refl _ _).alloc (Nat.le_refl _) _
  refine (OF.out _).mono ?_
  rintro e w1 ⟨rfl, hw1⟩
  have a0 := hostAt_call m0 hw1
  have hlt0 : w.heap.size < w1.heap.size := hostAt_lt a0
  have A0 := Lib.hid (hostAt_alloc a0 (.cells (⟨RK, RN, RP⟩ : HostB).cells 69))
  have hb1 := bseq hb0 hw1
  have HB1 := Lib.hid (hb1.alloc hb1.size (.cells (⟨RK, RN, RP⟩ : HostB).cells 69))
  have A1 := Lib.hid (hostAt_new w1 ⟨RK, RN, RP⟩)
  have HLT := Lib.hid hlt0
  clear m0 hb0 a0 hw1 hb1 hlt0
  unfold HostB.val HostB.cells
  simp only
  obtain ⟨d0, d1, d2⟩ := host_cells A0.out
  have e0 := host_frozen A0.out 0
  have e1 := host_frozen A0.out 1
  have e2 := host_frozen A0.out 2
  obtain ⟨c0, c1, c2⟩ := host_cells A1.out
  have f0 := host_frozen A1.out 0
  have f1 := host_frozen A1.out 1
  have f2 := host_frozen A1.out 2
  dsimp only [HostB.cells] at c0 c1 c2 d0 d1 d2 e0 e1 e2 f0 f1 f2
  have BB := Lib.hid (fun (W : World) (h : Below w.heap.size w W) v0 v1 v2 => ((h.setCell (p := ⟨w.heap.size, 0, none⟩) (Nat.le_refl _) v0).setCell (p := ⟨w.heap.size, 1, none⟩) (Nat.le_refl _) v1).setCell (p := ⟨w.heap.size, 2, none⟩) (Nat.le_refl _) v2)
  rcases HCA.out with ⟨hok, hk⟩ | ⟨hok, hk⟩
  · have HV : Hid (hostV (parseB s) = .tuple #[(⟨RK, RN, RP⟩ : HostB).val, .int .i64 0]) := Lib.hid (by rw [HPB.out, hok]; rfl)
    have hk1 : (RK == 0) = false := by rw [beq_eq_false_iff_ne]; exact hk
    have hk2 : ¬ RK = 0 := hk
    clear hok hk
    go_wp2_with fail
    refine bodyPost_ret (host_result2 rfl (host_all A0.out ⟨RK, RN, RP⟩) _ rfl) rfl ?_
    exact ⟨by rw [HV.out]; rfl, BB.out _ HB1.out _ _ _⟩
  · obtain ⟨rfl, rfl, rfl⟩ : RK = 0 ∧ RN = ⟨#[]⟩ ∧ RP = 0 := by
      injection hk with h0 h1 h2; exact ⟨h0, h1, h2⟩
    have hpb2 : parseB s = if Lib.lastIdx s 58 s.size < 0 then none else portOf s (Lib.lastIdx s 58 s.size).toNat := by rw [HPB.out, hok]; rfl
    have HPB2 := Lib.hid hpb2
    clear hpb2 hok hk HPB HCA OF
    have g0 : IntKind.i64.wrap ((s.size : Int) - 1) = (s.size : Int) - 1 := IntWalk.i64_in _ (by omega)
    go_wp2_with fail
    obtain ⟨W1, hW1⟩ : ∃ W1, w1.alloc (.cells #[.int .i64 0, .string ⟨#[]⟩, .int .i64 0] 69) = W1 := ⟨_, rfl⟩
    have hA0 := A0.out; have hA1 := A1.out; have hHB1 := HB1.out
    unfold HostB.cells at hA0 hA1 hHB1
    simp only at hA0 hA1 hHB1
    rw [hW1] at hA0 hA1 hHB1
    rw [hW1] at c0 c1 c2 d0 d1 d2 e0 e1 e2 f0 f1 f2
    clear A0 A1 HB1
    have A0 := Lib.hid hA0; have A1 := Lib.hid hA1; have HB1 := Lib.hid hHB1
    clear hA0 hA1 hHB1
    rw [hW1]
    clear hW1
    go_loop [5] (fun i => ∃ k : Nat, k ≤ s.size ∧ i = .int .i64 ((k : Int) - 1) ∧ Hid (Lib.lastIdx s 58 s.size = Lib.lastIdx s 58 k)) (fun i => (intOf i + 1).toNat)
    case atStart => exact ⟨s.size, Nat.le_refl _, rfl, Lib.hid rfl⟩
    case round =>
      obtain ⟨k, hk, rfl, hl⟩ := hrel
      rcases Nat.eq_zero_or_pos k with rfl | hkp
      · have HV : Hid (hostV (parseB s) = .tuple #[HostB.zero.val, .int .i64 27]) := Lib.hid (by rw [HPB2.out, hl.out]; rfl)
        go_wp2_with fail
        refine bodyPost_ret (host_result2 rfl (host_all A0.out HostB.zero) _ rfl) rfl ?_
        exact ⟨by rw [HV.out]; rfl, BB.out _ HB1.out _ _ _⟩
      · obtain ⟨i, rfl⟩ : ∃ i, k = i + 1 := ⟨k - 1, by omega⟩
        have hii : ((i + 1 : Nat) : Int) - 1 = (i : Int) := by omega
        rw [hii]
        have hst := last_step s i (by omega)
        have hi : i < s.size := by omega
        have g1 : (i : Int) < (s.size : Int) := by omega
        have g1' : (0 : Int) ≤ (i : Int) := by omega
        have g2 : IntKind.i64.wrap ((i : Int) - 1) = (i : Int) - 1 := IntWalk.i64_in _ (by omega)
        obtain ⟨p, hp⟩ : ∃ p, ((s[i].toNat : Int) == 58) = p := ⟨_, rfl⟩
        rw [hp] at hst
        have HST := Lib.hid hst; clear hst hii
        cases p with
        | false =>
          have hp1 : ((s[i].toNat : Int) != 58) = true := by rw [bne, hp]; rfl
          have hp2 : ¬ (s[i].toNat : Int) = 58 := by intro e; rw [e] at hp; cases hp
          go_wp2_with fail
          go_round
          case rel => exact ⟨i, by omega, by go_num, Lib.hid (by rw [hl.out, HST.out]; rfl)⟩
          case measure => simp [intOf] <;> omega
        | true =>
          have hp1 : ((s[i].toNat : Int) != 58) = false := by rw [bne, hp]; rfl
          have hp2 : (s[i].toNat : Int) = 58 := by simpa using hp
          clear hp
          have hpb2 : parseB s = portOf s i := by
            rw [HPB2.out, hl.out, HST.out, if_pos rfl, if_neg (by omega)]; rfl
          obtain ⟨a, ha⟩ : ∃ a, s.extract 0 i = a := ⟨_, rfl⟩
          obtain ⟨t, ht⟩ : ∃ t, s.extract (i + 1) s.size = t := ⟨_, rfl⟩
          have has : a.size ≤ 10000 := by rw [← ha, Lib.size_eq, Lib.extract_data, List.length_take, List.length_drop, ← Lib.size_eq]; omega
          have hts : t.size ≤ 10000 := by rw [← ht, extract_tail_size]; omega
          have hpo : portOf s i = if ofOk a && smallL 65535 t.data.toList then some { ofB a with Po := readV bDigit 10 65535 t.data.toList } else none := by unfold portOf; rw [ha, ht]
          have OF2 := Lib.hid (fun W => rOfH_any a W has)
          have SM := Lib.hid (fun W => rSmall_any t 65535 W (by omega) (by decide) (by decide))
          have hca2 := ofB_cases a
          have hneg := smallV_neg 65535 t.data.toList
          have hsv : smallL 65535 t.data.toList = true → smallV 65535 t.data.toList = readV bDigit 10 65535 t.data.toList := by
            intro h; unfold smallV; rw [h]; rfl
          obtain ⟨sv, hsv2⟩ : ∃ sv, smallV 65535 t.data.toList = sv := ⟨_, rfl⟩
          obtain ⟨sm, hsm⟩ : ∃ sm, smallL 65535 t.data.toList = sm := ⟨_, rfl⟩
          obtain ⟨R2, hR2⟩ : ∃ R2, ofB a = R2 := ⟨_, rfl⟩
          rw [hR2] at OF2 hca2 hpo
          rw [hsv2] at SM hneg hsv
          rw [hsm] at hneg hsv hpo
          obtain ⟨QK, QN, QP⟩ := R2
          have HPO := Lib.hid (hpb2.trans hpo); have HCA2 := Lib.hid hca2; have HSV := Lib.hid hsv; have HNEG := Lib.hid hneg
          have g3 : IntKind.i64.wrap ((i : Int) + 1) = ((i + 1 : Nat) : Int) := by rw [IntWalk.i64_in _ (by omega)]; omega
          have g4 : i + 1 ≤ s.size := by omega
          have g5 : ((i + 1 : Nat) : Int) ≤ (s.size : Int) := by omega
          have g6 : i ≤ s.size := by omega
          have g7 : (i : Int) ≤ (s.size : Int) := by omega
          clear hpb2 hpo hca2 hsv2 hsm hR2 hneg hsv
          unfold HostB.val HostB.cells at OF2
          simp only at OF2
          go_wp2_with fail
          refine (OF2.out _).mono ?_
          rintro e w3 ⟨rfl, hw3⟩
          have b0 := hostAt_call A0.out hw3
          have b1 := hostAt_call A1.out hw3
          have hb3 := bseq HB1.out hw3
          clear hw3 d0 d1 d2 c0 c1 c2 e0 e1 e2 f0 f1 f2
          obtain ⟨c0, c1, c2⟩ := host_cells b1
          have f0 := host_frozen b1 0
          have f1 := host_frozen b1 1
          have f2 := host_frozen b1 2
          go_wp2_with fail
          have hne : w1.heap.size ≠ w.heap.size := by have := HLT.out; omega
          have b1' := host_all b1 ⟨QK, QN, QP⟩
          have b0' := hostAt_other (hostAt_other (hostAt_other b0 (Ne.symm hne) (i := 0) (.int .i64 QK)) (Ne.symm hne) (i := 1) (.string QN)) (Ne.symm hne) (i := 2) (.int .i64 QP)
          have hle : w.heap.size ≤ w1.heap.size := by have := HLT.out; omega
          have hb3' := ((hb3.setCell (p := ⟨w1.heap.size, 0, none⟩) hle (.int .i64 QK)).setCell (p := ⟨w1.heap.size, 1, none⟩) hle (.string QN)).setCell (p := ⟨w1.heap.size, 2, none⟩) hle (.int .i64 QP)
          refine (SM.out _).mono ?_
          rintro e w4 ⟨rfl, hw4⟩
          have E0 := Lib.hid (hostAt_call b0' hw4)
          have E1 := Lib.hid (hostAt_call b1' hw4)
          have HB4 := Lib.hid (bseq hb3' hw4)
          clear hw4 b0 b1 hb3 b0' b1' hb3' c0 c1 c2 f0 f1 f2
          obtain ⟨d0, d1, d2⟩ := host_cells E0.out
          have e0 := host_frozen E0.out 0
          have e1 := host_frozen E0.out 1
          have e2 := host_frozen E0.out 2
          obtain ⟨c0, c1, c2⟩ := host_cells E1.out
          have f2 := host_frozen E1.out 2
          dsimp only at c0 c1 c2 f2
          rcases HCA2.out with ⟨hok2, hk2⟩ | ⟨hok2, hk2⟩
          · have hq1 : (QK == 0) = false := by rw [beq_eq_false_iff_ne]; exact hk2
            have hq2 : ¬ QK = 0 := hk2
            have HOK2 := Lib.hid hok2
            clear hok2 hk2
            cases sm with
            | true =>
              have hneg : decide (sv < 0) = false := by rw [HNEG.out]; rfl
              have hnn : ¬ sv < 0 := of_decide_eq_false hneg
              have HV : Hid (hostV (parseB s) = .tuple #[(⟨QK, QN, sv⟩ : HostB).val, .int .i64 0]) := Lib.hid (by rw [HPO.out, HOK2.out, HSV.out (by first | rfl | trivial)]; rfl)
              have F0 := Lib.hid (hostAt_other E0.out (Ne.symm hne) (i := 2) (.int .i64 sv))
              have HB5 := Lib.hid (HB4.out.setCell (p := ⟨w1.heap.size, 2, none⟩) hle (.int .i64 sv))
              clear hnn
              go_wp2_with fail
              refine bodyPost_ret (host_result2 rfl (host_all F0.out ⟨QK, QN, sv⟩) _ rfl) rfl ?_
              exact ⟨by rw [HV.out]; rfl, BB.out _ HB5.out _ _ _⟩
            | false =>
              have hneg : decide (sv < 0) = true := by rw [HNEG.out]; rfl
              have hng : sv < 0 := of_decide_eq_true hneg
              have HV : Hid (hostV (parseB s) = .tuple #[HostB.zero.val, .int .i64 27]) := Lib.hid (by rw [HPO.out, HOK2.out]; rfl)
              clear hneg
              go_wp2_with fail
              refine bodyPost_ret (host_result2 rfl (host_all E0.out HostB.zero) _ rfl) rfl ?_
              exact ⟨by rw [HV.out]; rfl, BB.out _ HB4.out _ _ _⟩
          · have hq0 : QK = 0 := by injection hk2
            have HV : Hid (hostV (parseB s) = .tuple #[HostB.zero.val, .int .i64 27]) := Lib.hid (by rw [HPO.out, hok2]; rfl)
            subst hq0
            clear hok2 hk2
            go_wp2_with fail
            refine bodyPost_ret (host_result2 rfl (host_all E0.out HostB.zero) _ rfl) rfl ?_
            exact ⟨by rw [HV.out]; rfl, BB.out _ HB4.out _ _ _⟩

end Go.Proofs.YthhpijmkhhdhhaaDoor
