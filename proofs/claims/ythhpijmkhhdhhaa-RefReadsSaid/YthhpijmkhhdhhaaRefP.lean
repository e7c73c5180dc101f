/- The reference's Parse. -/
import Derived.Test.YthhpijmkhhdhhaaRefG
namespace Go.Proofs.Ythhpijmkhhdhhaa
open Go.RowKit
set_option linter.unusedVariables false
set_option linter.unusedSimpArgs false

theorem extract_mid (s : ByteArray) (a b : Nat) : s.extract a b = mkB ((s.data.toList.drop a).take (b - a)) := mkB_eq (by rw [Lib.extract_data])
def restR (hf hq : Bool) (F Q l2 : List UInt8) : RefV :=
  let a := schR l2
  let b := authP [47] a.2
  { scheme := a.1, auth := b.2.1, path := b.2.2, query := Q, frag := F, hasAuth := b.1, hasQuery := hq, hasFrag := hf }
def restR2 (hf hq : Bool) (F Q S l3 : List UInt8) : RefV :=
  let b := authP [47] l3
  { scheme := S, auth := b.2.1, path := b.2.2, query := Q, frag := F, hasAuth := b.1, hasQuery := hq, hasFrag := hf }
theorem restR_eq (hf hq : Bool) (F Q l2 : List UInt8) : restR hf hq F Q l2 = restR2 hf hq F Q (schR l2).1 (schR l2).2 := rfl
theorem prefix_two (L : ByteArray) : Lib.hasPrefix L.data.toList [47, 47] = (decide (1 < L.size) && ((L.extract 0 2).toList == [47, 47])) := by
  rw [hasPrefix_take, Lib.toList_data, extract_mkB0, mkB_data]
  rcases Nat.lt_or_ge 1 L.size with h | h
  · rw [decide_eq_true h]; rfl
  · rw [decide_eq_false (by omega), Bool.false_and, beq_eq_false_iff_ne]
    intro e
    have := congrArg List.length e
    rw [List.length_take, ← Lib.size_eq] at this
    simp at this
    omega
theorem head_drop (L : ByteArray) (c : Nat) (h : c < L.size) : (L.data.toList.drop c).head? = some L[c] := by rw [drop_cons L c h]; rfl

set_option maxHeartbeats 4000000 in
set_option maxRecDepth 1000000 in
theorem rParse_any (s : ByteArray) (w : World) (hs : s.size ≤ 100000) :
    Calls Try.prog 102 #[.string s] w fun e w' => e = .returned (parseV s.data.toList) ∧ Below w.heap.size w w' := by
  obtain ⟨h, hh⟩ : ∃ h, firstN [35] s.data.toList = h := ⟨_, rfl⟩
  have hhl : h ≤ s.size := by rw [← hh, Lib.size_eq]; exact firstN_le _ _
  have C1 := Lib.hid (fun W => first_any s ⟨#[35]⟩ W (by omega) (by decide))
  rw [show (⟨#[35]⟩ : ByteArray).data.toList = [35] from rfl, hh] at C1
  obtain ⟨l1, hl1⟩ : ∃ l1, s.data.toList.take h = l1 := ⟨_, rfl⟩
  have hl1s : l1.length ≤ 100000 := by rw [← hl1, List.length_take, ← Lib.size_eq]; omega
  obtain ⟨q, hq⟩ : ∃ q, firstN [63] l1 = q := ⟨_, rfl⟩
  obtain ⟨F, hF⟩ : ∃ F, s.data.toList.drop (h + 1) = F := ⟨_, rfl⟩
  obtain ⟨hf, hhf⟩ : ∃ hf, decide (h < s.size) = hf := ⟨_, rfl⟩
  have hp1 : partsP s.data.toList = restR hf (decide (q < l1.length)) F (l1.drop (q + 1)) (l1.take q) := by
    subst hhf hF hq hl1 hh
    rw [parts_same, Lib.size_eq]
    rfl
  obtain ⟨z1, z2, z3, z4, z5⟩ := parts_sizes s.data.toList
  rw [← Lib.size_eq] at z1 z2 z3 z4 z5
  have WE := Lib.hid (fun W => right_any (partsP s.data.toList).toB W (by show (mkB _).size ≤ _; rw [mkB_size]; omega) (by show (mkB _).size ≤ _; rw [mkB_size]; omega) (by show (mkB _).size ≤ _; rw [mkB_size]; omega) (by show (mkB _).size ≤ _; rw [mkB_size]; omega))
  rw [toV_toB] at WE
  have HV := Lib.hid (show parseV s.data.toList = if wellL (partsP s.data.toList) then .tuple #[(partsP s.data.toList).toB.val, .int .i64 0] else .tuple #[RefB.zero.val, .int .i64 2] from rfl)
  have HP1 := Lib.hid hp1; clear hp1 z1 z2 z3 z4 z5
  have HL1 := Lib.hid hl1; have HQ := Lib.hid hq; have HF := Lib.hid hF; have HHF := Lib.hid hhf
  clear hh hl1 hq hF hhf
  go_enter Try.func102, Try.ntmps102
  go_upto_region 1 with fail
  go_cut [4] (fun p wx => p = .pointer (some ⟨w.heap.size + 1, 0, none⟩) ∧ Below w.heap.size w wx ∧ RefAt wx w.heap.size RefB.zero ∧ RefAt wx (w.heap.size + 1) RefB.zero)
  case first =>
    go_wp2_with fail
    go_meet
    have e1 : (w.alloc (.cells RefB.zero.cells 95)).heap.size = w.heap.size + 1 := by simp
    have n1 := refAt_new (w.alloc (.cells RefB.zero.cells 95)) RefB.zero
    rw [e1] at n1
    exact ⟨rfl, ((Below.refl _ _).alloc (Nat.le_refl _) _).alloc (by simp) _, refAt_alloc (refAt_new w RefB.zero) _, n1⟩
  case rest =>
    obtain ⟨rfl, hbc, r0, r1⟩ := hcut
    have HB1 := Lib.hid hbc; have R0 := Lib.hid r0; have R1 := Lib.hid r1; clear hbc r0 r1
    go_upto_if 15 with (go_at_call 126; refine (C1.out _).mono ?_; rintro e w2 ⟨rfl, hw2⟩; subst hw2)
    go_cut [0] (fun s0 wx => s0 = .string (mkB l1) ∧ Below w.heap.size w wx ∧ RefAt wx w.heap.size RefB.zero ∧ RefAt wx (w.heap.size + 1) ⟨⟨#[]⟩, ⟨#[]⟩, ⟨#[]⟩, ⟨#[]⟩, mkB F, false, false, hf⟩)
    case first =>
      by_cases hlt : h < s.size
      · obtain ⟨j, hj⟩ : ∃ j : Nat, h + 1 = j := ⟨_, rfl⟩
        have g1 : (h : Int) < (s.size : Int) := by omega
        have g2 : (h : Int) ≤ (s.size : Int) := by omega
        have g4 : IntKind.i64.wrap ((h : Int) + 1) = (j : Int) := by rw [wrap_small _ (by omega) (by omega)]; omega
        have g5 : j ≤ s.size := by omega
        have g6 : (j : Int) ≤ (s.size : Int) := by omega
        have HT : Hid (hf = true) := Lib.hid (by rw [← HHF.out]; exact decide_eq_true hlt)
        have HX : Hid (s.extract j s.size = mkB F) := Lib.hid (by rw [extract_mkB, ← hj, HF.out])
        have HJ := Lib.hid hj; clear hj
        obtain ⟨c0, c1, c2, c3, c4, c5, c6, c7⟩ := ref_cells R1.out
        have f4 := ref_frozen R1.out 4
        have f7 := ref_frozen R1.out 7
        go_wp2_with fail
        go_meet
        rw [HX.out, HT.out]
        exact ⟨by rw [extract_mkB0, HL1.out], (HB1.out.setCell (by simp) _).setCell (by simp) _, refAt_other (refAt_other R0.out (by omega) _) (by omega) _, ref_set4 (ref_set7 R1.out true) (mkB F)⟩
      · have g1 : decide ((h : Int) < (s.size : Int)) = false := decide_eq_false (by omega)
        have HT : Hid (hf = false) := Lib.hid (by rw [← HHF.out]; exact decide_eq_false hlt)
        have HX : Hid (F = []) := Lib.hid (by rw [← HF.out]; exact List.drop_of_length_le (by rw [← Lib.size_eq]; omega))
        have HY : Hid (mkB l1 = s) := Lib.hid (by rw [← HL1.out, List.take_of_length_le (by rw [← Lib.size_eq]; omega), mkB_of])
        go_wp2_with fail
        go_meet
        rw [HX.out, HT.out, HY.out]
        exact ⟨rfl, HB1.out, R0.out, R1.out⟩
    case rest =>
      obtain ⟨rfl, hbc, r0, r1⟩ := hcut
      clear HB1 R0 R1 C1 HHF HL1 HF
      have HB1 := Lib.hid hbc; have R0 := Lib.hid r0; have R1 := Lib.hid r1; clear hbc r0 r1
      obtain ⟨L1, hL1⟩ : ∃ L1, mkB l1 = L1 := ⟨_, rfl⟩
      have hd1 : L1.data.toList = l1 := by rw [← hL1, mkB_data]
      have hz1 : L1.size = l1.length := by rw [← hL1, mkB_size]
      rw [hL1]
      have hql : q ≤ L1.size := by rw [hz1, ← HQ.out]; exact firstN_le _ _
      have C1 := Lib.hid (fun W => first_any L1 ⟨#[63]⟩ W (by omega) (by decide))
      rw [show (⟨#[63]⟩ : ByteArray).data.toList = [63] from rfl, hd1, HQ.out] at C1
      obtain ⟨hq, hhq⟩ : ∃ hq, decide (q < l1.length) = hq := ⟨_, rfl⟩
      obtain ⟨Q, hQ⟩ : ∃ Q, l1.drop (q + 1) = Q := ⟨_, rfl⟩
      obtain ⟨l2, hl2⟩ : ∃ l2, l1.take q = l2 := ⟨_, rfl⟩
      have hl2s : l2.length ≤ 100000 := by rw [← hl2, List.length_take]; omega
      rw [hhq, hQ, hl2] at HP1
      have HHQ := Lib.hid hhq; have HQQ := Lib.hid hQ; have HL2 := Lib.hid hl2; have HD1 := Lib.hid hd1; have HZ1 := Lib.hid hz1
      clear hhq hQ hl2 hd1 HQ hL1 hz1
      go_upto_if 30 with (go_at_call 126; refine (C1.out _).mono ?_; rintro e w2 ⟨rfl, hw2⟩; subst hw2)
      go_cut [0] (fun s0 wx => s0 = .string (mkB l2) ∧ Below w.heap.size w wx ∧ RefAt wx w.heap.size RefB.zero ∧ RefAt wx (w.heap.size + 1) ⟨⟨#[]⟩, ⟨#[]⟩, ⟨#[]⟩, mkB Q, mkB F, false, hq, hf⟩)
      case first =>
        by_cases hlt : q < L1.size
        · obtain ⟨j, hj⟩ : ∃ j : Nat, q + 1 = j := ⟨_, rfl⟩
          have hz : L1.size ≤ 100000 := by have := HZ1.out; omega
          have g1 : (q : Int) < (L1.size : Int) := by omega
          have g2 : (q : Int) ≤ (L1.size : Int) := by omega
          have g4 : IntKind.i64.wrap ((q : Int) + 1) = (j : Int) := by rw [wrap_small _ (by omega) (by omega)]; omega
          have g5 : j ≤ L1.size := by omega
          have g6 : (j : Int) ≤ (L1.size : Int) := by omega
          have HT : Hid (hq = true) := Lib.hid (by rw [← HHQ.out]; exact decide_eq_true (by have := HZ1.out; omega))
          have HX : Hid (L1.extract j L1.size = mkB Q) := Lib.hid (by rw [extract_mkB, ← hj, HD1.out, HQQ.out])
          have HJ := Lib.hid hj; clear hj
          obtain ⟨c0, c1, c2, c3, c4, c5, c6, c7⟩ := ref_cells R1.out
          have f3 := ref_frozen R1.out 3
          have f6 := ref_frozen R1.out 6
          go_wp2_with fail
          go_meet
          rw [HX.out, HT.out]
          exact ⟨by rw [extract_mkB0, HD1.out, HL2.out], (HB1.out.setCell (by simp) _).setCell (by simp) _, refAt_other (refAt_other R0.out (by omega) _) (by omega) _, ref_set3 (ref_set6 R1.out true) (mkB Q)⟩
        · have g1 : decide ((q : Int) < (L1.size : Int)) = false := decide_eq_false (by omega)
          have HT : Hid (hq = false) := Lib.hid (by rw [← HHQ.out]; exact decide_eq_false (by have := HZ1.out; omega))
          have HX : Hid (Q = []) := Lib.hid (by rw [← HQQ.out]; exact List.drop_of_length_le (by have := HZ1.out; omega))
          have HY : Hid (mkB l2 = L1) := Lib.hid (by rw [← HL2.out, List.take_of_length_le (by have := HZ1.out; omega), ← HD1.out, mkB_of])
          go_wp2_with fail
          go_meet
          rw [HX.out, HT.out, HY.out]
          exact ⟨rfl, HB1.out, R0.out, R1.out⟩
      case rest =>
        obtain ⟨rfl, hbc, r0, r1⟩ := hcut
        clear HB1 R0 R1 C1 HHQ HQQ HL2 HD1 HZ1 hql hl1s
        have HB1 := Lib.hid hbc; have R0 := Lib.hid r0; have R1 := Lib.hid r1; clear hbc r0 r1
        obtain ⟨L2, hL2⟩ : ∃ L2, mkB l2 = L2 := ⟨_, rfl⟩
        have hd2 : L2.data.toList = l2 := by rw [← hL2, mkB_data]
        have hz2 : L2.size = l2.length := by rw [← hL2, mkB_size]
        rw [hL2]
        obtain ⟨c, hc⟩ : ∃ c, firstN [58, 47] l2 = c := ⟨_, rfl⟩
        have hcl : c ≤ L2.size := by rw [hz2, ← hc]; exact firstN_le _ _
        have C1 := Lib.hid (fun W => first_any L2 ⟨#[58, 47]⟩ W (by omega) (by decide))
        rw [show (⟨#[58, 47]⟩ : ByteArray).data.toList = [58, 47] from rfl, hd2, hc] at C1
        have SC := Lib.hid (fun W => rScheme_any (L2.extract 0 c) W (by rw [extract_mkB0, mkB_size, List.length_take, hd2]; omega))
        rw [extract_mkB0, mkB_data, ← extract_mkB0, hd2] at SC
        rw [restR_eq] at HP1
        have hsr : schR l2 = if decide (c < L2.size) && (L2.data.toList.drop c).head? == some 58 && schemeL (l2.take c) then (l2.take c, l2.drop (c + 1)) else ([], l2) := by
          unfold schR; rw [hc, ← hz2, hd2]
        obtain ⟨sl, hsl⟩ : ∃ sl, schemeL (l2.take c) = sl := ⟨_, rfl⟩
        rw [hsl] at SC hsr
        obtain ⟨sc, hsc⟩ : ∃ sc, (decide (c < L2.size) && (L2.data.toList.drop c).head? == some 58 && sl) = sc := ⟨_, rfl⟩
        rw [hsc] at hsr
        have HSC := Lib.hid hsc; have HSR := Lib.hid hsr; have HD2 := Lib.hid hd2; have HL2 := Lib.hid hL2; have HZ2 := Lib.hid hz2
        have hz : L2.size ≤ 100000 := by omega
        clear hsc hsr hd2 hL2 hc hz2 hsl
        go_upto_region 13 with (go_at_call 126; refine (C1.out _).mono ?_; rintro e w2 ⟨rfl, hw2⟩; subst hw2)
        go_cut [57] (fun t wx => t = .bool sc ∧ Below w.heap.size w wx ∧ RefAt wx w.heap.size RefB.zero ∧ RefAt wx (w.heap.size + 1) ⟨⟨#[]⟩, ⟨#[]⟩, ⟨#[]⟩, mkB Q, mkB F, false, hq, hf⟩)
        case first =>
          by_cases hlt : c < L2.size
          · have g2 : (c : Int) < (L2.size : Int) := by omega
            have g3 : (c : Int) ≤ (L2.size : Int) := by omega
            have hx : ((L2.data.toList.drop c).head? == some 58) = ((L2[c].toNat : Int) == 58) := by
              rw [head_drop L2 c hlt, Bool.eq_iff_iff]
              simp only [beq_iff_eq, Option.some.injEq]
              constructor
              · intro e; rw [e]; rfl
              · intro e; exact UInt8.toNat_inj.1 (by rw [show (58 : UInt8).toNat = 58 from rfl]; omega)
            cases hx58 : ((L2[c].toNat : Int) == 58) with
            | false =>
              have HV2 : Hid (sc = false) := Lib.hid (by rw [← HSC.out, hx, hx58]; simp)
              clear hx
              go_wp2_with fail
              go_meet
              exact ⟨by rw [HV2.out], HB1.out, R0.out, R1.out⟩
            | true =>
              have HV2 : Hid (sc = sl) := Lib.hid (by rw [← HSC.out, hx, hx58, decide_eq_true hlt]; rfl)
              clear hx
              go_wp2_with (go_at_call 127; refine (SC.out _).mono ?_; rintro e w2 ⟨rfl, hw2⟩; subst hw2)
              go_meet
              exact ⟨by rw [HV2.out], HB1.out, R0.out, R1.out⟩
          · have g1 : decide ((c : Int) < (L2.size : Int)) = false := decide_eq_false (by omega)
            have HV2 : Hid (sc = false) := Lib.hid (by rw [← HSC.out, decide_eq_false hlt]; rfl)
            go_wp2_with fail
            go_meet
            exact ⟨by rw [HV2.out], HB1.out, R0.out, R1.out⟩
        case rest =>
          obtain ⟨rfl, hbc, r0, r1⟩ := hcut
          clear HB1 R0 R1 C1 SC
          have HB1 := Lib.hid hbc; have R0 := Lib.hid r0; have R1 := Lib.hid r1; clear hbc r0 r1
          go_upto_if 57 with fail
          go_cut [0] (fun s0 wx => s0 = .string (mkB (schR l2).2) ∧ Below w.heap.size w wx ∧ RefAt wx w.heap.size RefB.zero ∧ RefAt wx (w.heap.size + 1) ⟨mkB (schR l2).1, ⟨#[]⟩, ⟨#[]⟩, mkB Q, mkB F, false, hq, hf⟩)
          case first =>
            cases sc with
            | true =>
              have hlt : c < L2.size := by
                have := HSC.out
                simp only [Bool.and_eq_true, decide_eq_true_eq] at this
                exact this.1.1
              obtain ⟨j, hj⟩ : ∃ j : Nat, c + 1 = j := ⟨_, rfl⟩
              have g2 : (c : Int) ≤ (L2.size : Int) := by omega
              have g4 : IntKind.i64.wrap ((c : Int) + 1) = (j : Int) := by rw [wrap_small _ (by omega) (by omega)]; omega
              have g5 : j ≤ L2.size := by omega
              have g6 : (j : Int) ≤ (L2.size : Int) := by omega
              have HX : Hid (L2.extract j L2.size = mkB (l2.drop (c + 1))) := Lib.hid (by rw [extract_mkB, ← hj, HD2.out])
              have HY : Hid (L2.extract 0 c = mkB (l2.take c)) := Lib.hid (by rw [extract_mkB0, HD2.out])
              clear hj
              obtain ⟨c0, c1, c2, c3, c4, c5, c6, c7⟩ := ref_cells R1.out
              have f0 := ref_frozen R1.out 0
              go_wp2_with fail
              go_meet
              rw [HX.out, HY.out, HSR.out]
              exact ⟨rfl, HB1.out.setCell (by simp) _, refAt_other R0.out (by omega) _, ref_set0 R1.out _⟩
            | false =>
              go_wp2_with fail
              go_meet
              rw [HSR.out]
              exact ⟨by rw [← HL2.out]; rfl, HB1.out, R0.out, R1.out⟩
          case rest =>
            obtain ⟨rfl, hbc, r0, r1⟩ := hcut
            have hl3s : (schR l2).2.length ≤ 100000 := by
              rw [HSR.out]
              split
              · rw [List.length_drop]; omega
              · exact hl2s
            clear HB1 R0 R1 HSC HSR HD2 HL2 HZ2
            have HB1 := Lib.hid hbc; have R0 := Lib.hid r0; have R1 := Lib.hid r1; clear hbc r0 r1
            obtain ⟨Sc, hSc⟩ : ∃ Sc, (schR l2).1 = Sc := ⟨_, rfl⟩
            obtain ⟨l3, hl3⟩ : ∃ l3, (schR l2).2 = l3 := ⟨_, rfl⟩
            rw [hSc, hl3] at HP1
            rw [hSc] at R1
            rw [hl3] at hl3s
            rw [hl3]
            clear hSc hl3
            obtain ⟨L3, hL3⟩ : ∃ L3, mkB l3 = L3 := ⟨_, rfl⟩
            have hd3 : L3.data.toList = l3 := by rw [← hL3, mkB_data]
            have hz3 : L3.size = l3.length := by rw [← hL3, mkB_size]
            rw [hL3]
            obtain ⟨ha, hha⟩ : ∃ ha, Lib.hasPrefix l3 [47, 47] = ha := ⟨_, rfl⟩
            have h2pre := prefix_two L3
            rw [hd3, hha] at h2pre
            have HHA := Lib.hid hha; have HD3 := Lib.hid hd3; have HL3 := Lib.hid hL3
            have hz : L3.size ≤ 100000 := by omega
            clear hha hd3 hL3 hz3
            obtain ⟨ex, hex⟩ : ∃ ex, L3.extract 0 2 = ex := ⟨_, rfl⟩
            rw [hex] at h2pre
            have H2 := Lib.hid h2pre; clear h2pre
            go_upto_region 16 with fail
            go_cut [73] (fun t wx => t = .bool ha ∧ Below w.heap.size w wx ∧ RefAt wx w.heap.size RefB.zero ∧ RefAt wx (w.heap.size + 1) ⟨mkB Sc, ⟨#[]⟩, ⟨#[]⟩, mkB Q, mkB F, false, hq, hf⟩)
            case first =>
              by_cases hgt : 1 < L3.size
              · have g1 : (1 : Int) < (L3.size : Int) := by omega
                have g2 : 2 ≤ L3.size := by omega
                have g3 : (2 : Int) ≤ (L3.size : Int) := by omega
                have hq2 : (ex.toList == [47, 47]) = ha := by have := H2.out; rw [decide_eq_true hgt, Bool.true_and] at this; exact this.symm
                go_wp2_with fail
                go_meet
                exact ⟨rfl, HB1.out, R0.out, R1.out⟩
              · have g1 : decide ((1 : Int) < (L3.size : Int)) = false := decide_eq_false (by omega)
                have HV2 : Hid (ha = false) := Lib.hid (by rw [H2.out, decide_eq_false hgt]; rfl)
                go_wp2_with fail
                go_meet
                exact ⟨by rw [HV2.out], HB1.out, R0.out, R1.out⟩
            case rest =>
              obtain ⟨rfl, hbc, r0, r1⟩ := hcut
              clear HB1 R0 R1 hex H2
              have HB1 := Lib.hid hbc; have R0 := Lib.hid r0; have R1 := Lib.hid r1; clear hbc r0 r1
              go_upto_if 73 with fail
              go_cut [0] (fun s0 wx => s0 = .string (mkB (authP [47] l3).2.2) ∧ Below w.heap.size w wx ∧ RefAt wx w.heap.size RefB.zero ∧ RefAt wx (w.heap.size + 1) ⟨mkB Sc, mkB (authP [47] l3).2.1, ⟨#[]⟩, mkB Q, mkB F, (authP [47] l3).1, hq, hf⟩)
              case first =>
                cases ha with
                | true =>
                  have hap : authP [47] l3 = (true, (l3.drop 2).take (firstN [47] (l3.drop 2)), (l3.drop 2).drop (firstN [47] (l3.drop 2))) := by unfold authP; rw [if_pos HHA.out]
                  have hl : 2 ≤ l3.length := by obtain ⟨r, hr⟩ := hasPrefix_two HHA.out; rw [hr]; simp
                  have hsz : L3.size = l3.length := by rw [← HD3.out, Lib.size_eq]
                  obtain ⟨n, hn⟩ : ∃ n, firstN [47] (l3.drop 2) = n := ⟨_, rfl⟩
                  have hnl : n ≤ l3.length - 2 := by rw [← hn, ← List.length_drop]; exact firstN_le _ _
                  have C1 := Lib.hid (fun W => first_any (L3.extract 2 L3.size) ⟨#[47]⟩ W (by rw [extract_mkB, mkB_size, HD3.out, List.length_drop]; omega) (by decide))
                  rw [show (⟨#[47]⟩ : ByteArray).data.toList = [47] from rfl, extract_mkB, mkB_data, ← extract_mkB, HD3.out, hn] at C1
                  rw [hn] at hap
                  obtain ⟨j, hj⟩ : ∃ j : Nat, 2 + n = j := ⟨_, rfl⟩
                  have g1 : 2 ≤ L3.size := by omega
                  have g2 : (2 : Int) ≤ (L3.size : Int) := by omega
                  have g4 : IntKind.i64.wrap (2 + (n : Int)) = (j : Int) := by rw [wrap_small _ (by omega) (by omega)]; omega
                  have g5 : j ≤ L3.size := by omega
                  have g6 : (j : Int) ≤ (L3.size : Int) := by omega
                  have g7 : 2 ≤ j := by omega
                  have g8 : (2 : Int) ≤ (j : Int) := by omega
                  have HX : Hid (L3.extract 2 j = mkB ((l3.drop 2).take n)) := Lib.hid (by rw [extract_mid, HD3.out]; congr 2; omega)
                  have HY : Hid (L3.extract j L3.size = mkB ((l3.drop 2).drop n)) := Lib.hid (by rw [extract_mkB, HD3.out, List.drop_drop, hj])
                  have HAP := Lib.hid hap
                  clear hap hn hj hsz hl hnl
                  obtain ⟨c0, c1, c2, c3, c4, c5, c6, c7⟩ := ref_cells R1.out
                  have f1 := ref_frozen R1.out 1
                  have f5 := ref_frozen R1.out 5
                  go_wp2_with (go_at_call 126; refine (C1.out _).mono ?_; rintro e w2 ⟨rfl, hw2⟩; subst hw2)
                  go_meet
                  rw [HX.out, HY.out, HAP.out]
                  exact ⟨rfl, (HB1.out.setCell (by simp) _).setCell (by simp) _, refAt_other (refAt_other R0.out (by omega) _) (by omega) _, ref_set1 (ref_set5 R1.out true) _⟩
                | false =>
                  have hap : authP [47] l3 = (false, [], l3) := by unfold authP; rw [if_neg (by rw [HHA.out]; simp)]
                  have HAP := Lib.hid hap; clear hap
                  go_wp2_with fail
                  go_meet
                  rw [HAP.out]
                  exact ⟨by rw [← HL3.out], HB1.out, R0.out, R1.out⟩
              case rest =>
                obtain ⟨rfl, hbc, r0, r1⟩ := hcut
                obtain ⟨R, hR⟩ : ∃ R, (partsP s.data.toList).toB = R := ⟨_, rfl⟩
                have hRe : R = ⟨mkB Sc, mkB (authP [47] l3).2.1, mkB (authP [47] l3).2.2, mkB Q, mkB F, (authP [47] l3).1, hq, hf⟩ := by rw [← hR, HP1.out]; rfl
                obtain ⟨ok, hok⟩ : ∃ ok, wellL (partsP s.data.toList) = ok := ⟨_, rfl⟩
                rw [hok, hR] at WE HV
                rw [hRe] at WE HV
                obtain ⟨A, hA⟩ : ∃ A, mkB (authP [47] l3).2.1 = A := ⟨_, rfl⟩
                obtain ⟨Pa, hPa⟩ : ∃ Pa, mkB (authP [47] l3).2.2 = Pa := ⟨_, rfl⟩
                obtain ⟨aa, haa⟩ : ∃ aa, (authP [47] l3).1 = aa := ⟨_, rfl⟩
                obtain ⟨SB, hSB⟩ : ∃ SB, mkB Sc = SB := ⟨_, rfl⟩
                obtain ⟨QB, hQB⟩ : ∃ QB, mkB Q = QB := ⟨_, rfl⟩
                obtain ⟨FB, hFB⟩ : ∃ FB, mkB F = FB := ⟨_, rfl⟩
                rw [hA, hPa, haa, hSB, hQB, hFB] at WE HV
                rw [hA, haa, hSB, hQB, hFB] at r1
                rw [hPa]
                have r1' := ref_set2 r1 Pa
                have r0' : RefAt (wc.setCell ⟨w.heap.size + 1, 2, none⟩ (.string Pa)) w.heap.size RefB.zero := refAt_other r0 (by simp) _
                have hb' : Below w.heap.size w (wc.setCell ⟨w.heap.size + 1, 2, none⟩ (.string Pa)) := hbc.setCell (by simp) _
                have R0 := Lib.hid r0'; have R1 := Lib.hid r1'; have HB1 := Lib.hid hb'
                obtain ⟨c0, c1, c2, c3, c4, c5, c6, c7⟩ := ref_cells r1
                have f2 := ref_frozen r1 2
                clear hRe hR hok hA hPa haa hSB hQB hFB r0 r1 hbc r1' r0' hb' HP1 HHA HD3 HL3
                obtain ⟨d0, d1, d2, d3, d4, d5, d6, d7⟩ := ref_cells R1.out
                unfold RefB.val RefB.cells at WE
                simp only at WE
                go_wp2_with fail
                refine (WE.out _).mono ?_
                rintro e w3 ⟨rfl, hw3⟩
                have Q3 := Lib.hid (refAt_below R0.out hw3 (refAt_lt R0.out))
                have K3 := Lib.hid (refAt_below R1.out hw3 (refAt_lt R1.out))
                have HB3 := Lib.hid (bseq HB1.out hw3)
                clear hw3 R0 R1 HB1 WE c0 c1 c2 c3 c4 c5 c6 c7 d0 d1 d2 d3 d4 d5 d6 d7 f2
                obtain ⟨z0, z1, z2, z3, z4, z5, z6, z7⟩ := ref_cells Q3.out
                obtain ⟨c0, c1, c2, c3, c4, c5, c6, c7⟩ := ref_cells K3.out
                have f0 := ref_frozen Q3.out 0
                have f1 := ref_frozen Q3.out 1
                have f2 := ref_frozen Q3.out 2
                have f3 := ref_frozen Q3.out 3
                have f4 := ref_frozen Q3.out 4
                have f5 := ref_frozen Q3.out 5
                have f6 := ref_frozen Q3.out 6
                have f7 := ref_frozen Q3.out 7
                have BB := Lib.hid (fun v0 v1 v2 v3 v4 v5 v6 v7 => (((((((HB3.out.setCell (p := ⟨w.heap.size, 0, none⟩) (Nat.le_refl _) v0).setCell (p := ⟨w.heap.size, 1, none⟩) (Nat.le_refl _) v1).setCell (p := ⟨w.heap.size, 2, none⟩) (Nat.le_refl _) v2).setCell (p := ⟨w.heap.size, 3, none⟩) (Nat.le_refl _) v3).setCell (p := ⟨w.heap.size, 4, none⟩) (Nat.le_refl _) v4).setCell (p := ⟨w.heap.size, 5, none⟩) (Nat.le_refl _) v5).setCell (p := ⟨w.heap.size, 6, none⟩) (Nat.le_refl _) v6).setCell (p := ⟨w.heap.size, 7, none⟩) (Nat.le_refl _) v7)
                cases ok with
                | true =>
                  go_wp2_with fail
                  refine bodyPost_ret (ref_result2 rfl (ref_all Q3.out ⟨SB, A, Pa, QB, FB, aa, hq, hf⟩) _ rfl) rfl ?_
                  exact ⟨by rw [HV.out]; rfl, BB.out _ _ _ _ _ _ _ _⟩
                | false =>
                  go_wp2_with fail
                  refine bodyPost_ret (ref_result2 rfl (ref_all Q3.out RefB.zero) _ rfl) rfl ?_
                  exact ⟨by rw [HV.out]; rfl, BB.out _ _ _ _ _ _ _ _⟩

end Go.Proofs.Ythhpijmkhhdhhaa
