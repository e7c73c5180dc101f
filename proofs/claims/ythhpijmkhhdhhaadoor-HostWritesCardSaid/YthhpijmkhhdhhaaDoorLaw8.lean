/- The laws of layer 8: awake, few, and the walks of HostKinds, HostUnder, HostReads, HostWrites. -/
import Derived.Test.YthhpijmkhhdhhaaDoorH8Pure
import Derived.Test.YthhpijmkhhdhhaaDoorHUnderR
namespace Go.Proofs.YthhpijmkhhdhhaaDoor
open Go.RowKit
set_option linter.unusedVariables false
set_option linter.unusedSimpArgs false

theorem maxAt_of8 {W : World} (h : W.ShapedOpen Tryd.prog) : MaxAt W := by
  obtain ⟨m, hm⟩ := Tryd.laysM145.s1_3 W h
  exact ⟨m, hm, World.block_lt_of_cell? W _ hm⟩

theorem few8_at (s : ByteArray) (t : ByteArray) (w : World) (hs : s.size ≤ maxLen) (h : cutX 80 s = t) :
    Calls Tryd.prog 46 #[.string s] w fun e w' => e = .returned (.string t) ∧ w = w' := by
  subst h
  unfold maxLen at hs
  go_enter Tryd.func46, Tryd.ntmps46
  go_wp2_with fail
  go_ret
  exact ⟨ret_strX (extract_cutX 80 s _ (by omega)), rfl⟩

def ex8a : HostB := ⟨3, ⟨#[58, 58, 49]⟩, 80⟩
def ex8b : HostB := ⟨1, ⟨#[49, 46, 50, 46, 51, 46, 52, 48, 48]⟩, -1⟩
theorem ex8a_parse : hostV (parseB ⟨#[91, 58, 58, 49, 93, 58, 56, 48]⟩) = .tuple #[ex8a.val, .int .i64 0] := by kernel_rfl
theorem ex8b_parse : hostV (parseB ⟨#[49, 46, 50, 46, 51, 46, 52, 48, 48]⟩) = .tuple #[ex8b.val, .int .i64 0] := by kernel_rfl
theorem ex8_under : underL (⟨#[119, 119, 119, 46, 97, 46, 100, 101]⟩ : ByteArray).data.toList (⟨#[65, 46, 100, 101]⟩ : ByteArray).data.toList = true := by decide +kernel

set_option maxRecDepth 100000 in
set_option maxHeartbeats 1000000 in
theorem awake8_any (w : World) (hM : MaxAt w) (hP : PowAt w) : Calls Tryd.prog 45 #[] w fun e w' => e = .returned (.bool true) ∧ Below w.heap.size w w' := by
  have HM := Lib.hid hM; have HP := Lib.hid hP; clear hM hP
  have P1 := Lib.hid (fun W a b => pParseH_any ⟨#[91, 58, 58, 49, 93, 58, 56, 48]⟩ W (by decide) a b)
  have P2 := Lib.hid (fun W a b => pParseH_any ⟨#[49, 46, 50, 46, 51, 46, 52, 48, 48]⟩ W (by decide) a b)
  have UN := Lib.hid (fun W b => pUnder_any ⟨#[119, 119, 119, 46, 97, 46, 100, 101]⟩ ⟨#[65, 46, 100, 101]⟩ W (by decide) (by decide) b)
  rw [ex8a_parse] at P1
  rw [ex8b_parse] at P2
  rw [ex8_under] at UN
  have E1 := fun W => host_eql ex8a ex8a W
  have E2 := fun W => host_eql ex8b ex8b W
  rw [(hostEq_iff ex8a ex8a).2 rfl] at E1
  rw [(hostEq_iff ex8b ex8b).2 rfl] at E2
  unfold HostB.val HostB.cells ex8a at P1 E1
  unfold HostB.val HostB.cells ex8b at P2 E2
  simp only at P1 E1 P2 E2
  go_enter Tryd.func45, Tryd.ntmps45
  go_wp2_with fail
  refine (P1.out _ HM.out HP.out).mono ?_
  rintro e w1 ⟨rfl, hw1⟩
  have HB1 := Lib.hid hw1
  have r1 := hostAt_new w1 ex8a
  have hb1 := hw1.alloc hw1.size (.cells ex8a.cells 69)
  obtain ⟨W1, hW1⟩ : ∃ W1, w1.alloc (.cells ex8a.cells 69) = W1 := ⟨_, rfl⟩
  rw [hW1] at r1 hb1
  unfold HostB.cells ex8a at hW1
  simp only at hW1
  clear hw1
  go_upto_region 2 with fail
  try rw [hW1]
  clear hW1
  have R1 := Lib.hid r1; have HC1 := Lib.hid hb1
  clear r1 hb1
  go_wp2_with fail
  refine (P2.out _ (maxAt_below HM.out HC1.out) (powAt_below HP.out HC1.out)).mono ?_
  rintro e w2 ⟨rfl, hw2⟩
  have r2 := hostAt_alloc (hostAt_call R1.out hw2) (.cells ex8b.cells 69)
  have n2 := hostAt_new w2 ex8b
  have hb2 := bseq HC1.out hw2
  have HC2 := Lib.hid (hb2.alloc hb2.size (.cells ex8b.cells 69))
  obtain ⟨c0, c1, c2⟩ := host_cells r2
  obtain ⟨d0, d1, d2⟩ := host_cells n2
  clear hw2 hb2 r2 n2
  dsimp only [HostB.cells, ex8a, ex8b] at c0 c1 c2 d0 d1 d2
  go_wp2_with fail
  refine (UN.out _ (powAt_below HP.out HC2.out)).mono ?_
  rintro e w3 ⟨rfl, hw3⟩
  have HB3 := Lib.hid (bseq HC2.out hw3); clear hw3
  go_wp2_with fail
  go_ret
  exact ⟨rfl, HB3.out⟩

set_option maxRecDepth 100000 in
set_option maxHeartbeats 1000000 in
theorem hostKinds_walk (s : ByteArray) (w : World) (hs : s.size ≤ maxLen) (hM : MaxAt w) (hP : PowAt w) :
    Calls Tryd.prog 12 #[.string s] w fun e w' => e = .returned (.bool true) ∧ Below w.heap.size w w' := by
  have HM := Lib.hid hM; have HP := Lib.hid hP
  have AW := Lib.hid (awake8_any w hM hP); clear hM hP
  have FST := Lib.hid (fun W => few8_at s _ W hs rfl)
  obtain ⟨t, ht⟩ : ∃ t, cutX 80 s = t := ⟨_, rfl⟩
  have hts : t.size ≤ 80 := by rw [← ht, cutX_size]; omega
  rw [ht] at FST
  clear ht
  have N1 := Lib.hid (fun W => pName_any t W (by omega))
  have N2 := Lib.hid (fun W => rName_any t W (by omega))
  have F1 := Lib.hid (fun W h => four_any t W (by omega) h)
  have F2 := Lib.hid (fun W => rFour_any t W (by omega))
  have S1 := Lib.hid (fun W a b => pSix_any t W (by omega) a b)
  have S2 := Lib.hid (fun W => rSix_any t W (by omega))
  have hfn := four_name t.data.toList
  obtain ⟨nm, hnm⟩ : ∃ nm, nameL t.data.toList = nm := ⟨_, rfl⟩
  obtain ⟨f, hf⟩ : ∃ f, fourL t.data.toList = f := ⟨_, rfl⟩
  obtain ⟨x, hx⟩ : ∃ x, sixL t.data.toList = x := ⟨_, rfl⟩
  rw [hnm] at N1 N2 hfn
  rw [hf] at F1 F2 hfn
  rw [hx] at S1 S2
  have HFN := Lib.hid hfn
  clear hfn hnm hf hx
  have xx : (x == x) = true := by simp
  have ff : (f == f) = true := by simp
  have nn : (nm == nm) = true := by simp
  go_enter Tryd.func12, Tryd.ntmps12
  go_wp2_with fail
  refine AW.out.mono ?_
  rintro e w0 ⟨rfl, hw0⟩
  have HB0 := Lib.hid hw0; clear hw0
  go_wp2_with fail
  (refine (FST.out _).mono ?_; rintro e w' ⟨rfl, rfl⟩; go_wp2_with fail)
  refine (N1.out _).mono ?_
  rintro e w1 ⟨rfl, hw1⟩
  have HB1 := Lib.hid (bseq HB0.out hw1); clear hw1
  go_wp2_with fail
  (refine (N2.out _).mono ?_; rintro e w' ⟨rfl, rfl⟩; go_wp2_with fail)
  refine (F1.out _ (powAt_below HP.out HB1.out)).mono ?_
  rintro e w2 ⟨rfl, hw2⟩
  have HB2 := Lib.hid (bseq HB1.out hw2); clear hw2
  go_wp2_with fail
  refine (F2.out _).mono ?_
  rintro e w3 ⟨rfl, hw3⟩
  have HB3 := Lib.hid (bseq HB2.out hw3); clear hw3
  go_wp2_with fail
  refine (S1.out _ (maxAt_below HM.out HB3.out) (powAt_below HP.out HB3.out)).mono ?_
  rintro e w4 ⟨rfl, hw4⟩
  have HB4 := Lib.hid (bseq HB3.out hw4); clear hw4
  go_wp2_with fail
  refine (S2.out _).mono ?_
  rintro e w5 ⟨rfl, hw5⟩
  have HB5 := Lib.hid (bseq HB4.out hw5); clear hw5
  go_wp2_with fail
  refine (F1.out _ (powAt_below HP.out HB5.out)).mono ?_
  rintro e w6 ⟨rfl, hw6⟩
  have HB6 := Lib.hid (bseq HB5.out hw6); clear hw6
  cases f with
  | false =>
    go_wp2_with fail
    go_ret
    exact ⟨rfl, HB6.out⟩
  | true =>
    obtain rfl : nm = true := HFN.out (by first | rfl | trivial)
    go_wp2_with fail
    refine (N1.out _).mono ?_
    rintro e w7 ⟨rfl, hw7⟩
    have HB7 := Lib.hid (bseq HB6.out hw7); clear hw7
    go_wp2_with fail
    go_ret
    exact ⟨rfl, HB7.out⟩

set_option maxRecDepth 100000 in
set_option maxHeartbeats 1000000 in
theorem hostUnder_walk (a b c : ByteArray) (w : World) (ha : a.size ≤ maxLen) (hb : b.size ≤ maxLen) (hc : c.size ≤ maxLen) (hM : MaxAt w) (hP : PowAt w) :
    Calls Tryd.prog 13 #[.string a, .string b, .string c] w fun e w' => e = .returned (.bool true) ∧ Below w.heap.size w w' := by
  have HP := Lib.hid hP
  have AW := Lib.hid (awake8_any w hM hP); clear hM hP
  have FA := Lib.hid (fun W => few8_at a _ W ha rfl)
  have FB := Lib.hid (fun W => few8_at b _ W hb rfl)
  have FC := Lib.hid (fun W => few8_at c _ W hc rfl)
  obtain ⟨x, hx⟩ : ∃ x, cutX 80 a = x := ⟨_, rfl⟩
  obtain ⟨y, hy⟩ : ∃ y, cutX 80 b = y := ⟨_, rfl⟩
  obtain ⟨z, hz⟩ : ∃ z, cutX 80 c = z := ⟨_, rfl⟩
  have hxs : x.size ≤ 80 := by rw [← hx, cutX_size]; omega
  have hys : y.size ≤ 80 := by rw [← hy, cutX_size]; omega
  have hzs : z.size ≤ 80 := by rw [← hz, cutX_size]; omega
  rw [hx] at FA
  rw [hy] at FB
  rw [hz] at FC
  clear hx hy hz
  have U1 := Lib.hid (fun W h => pUnder_any x y W (by omega) (by omega) h)
  have U2 := Lib.hid (fun W h => pUnder_any y z W (by omega) (by omega) h)
  have U3 := Lib.hid (fun W h => pUnder_any x z W (by omega) (by omega) h)
  have U4 := Lib.hid (fun W h => pUnder_any x x W (by omega) (by omega) h)
  have V1 := Lib.hid (fun W => rUnder_any x y W (by omega) (by omega))
  have N2 := Lib.hid (fun W => rName_any x W (by omega))
  have F2 := Lib.hid (fun W => rFour_any x W (by omega))
  have htr := @under_trans x.data.toList y.data.toList z.data.toList
  have hse := under_self x.data.toList
  obtain ⟨u1, hu1⟩ : ∃ u1, underL x.data.toList y.data.toList = u1 := ⟨_, rfl⟩
  obtain ⟨u2, hu2⟩ : ∃ u2, underL y.data.toList z.data.toList = u2 := ⟨_, rfl⟩
  obtain ⟨u3, hu3⟩ : ∃ u3, underL x.data.toList z.data.toList = u3 := ⟨_, rfl⟩
  obtain ⟨nm, hnm⟩ : ∃ nm, nameL x.data.toList = nm := ⟨_, rfl⟩
  obtain ⟨f, hf⟩ : ∃ f, fourL x.data.toList = f := ⟨_, rfl⟩
  rw [hu1] at U1 V1 htr
  rw [hu2] at U2 htr
  rw [hu3] at U3 htr
  rw [hse] at U4
  rw [hnm] at U4 N2
  rw [hf] at U4 F2
  have HTR := Lib.hid (show u1 = true → u2 = true → u3 = true from htr)
  clear htr hse hu1 hu2 hu3 hnm hf
  go_enter Tryd.func13, Tryd.ntmps13
  go_wp2_with fail
  refine AW.out.mono ?_
  rintro e w0 ⟨rfl, hw0⟩
  have HB0 := Lib.hid hw0; clear hw0
  go_wp2_with fail
  (refine (FA.out _).mono ?_; rintro e w' ⟨rfl, rfl⟩; go_wp2_with fail)
  (refine (FB.out _).mono ?_; rintro e w' ⟨rfl, rfl⟩; go_wp2_with fail)
  (refine (FC.out _).mono ?_; rintro e w' ⟨rfl, rfl⟩; go_wp2_with fail)
  refine (U1.out _ (powAt_below HP.out HB0.out)).mono ?_
  rintro e w1 ⟨rfl, hw1⟩
  have HB1 := Lib.hid (bseq HB0.out hw1); clear hw1
  go_wp2_with fail
  refine (U2.out _ (powAt_below HP.out HB1.out)).mono ?_
  rintro e w2 ⟨rfl, hw2⟩
  have HB2 := Lib.hid (bseq HB1.out hw2); clear hw2
  go_wp2_with fail
  refine (U3.out _ (powAt_below HP.out HB2.out)).mono ?_
  rintro e w3 ⟨rfl, hw3⟩
  have HB3 := Lib.hid (bseq HB2.out hw3); clear hw3
  go_wp2_with fail
  refine (V1.out _).mono ?_
  rintro e w4 ⟨rfl, hw4⟩
  have HB4 := Lib.hid (bseq HB3.out hw4); clear hw4
  have goal : ∀ (hcase : u1 = false ∨ (u1 = true ∧ u2 = false) ∨ (u1 = true ∧ u2 = true ∧ u3 = true)), True := fun _ => trivial
  have hcase : u1 = false ∨ (u1 = true ∧ u2 = false) ∨ (u1 = true ∧ u2 = true ∧ u3 = true) := by
    cases u1 with
    | false => exact .inl rfl
    | true =>
      cases u2 with
      | false => exact .inr (.inl ⟨rfl, rfl⟩)
      | true => exact .inr (.inr ⟨rfl, rfl, HTR.out rfl rfl⟩)
  clear goal HTR
  rcases hcase with rfl | ⟨rfl, rfl⟩ | ⟨rfl, rfl, rfl⟩
  all_goals
    cases nm with
    | false =>
      go_wp2_with fail
      refine (U4.out _ (powAt_below HP.out HB4.out)).mono ?_
      rintro e w5 ⟨rfl, hw5⟩
      have HB5 := Lib.hid (bseq HB4.out hw5); clear hw5
      go_wp2_with fail
      (refine (N2.out _).mono ?_; rintro e w' ⟨rfl, rfl⟩; go_wp2_with fail)
      go_ret
      exact ⟨rfl, HB5.out⟩
    | true =>
      cases f <;>
      · go_wp2_with fail
        refine (U4.out _ (powAt_below HP.out HB4.out)).mono ?_
        rintro e w5 ⟨rfl, hw5⟩
        have HB5 := Lib.hid (bseq HB4.out hw5); clear hw5
        go_wp2_with fail
        (refine (N2.out _).mono ?_; rintro e w' ⟨rfl, rfl⟩; go_wp2_with fail)
        refine (F2.out _).mono ?_
        rintro e w6 ⟨rfl, hw6⟩
        have HB6 := Lib.hid (bseq HB5.out hw6); clear hw6
        go_wp2_with fail
        go_ret
        exact ⟨rfl, HB6.out⟩

set_option maxRecDepth 1000000 in
set_option maxHeartbeats 2000000 in
theorem hostReads_walk (s : ByteArray) (w0 : World) (hs : s.size ≤ maxLen) (hM : MaxAt w0) (hP : PowAt w0) :
    Calls Tryd.prog 14 #[.string s] w0 fun e w' => e = .returned (.bool true) ∧ Below w0.heap.size w0 w' := by
  have HM := Lib.hid hM; have HP := Lib.hid hP
  have AW := Lib.hid (awake8_any w0 hM hP); clear hM hP
  have FST := Lib.hid (fun W => few8_at s _ W hs rfl)
  obtain ⟨t, ht⟩ : ∃ t, cutX 80 s = t := ⟨_, rfl⟩
  have hts : t.size ≤ 80 := by rw [← ht, cutX_size]; omega
  rw [ht] at FST
  clear ht
  have PA := Lib.hid (fun W a b => pParseH_any t W (by omega) a b)
  have RP := Lib.hid (fun W => rParseH_any t W (by omega))
  obtain ⟨X, ee, T, ff, hpv, htv, hcase, y1, y2, y3⟩ : ∃ X ee T ff, hostV (parseB t) = .tuple #[HostB.val X, .int .i64 ee] ∧ txtV X = .tuple #[.string T, .int .i64 ff] ∧ (ee = 27 ∨ (ee = 0 ∧ ff = 0 ∧ T = t)) ∧ X.Nm.size ≤ 1000 ∧ -9223372036854775808 ≤ X.Po ∧ X.Po ≤ 9223372036854775807 := by
    cases hp : parseB t with
    | some h =>
      obtain ⟨hb, he⟩ := back_parse t h hp
      obtain ⟨_, z1, z2, z3⟩ := parse_txt t h hp
      refine ⟨h, 0, t, 0, rfl, ?_, .inr ⟨rfl, rfl, rfl⟩, by omega, by omega, by omega⟩
      unfold txtV
      rw [hb, he]; rfl
    | none =>
      obtain ⟨T, ff, h⟩ : ∃ T ff, txtV HostB.zero = .tuple #[.string T, .int .i64 ff] := by
        unfold txtV
        split
        · exact ⟨_, _, rfl⟩
        · exact ⟨_, _, rfl⟩
      exact ⟨HostB.zero, 27, T, ff, rfl, h, .inl rfl, by decide, by decide, by decide⟩
  rw [hpv] at PA RP
  have TX := Lib.hid (fun W a b => pTextH_any X W y1 y2 y3 a b)
  rw [htv] at TX
  have NQ := fun W => host_neq X X W
  simp only [(hostEq_iff X X).2 rfl] at NQ
  obtain ⟨K, Nm, Po⟩ := X
  have HC := Lib.hid hcase
  clear hcase htv hpv y1 y2 y3
  unfold HostB.val HostB.cells at PA RP TX NQ
  simp only at PA RP TX NQ
  go_enter Tryd.func14, Tryd.ntmps14
  go_wp2_with fail
  refine AW.out.mono ?_
  rintro e w ⟨rfl, hb0⟩
  have HB0 := Lib.hid hb0; clear AW hb0
  go_wp2_with fail
  (refine (FST.out _).mono ?_; rintro e w' ⟨rfl, rfl⟩; go_wp2_with fail)
  refine (PA.out _ (maxAt_below HM.out HB0.out) (powAt_below HP.out HB0.out)).mono ?_
  rintro e w1 ⟨rfl, hb1⟩
  have hbb1 := bseq HB0.out hb1
  have r1 := hostAt_new w1 ⟨K, Nm, Po⟩
  have b1 := hbb1.alloc hbb1.size (.cells (⟨K, Nm, Po⟩ : HostB).cells 69)
  clear hb1 hbb1 PA HB0
  obtain ⟨w1a, hw1a⟩ : ∃ w1a, w1.alloc (.cells (⟨K, Nm, Po⟩ : HostB).cells 69) = w1a := ⟨_, rfl⟩
  rw [hw1a] at r1 b1
  unfold HostB.cells at hw1a
  simp only at hw1a
  go_wp2_with fail
  try rw [hw1a]
  clear hw1a
  refine (RP.out _).mono ?_
  rintro e w2 ⟨rfl, hb2⟩
  have r2 := hostAt_call r1 hb2
  have hbb := bseq b1 hb2
  have N2 := Lib.hid (hostAt_new w2 ⟨K, Nm, Po⟩)
  have R2 := Lib.hid (hostAt_alloc r2 (.cells (⟨K, Nm, Po⟩ : HostB).cells 69))
  have HB2 := Lib.hid (hbb.alloc hbb.size (.cells (⟨K, Nm, Po⟩ : HostB).cells 69))
  clear hbb hb2 r1 b1 RP r2
  obtain ⟨c0, c1, c2⟩ := host_cells R2.out
  obtain ⟨d0, d1, d2⟩ := host_cells N2.out
  dsimp only [HostB.cells] at c0 c1 c2 d0 d1 d2
  go_wp2_with fail
  refine (TX.out _ (maxAt_below HM.out HB2.out) (powAt_below HP.out HB2.out)).mono ?_
  rintro e w3 ⟨rfl, hb3⟩
  have HB3 := Lib.hid (bseq HB2.out hb3)
  clear c0 c1 c2 d0 d1 d2 hb3 R2 N2 HB2 TX
  rcases HC.out with rfl | ⟨rfl, rfl, rfl⟩
  · go_wp2_with fail
    go_ret
    exact ⟨rfl, HB3.out⟩
  · have ss := eq_selfX T
    go_wp2_with fail
    go_ret
    exact ⟨rfl, HB3.out⟩

set_option maxRecDepth 1000000 in
set_option maxHeartbeats 2000000 in
theorem hostWrites_walk (h : HostB) (w0 : World) (hs : h.Nm.size ≤ maxLen) (h0 : -9223372036854775808 ≤ h.Po) (h1 : h.Po ≤ 9223372036854775807) (hM : MaxAt w0) (hP : PowAt w0) :
    Calls Tryd.prog 15 #[h.val] w0 fun e w' => e = .returned (.bool true) ∧ Below w0.heap.size w0 w' := by
  have HM := Lib.hid hM; have HP := Lib.hid hP; clear hM hP
  obtain ⟨K, N0, Po⟩ := h
  simp only at hs h0 h1
  have FST := Lib.hid (fun W => few8_at N0 _ W hs rfl)
  obtain ⟨Nm, ht⟩ : ∃ t, cutX 80 N0 = t := ⟨_, rfl⟩
  have hts : Nm.size ≤ 80 := by rw [← ht, cutX_size]; omega
  rw [ht] at FST
  clear ht
  have htl := txtL_len ⟨K, Nm, Po⟩ h0 h1
  simp only at htl
  obtain ⟨T, ee, Y, ff, htv, hpv, hTs, hcase⟩ : ∃ T ee Y ff, txtV ⟨K, Nm, Po⟩ = .tuple #[.string T, .int .i64 ee] ∧ hostV (parseB T) = .tuple #[HostB.val Y, .int .i64 ff] ∧ T.size ≤ 1000 ∧ (ee = 27 ∨ (ee = 0 ∧ ff = 0 ∧ Y = ⟨K, Nm, Po⟩)) := by
    unfold txtV
    cases hb : backH ⟨K, Nm, Po⟩ with
    | true =>
      refine ⟨mkH (txtL ⟨K, Nm, Po⟩), 0, ⟨K, Nm, Po⟩, 0, by rw [if_pos rfl], ?_, by rw [mkH_size]; omega, .inr ⟨rfl, rfl, rfl⟩⟩
      unfold backH at hb
      cases hp : parseB (mkH (txtL ⟨K, Nm, Po⟩)) with
      | none => rw [hp] at hb; cases hb
      | some x =>
        rw [hp] at hb
        rw [(hostEq_iff x _).1 hb]; rfl
    | false =>
      obtain ⟨Y, ff, hy⟩ : ∃ Y ff, hostV (parseB ⟨#[]⟩) = .tuple #[HostB.val Y, .int .i64 ff] := by
        cases parseB ⟨#[]⟩ with
        | some x => exact ⟨_, _, rfl⟩
        | none => exact ⟨_, _, rfl⟩
      exact ⟨⟨#[]⟩, 27, Y, ff, by rw [if_neg (by simp)], hy, by decide, .inl rfl⟩
  have TX := Lib.hid (fun W a b => pTextH_any ⟨K, Nm, Po⟩ W (by show Nm.size ≤ _; omega) h0 h1 a b)
  have RT := Lib.hid (fun W => rTextH_any ⟨K, Nm, Po⟩ W (by show Nm.size ≤ _; omega) h0 h1)
  have PA := Lib.hid (fun W a b => pParseH_any T W (by omega) a b)
  have EQ := fun W => host_eql ⟨K, Nm, Po⟩ ⟨K, Nm, Po⟩ W
  simp only [(hostEq_iff (⟨K, Nm, Po⟩ : HostB) ⟨K, Nm, Po⟩).2 rfl] at EQ
  rw [htv] at TX RT
  rw [hpv] at PA
  have HC := Lib.hid hcase
  clear hcase htv hpv hTs htl
  unfold HostB.val HostB.cells at TX RT PA EQ
  simp only at TX RT PA EQ
  have r1 : HostAt (w0.alloc (.cells (⟨K, N0, Po⟩ : HostB).cells 69)) w0.heap.size ⟨K, N0, Po⟩ := hostAt_new w0 _
  have hb1 : Below w0.heap.size w0 (w0.alloc (.cells (⟨K, N0, Po⟩ : HostB).cells 69)) := (Below.refl _ _).alloc (Nat.le_refl _) _
  have AW := Lib.hid (awake8_any (w0.alloc (.cells (⟨K, N0, Po⟩ : HostB).cells 69)) (maxAt_below HM.out hb1) (powAt_below HP.out hb1))
  unfold HostB.cells at r1 hb1 AW
  simp only at r1 hb1 AW
  show Calls Tryd.prog 15 #[.agg #[.int .i64 K, .string N0, .int .i64 Po]] w0 _
  go_enter Tryd.func15, Tryd.ntmps15
  go_wp2_with fail
  refine AW.out.mono ?_
  rintro e w ⟨rfl, hb0⟩
  have R1 := Lib.hid (hostAt_call r1 hb0)
  have HB1 := Lib.hid (bseq hb1 hb0)
  clear r1 hb1 AW hb0
  obtain ⟨c0, c1, c2⟩ := host_cells R1.out
  have f1 := host_frozen R1.out 1
  go_wp2_with fail
  (refine (FST.out _).mono ?_; rintro e w' ⟨rfl, rfl⟩; go_wp2_with fail)
  have r5 := host_set1 R1.out Nm
  have hb5 := HB1.out.setCell (p := ⟨w0.heap.size, 1, none⟩) (Nat.le_refl _) (.string Nm)
  refine (TX.out _ (maxAt_below HM.out hb5) (powAt_below HP.out hb5)).mono ?_
  rintro e w6 ⟨rfl, hb6⟩
  have R6 := Lib.hid (hostAt_call r5 hb6)
  have HB6 := Lib.hid (bseq hb5 hb6)
  clear r5 hb5 hb6 R1 HB1 c0 c1 c2 f1 TX FST
  obtain ⟨c0, c1, c2⟩ := host_cells R6.out
  dsimp only at c0 c1 c2
  go_wp2_with fail
  refine (RT.out _).mono ?_
  rintro e w7 ⟨rfl, hb7⟩
  have R7 := Lib.hid (hostAt_call R6.out hb7)
  have HB7 := Lib.hid (bseq HB6.out hb7)
  clear hb7 R6 HB6 RT c0 c1 c2
  have ss := eq_selfX T
  go_wp2_with fail
  refine (PA.out _ (maxAt_below HM.out HB7.out) (powAt_below HP.out HB7.out)).mono ?_
  rintro e w8 ⟨rfl, hb8⟩
  obtain ⟨X0, X1, X2⟩ := Y
  have r8 := hostAt_call R7.out hb8
  have hbb := bseq HB7.out hb8
  have N8 := Lib.hid (hostAt_new w8 ⟨X0, X1, X2⟩)
  have R8 := Lib.hid (hostAt_alloc r8 (.cells (⟨X0, X1, X2⟩ : HostB).cells 69))
  have HB8 := Lib.hid (hbb.alloc hbb.size (.cells (⟨X0, X1, X2⟩ : HostB).cells 69))
  clear r8 hbb hb8 R7 HB7 PA
  obtain ⟨c0, c1, c2⟩ := host_cells R8.out
  obtain ⟨d0, d1, d2⟩ := host_cells N8.out
  dsimp only [HostB.cells] at c0 c1 c2 d0 d1 d2
  rcases HC.out with rfl | ⟨rfl, rfl, he⟩
  · go_wp2_with fail
    go_ret
    exact ⟨rfl, HB8.out⟩
  · obtain ⟨rfl, rfl, rfl⟩ : X0 = K ∧ X1 = Nm ∧ X2 = Po := by
      injection he with q0 q1 q2
      exact ⟨q0, q1, q2⟩
    clear he
    go_wp2_with fail
    go_ret
    exact ⟨rfl, HB8.out⟩

end Go.Proofs.YthhpijmkhhdhhaaDoor
