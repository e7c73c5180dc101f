/- The laws of layer 9: awake, few, and the walks of PathKinds, PathCuts, PathDots. -/
import Derived.Test.YthhpijmkhhdhhaaDoorDotsW
import Derived.Test.YthhpijmkhhdhhaaDoorTool
namespace Go.Proofs.YthhpijmkhhdhhaaDoor
open Go.RowKit
set_option linter.unusedVariables false
set_option linter.unusedSimpArgs false

theorem maxAt_of {W : World} (h : W.ShapedOpen Tryd.prog) : MaxAt W := by
  obtain ⟨m, hm⟩ := Tryd.laysM145.s1_3 W h
  exact ⟨m, hm, World.block_lt_of_cell? W _ hm⟩

theorem few9_at (s : ByteArray) (t : ByteArray) (w : World) (hs : s.size ≤ maxLen) (h : cutX 200 s = t) :
    Calls Tryd.prog 25 #[.string s] w fun e w' => e = .returned (.string t) ∧ w = w' := by
  subst h
  unfold maxLen at hs
  go_enter Tryd.func25, Tryd.ntmps25
  go_wp2_with fail
  go_ret
  exact ⟨ret_strX (extract_cutX 200 s _ (by omega)), rfl⟩

theorem pCut_at (s : ByteArray) (w : World) (hs : s.size ≤ 1000000) (hM : MaxAt w) (p q : ByteArray) (has : Bool) (n : Int)
    (h1 : (if cutOk s.data.toList then cutP s.data.toList else []) = p.data.toList) (h2 : (if cutOk s.data.toList then cutQ s.data.toList else []) = q.data.toList) (h3 : (cutOk s.data.toList && cutHas s.data.toList) = has) (h4 : (if cutOk s.data.toList then (0 : Int) else 2) = n) :
    Calls Tryd.prog 33 #[.string s] w fun e w' => e = .returned (.tuple #[.string p, .string q, .bool has, .int .i64 n]) ∧ Below w.heap.size w w' := by
  refine (pCut_any s w hs hM).mono ?_
  rintro e w' ⟨rfl, hb⟩
  rw [h1, h2, h3, h4, Lib.mk_data, Lib.mk_data]
  exact ⟨rfl, hb⟩
theorem pDots_at (s : ByteArray) (w : World) (hs : s.size ≤ 100000) (hM : MaxAt w) (d : ByteArray) (n : Int) (h1 : dotsV s.data.toList = d.data.toList) (h2 : dotsE s.data.toList = n) :
    Calls Tryd.prog 30 #[.string s] w fun e w' => e = .returned (.tuple #[.string d, .int .i64 n]) ∧ Below w.heap.size w w' := by
  refine (pDots_any s w hs hM).mono ?_
  rintro e w' ⟨rfl, hb⟩
  rw [h1, h2, Lib.mk_data]
  exact ⟨rfl, hb⟩

theorem awake9_any (w : World) (hM : MaxAt w) : Calls Tryd.prog 24 #[] w fun e w' => e = .returned (.bool true) ∧ Below w.heap.size w w' := by
  have HM := Lib.hid hM; clear hM
  have C := Lib.hid (pCut_at ⟨#[47, 97, 47, 46, 47, 98, 47, 46, 46, 47, 99, 63, 120]⟩ w (by decide) HM.out ⟨#[47, 97, 47, 46, 47, 98, 47, 46, 46, 47, 99]⟩ ⟨#[120]⟩ true 0 (by decide +kernel) (by decide +kernel) (by decide +kernel) (by decide +kernel))
  have D := Lib.hid (fun w h => pDots_at ⟨#[47, 97, 47, 46, 47, 98, 47, 46, 46, 47, 99]⟩ w (by decide) h ⟨#[47, 97, 47, 99]⟩ 0 (by decide +kernel) (by decide +kernel))
  go_enter Tryd.func24, Tryd.ntmps24
  go_wp2_with fail
  (refine (C.out).mono ?_; rintro e w1 ⟨rfl, h1⟩; have H1 := Lib.hid h1; clear h1; go_wp2_with fail)
  (refine (D.out _ (maxAt_below HM.out H1.out)).mono ?_; rintro e w2 ⟨rfl, h2⟩; have H2 := Lib.hid h2; clear h2; go_wp2_with fail)
  go_ret
  exact ⟨rfl, (bseq H1.out H2.out)⟩

set_option maxRecDepth 100000 in
theorem pathKinds_walk (s : ByteArray) (w : World) (hs : s.size ≤ maxLen) (hM : MaxAt w) :
    Calls Tryd.prog 6 #[.string s] w fun e w' => e = .returned (.bool true) ∧ Below w.heap.size w w' := by
  have HM := Lib.hid hM; clear hM
  obtain ⟨t, hT⟩ : ∃ t, cutX 200 s = t := ⟨_, rfl⟩
  have ht : t.size ≤ 200 := by rw [← hT, cutX_size]; omega
  have Q0 := Lib.hid (fun w => few9_at s t w hs hT)
  have Q1 := Lib.hid (fun w => pPath_any t w (by omega))
  have Q2 := Lib.hid (fun w => rPath9_any t w (by omega))
  have Q3 := Lib.hid (fun w => pQuery_any t w (by omega))
  have Q4 := Lib.hid (fun w => rQuery9_any t w (by omega))
  obtain ⟨a, ha⟩ : ∃ a, pathL t.data.toList = a := ⟨_, rfl⟩
  obtain ⟨b, hb⟩ : ∃ b, queryL t.data.toList = b := ⟨_, rfl⟩
  rw [ha] at Q1 Q2
  rw [hb] at Q3 Q4
  clear ha hb hT ht hs
  go_enter Tryd.func6, Tryd.ntmps6
  go_wp2_with fail
  (refine (awake9_any _ HM.out).mono ?_; rintro e w1 ⟨rfl, h1⟩; have H1 := Lib.hid h1; clear h1; go_wp2_with fail)
  (refine (Q0.out _).mono ?_; rintro e w' ⟨rfl, rfl⟩; go_wp2_with fail)
  (refine (Q1.out _).mono ?_; rintro e w2 ⟨rfl, h2⟩; have H2 := Lib.hid h2; clear h2; go_wp2_with fail)
  (refine (Q2.out _).mono ?_; rintro e w' ⟨rfl, rfl⟩; go_wp2_with fail)
  (refine (Q3.out _).mono ?_; rintro e w3 ⟨rfl, h3⟩; have H3 := Lib.hid h3; clear h3; go_wp2_with fail)
  (refine (Q4.out _).mono ?_; rintro e w' ⟨rfl, rfl⟩; go_wp2_with fail)
  go_ret
  exact ⟨ret_bool (by simp), (bseq (bseq H1.out H2.out) H3.out)⟩


theorem queryL_nil : queryL [] = true := rfl

set_option maxRecDepth 100000 in
set_option maxHeartbeats 2000000 in
theorem pathCuts_walk (s : ByteArray) (w : World) (hs : s.size ≤ maxLen) (hM : MaxAt w) :
    Calls Tryd.prog 8 #[.string s] w fun e w' => e = .returned (.bool true) ∧ Below w.heap.size w w' := by
  have HM := Lib.hid hM; clear hM
  obtain ⟨t, hT⟩ : ∃ t, cutX 200 s = t := ⟨_, rfl⟩
  have ht : t.size ≤ 200 := by rw [← hT, cutX_size]; omega
  have Q0 := Lib.hid (fun w => few9_at s t w hs hT)
  clear hT hs
  obtain ⟨i, hi⟩ : ∃ i, markN 63 t.data.toList = i := ⟨_, rfl⟩
  have hile : i ≤ t.size := by rw [← hi, Lib.size_eq]; exact markN_le _ _
  have MK := Lib.hid (fun w => rMark_any t w (by omega))
  rw [hi] at MK
  have eP : cutP t.data.toList = (t.extract 0 i).data.toList := by unfold cutP; rw [hi, Lib.extract_data, List.drop_zero, Nat.sub_zero]
  have eQ : cutQ t.data.toList = t.data.toList.drop (i + 1) := by unfold cutQ; rw [hi]
  have eH : cutHas t.data.toList = decide (i < t.size) := by unfold cutHas; rw [hi, ← Lib.size_eq]
  obtain ⟨p, hp⟩ : ∃ p, t.extract 0 i = p := ⟨_, rfl⟩
  rw [hp] at eP
  have hps : p.size ≤ 200 := by rw [Lib.size_eq, ← eP]; unfold cutP; rw [List.length_take, ← Lib.size_eq]; omega
  have R1 := Lib.hid (fun w => rPath9_any p w (by omega))
  rw [← eP] at R1
  have hok : cutOk t.data.toList = (pathL (cutP t.data.toList) && queryL (cutQ t.data.toList)) := rfl
  obtain ⟨a, ha⟩ : ∃ a, pathL (cutP t.data.toList) = a := ⟨_, rfl⟩
  obtain ⟨b, hb⟩ : ∃ b, queryL (cutQ t.data.toList) = b := ⟨_, rfl⟩
  rw [ha, hb] at hok
  rw [ha] at R1
  have hTi : t.data.toList.length = t.size := (Lib.size_eq t).symm
  cases a with
  | false =>
    have CT := Lib.hid (fun w h => pCut_at t w (by omega) h ⟨#[]⟩ ⟨#[]⟩ false 2 (by rw [hok]; rfl) (by rw [hok]; rfl) (by rw [hok]; rfl) (by rw [hok]; rfl))
    clear hok ha hb eP eQ eH hTi hi hps
    go_enter Tryd.func8, Tryd.ntmps8
    go_wp2_with fail
    (refine (awake9_any _ HM.out).mono ?_; rintro e w1 ⟨rfl, h1⟩; have H1 := Lib.hid h1; clear h1; go_wp2_with fail)
    (refine (Q0.out _).mono ?_; rintro e w' ⟨rfl, rfl⟩; go_wp2_with fail)
    (refine (CT.out _ (maxAt_below HM.out H1.out)).mono ?_; rintro e w2 ⟨rfl, h2⟩; have H2 := Lib.hid h2; clear h2; go_wp2_with fail)
    (refine (MK.out _).mono ?_; rintro e w' ⟨rfl, rfl⟩; go_wp2_with fail)
    (refine (R1.out _).mono ?_; rintro e w' ⟨rfl, rfl⟩; go_wp2_with fail)
    go_ret
    exact ⟨rfl, (bseq H1.out H2.out)⟩
  | true =>
    by_cases hlt : i < t.size
    · obtain ⟨q, hq⟩ : ∃ q, t.extract (i + 1) t.size = q := ⟨_, rfl⟩
      have eQ2 : cutQ t.data.toList = q.data.toList := by rw [eQ, ← hq, extract_tail]
      have hqs : q.size ≤ 200 := by rw [← hq, extract_tail_size]; omega
      have R2 := Lib.hid (fun w => rQuery9_any q w (by omega))
      rw [← eQ2, hb] at R2
      have g1 : (i : Int) < t.size := by omega
      have g2 : (i : Int) + 1 ≤ t.size := by omega
      have hjoin : (p ++ ⟨#[63]⟩ ++ q : ByteArray) = t := by
        apply bytes_extX
        have hm := markN_at (c := 63) (l := t.data.toList) (by rw [hi, hTi]; exact hlt)
        rw [hi] at hm
        have e1 : t.data.toList.take i = p.data.toList := by rw [← eP]; unfold cutP; rw [hi]
        have e2 : t.data.toList.drop (i + 1) = q.data.toList := by rw [← eQ2, eQ]
        rw [e1, e2] at hm
        rw [hm]
        simp [ByteArray.data_append]
      cases b with
      | false =>
        have CT := Lib.hid (fun w h => pCut_at t w (by omega) h ⟨#[]⟩ ⟨#[]⟩ false 2 (by rw [hok]; rfl) (by rw [hok]; rfl) (by rw [hok]; rfl) (by rw [hok]; rfl))
        clear hok ha hb eP eQ eH hTi hi hjoin eQ2
        go_enter Tryd.func8, Tryd.ntmps8
        go_wp2_with fail
        (refine (awake9_any _ HM.out).mono ?_; rintro e w1 ⟨rfl, h1⟩; have H1 := Lib.hid h1; clear h1; go_wp2_with fail)
        (refine (Q0.out _).mono ?_; rintro e w' ⟨rfl, rfl⟩; go_wp2_with fail)
        (refine (CT.out _ (maxAt_below HM.out H1.out)).mono ?_; rintro e w2 ⟨rfl, h2⟩; have H2 := Lib.hid h2; clear h2; go_wp2_with fail)
        (refine (MK.out _).mono ?_; rintro e w' ⟨rfl, rfl⟩; go_wp2_with fail)
        (refine (R1.out _).mono ?_; rintro e w' ⟨rfl, rfl⟩; go_wp2_with fail)
        (refine (R2.out _).mono ?_; rintro e w' ⟨rfl, rfl⟩; go_wp2_with fail)
        go_ret
        exact ⟨rfl, (bseq H1.out H2.out)⟩
      | true =>
        have CT := Lib.hid (fun w h => pCut_at t w (by omega) h p q true 0 (by rw [hok]; exact eP) (by rw [hok]; exact eQ2) (by rw [hok, eH, decide_eq_true hlt]; rfl) (by rw [hok]; rfl))
        have JN := Lib.hid (fun w => pJoin_any p q true w (by omega) (by omega))
        rw [if_pos rfl, hjoin] at JN
        have n1 := eq_selfX p
        have n2 := eq_selfX q
        have n3 := eq_selfX t
        clear hok ha hb eP eQ eH hTi hi hjoin eQ2
        go_enter Tryd.func8, Tryd.ntmps8
        go_wp2_with fail
        (refine (awake9_any _ HM.out).mono ?_; rintro e w1 ⟨rfl, h1⟩; have H1 := Lib.hid h1; clear h1; go_wp2_with fail)
        (refine (Q0.out _).mono ?_; rintro e w' ⟨rfl, rfl⟩; go_wp2_with fail)
        (refine (CT.out _ (maxAt_below HM.out H1.out)).mono ?_; rintro e w2 ⟨rfl, h2⟩; have H2 := Lib.hid h2; clear h2; go_wp2_with fail)
        (refine (MK.out _).mono ?_; rintro e w' ⟨rfl, rfl⟩; go_wp2_with fail)
        (refine (R1.out _).mono ?_; rintro e w' ⟨rfl, rfl⟩; go_wp2_with fail)
        (refine (R2.out _).mono ?_; rintro e w' ⟨rfl, rfl⟩; go_wp2_with fail)
        (refine (JN.out _).mono ?_; rintro e w' ⟨rfl, rfl⟩; go_wp2_with fail)
        go_ret
        exact ⟨ret_bool (by simp), (bseq H1.out H2.out)⟩
    · have e3 : cutQ t.data.toList = [] := by rw [eQ]; exact List.drop_of_length_le (by omega)
      have hbt : b = true := by rw [← hb, e3]; rfl
      subst hbt
      have hpt : p = t := by
        apply bytes_extX
        rw [← eP]; unfold cutP
        rw [hi, List.take_of_length_le (by omega)]
      have CT := Lib.hid (fun w h => pCut_at t w (by omega) h p ⟨#[]⟩ false 0 (by rw [hok]; exact eP) (by rw [hok]; exact e3) (by rw [hok, eH, decide_eq_false hlt]; rfl) (by rw [hok]; rfl))
      have JN := Lib.hid (fun w => pJoin_any p ⟨#[]⟩ false w (by omega) (by decide))
      rw [if_neg (by simp)] at JN
      have g1 : ¬ (i : Int) < t.size := by omega
      clear hok ha hb eP eQ eH hTi hi e3
      subst hpt
      have n1 := eq_selfX p
      go_enter Tryd.func8, Tryd.ntmps8
      go_wp2_with fail
      (refine (awake9_any _ HM.out).mono ?_; rintro e w1 ⟨rfl, h1⟩; have H1 := Lib.hid h1; clear h1; go_wp2_with fail)
      (refine (Q0.out _).mono ?_; rintro e w' ⟨rfl, rfl⟩; go_wp2_with fail)
      (refine (CT.out _ (maxAt_below HM.out H1.out)).mono ?_; rintro e w2 ⟨rfl, h2⟩; have H2 := Lib.hid h2; clear h2; go_wp2_with fail)
      (refine (MK.out _).mono ?_; rintro e w' ⟨rfl, rfl⟩; go_wp2_with fail)
      (refine (R1.out _).mono ?_; rintro e w' ⟨rfl, rfl⟩; go_wp2_with fail)
      (refine (JN.out _).mono ?_; rintro e w' ⟨rfl, rfl⟩; go_wp2_with fail)
      go_ret
      exact ⟨ret_bool (by simp), (bseq H1.out H2.out)⟩

set_option maxRecDepth 100000 in
set_option maxHeartbeats 2000000 in
theorem pathDots_walk (s : ByteArray) (w : World) (hs : s.size ≤ maxLen) (hM : MaxAt w) :
    Calls Tryd.prog 7 #[.string s] w fun e w' => e = .returned (.bool true) ∧ Below w.heap.size w w' := by
  have HM := Lib.hid hM; clear hM
  obtain ⟨t, hT⟩ : ∃ t, cutX 200 s = t := ⟨_, rfl⟩
  have ht : t.size ≤ 200 := by rw [← hT, cutX_size]; omega
  have Q0 := Lib.hid (fun w => few9_at s t w hs hT)
  clear hT hs
  have R1 := Lib.hid (fun w => rPath9_any t w (by omega))
  cases ha : pathL t.data.toList with
  | false =>
    rw [ha] at R1
    have D1 := Lib.hid (fun w h => pDots_at t w (by omega) h ⟨#[]⟩ 2 (by unfold dotsV; rw [ha]; rfl) (by unfold dotsE; rw [ha]; rfl))
    clear ha ht
    go_enter Tryd.func7, Tryd.ntmps7
    go_wp2_with fail
    (refine (awake9_any _ HM.out).mono ?_; rintro e w1 ⟨rfl, h1⟩; have H1 := Lib.hid h1; clear h1; go_wp2_with fail)
    (refine (Q0.out _).mono ?_; rintro e w' ⟨rfl, rfl⟩; go_wp2_with fail)
    (refine (D1.out _ (maxAt_below HM.out H1.out)).mono ?_; rintro e w2 ⟨rfl, h2⟩; have H2 := Lib.hid h2; clear h2; go_wp2_with fail)
    (refine (R1.out _).mono ?_; rintro e w' ⟨rfl, rfl⟩; go_wp2_with fail)
    go_ret
    exact ⟨rfl, (bseq H1.out H2.out)⟩
  | true =>
    rw [ha] at R1
    obtain ⟨r, hr, hq⟩ := pathL_tail ha
    obtain ⟨d, hd⟩ : ∃ d : ByteArray, ⟨(dotsL r).toArray⟩ = d := ⟨_, rfl⟩
    have hdl : d.data.toList = dotsL r := by rw [← hd]
    have hds : d.size ≤ 50000 := by
      rw [Lib.size_eq, hdl]
      unfold dotsL
      rw [List.length_cons]
      have h1 := dots_bound r
      have h2 : r.length + 1 ≤ 201 := by have := Lib.size_eq t; rw [hr, List.length_cons] at this; omega
      have h3 := Nat.mul_le_mul h2 h2
      omega
    have hpd := dots_path hq
    have D1 := Lib.hid (fun w h => pDots_at t w (by omega) h d 0 (by unfold dotsV; rw [ha, hdl, hr]; rfl) (by unfold dotsE; rw [ha]; rfl))
    have D2 := Lib.hid (fun w h => pDots_at d w (by omega) h d 0 (by
      unfold dotsV; rw [hdl, hpd]
      show dotsL ((dotsL r).drop 1) = dotsL r
      exact dots_again r) (by unfold dotsE; rw [hdl, hpd]; rfl))
    have PA := Lib.hid (fun w => rParts_any d 47 47 w (by omega) rfl)
    rw [hdl, dots_whole] at PA
    have RD := Lib.hid (fun w => rDots_any t w (by omega) r hr)
    rw [hd] at RD
    obtain ⟨all, hall⟩ : ∃ all, [] :: dotGo [] (partsL 47 r) = all := ⟨_, rfl⟩
    rw [hall] at PA
    have hnd : ∀ o ∈ all, isDot o = false := by
      rw [← hall]
      intro o ho
      rcases List.mem_cons.1 ho with rfl | ho
      · rfl
      · exact ((dots_out r).2 o ho).1
    have hal : 0 < all.length := by rw [← hall]; simp
    have hal2 : all.length ≤ 1000 := by
      rw [← hall, List.length_cons]
      have h1 := dotGo_len (partsL 47 r) []
      have h2 := partsL_len (c := 47) r
      have := Lib.size_eq t; rw [hr, List.length_cons] at this
      simp at h1; omega
    have HND := Lib.hid hnd; clear hnd
    have n1 := eq_selfX d
    clear hall hpd hds hdl hd hq hr ha ht
    go_enter Tryd.func7, Tryd.ntmps7
    go_wp2_with fail
    (refine (awake9_any _ HM.out).mono ?_; rintro e w1 ⟨rfl, h1⟩; have H1 := Lib.hid h1; clear h1; go_wp2_with fail)
    (refine (Q0.out _).mono ?_; rintro e w' ⟨rfl, rfl⟩; go_wp2_with fail)
    (refine (D1.out _ (maxAt_below HM.out H1.out)).mono ?_; rintro e w2 ⟨rfl, h2⟩; have H2 := Lib.hid h2; clear h2; go_wp2_with fail)
    (refine (R1.out _).mono ?_; rintro e w' ⟨rfl, rfl⟩; go_wp2_with fail)
    (refine (D2.out _ (maxAt_below HM.out (bseq H1.out H2.out))).mono ?_; rintro e w3 ⟨rfl, h3⟩; have H3 := Lib.hid h3; clear h3; go_wp2_with fail)
    refine (PA.out _).mono ?_
    rintro e w4 ⟨v, rfl, hb4, ho4⟩
    obtain ⟨a1, c1, rfl, hac, _⟩ := ownS_form ho4
    obtain ⟨g, rfl, _, ht4⟩ := textsAt_own ho4 hal
    have H4 := Lib.hid hb4; clear hb4 ho4
    have HT := Lib.hid ht4; clear ht4
    go_wp2_with fail
    go_loop [8] (fun i => ∃ (k : Nat), k ≤ all.length ∧ i = .int .i64 k) (fun i => all.length - (intOf i).toNat)
    case atStart => exact ⟨0, Nat.zero_le _, rfl⟩
    case round =>
      obtain ⟨k, hk, rfl⟩ := hrel
      by_cases hlt : k < all.length
      · have hcell := HT.out.2 k hlt
        have hdot := HND.out _ (List.getElem_mem hlt)
        obtain ⟨x, hx⟩ : ∃ x, all[k] = x := ⟨_, rfl⟩
        rw [hx] at hcell hdot
        clear hx
        obtain ⟨xb, hxb⟩ : ∃ xb : ByteArray, ⟨x.toArray⟩ = xb := ⟨_, rfl⟩
        have hcell2 : w4.cell? ⟨g, k, none⟩ = some (.string xb) := by rw [hcell, ← hxb]; rfl
        have hxl : xb.toList = x := by rw [← hxb, Lib.toList_data]
        have hb1 : (xb.toList == [46]) = false := by
          rw [hxl]; unfold isDot at hdot; simp only [Bool.or_eq_false_iff] at hdot; exact hdot.1
        have hb2 : (xb.toList == [46, 46]) = false := by
          rw [hxl]; unfold isDot at hdot; simp only [Bool.or_eq_false_iff] at hdot; exact hdot.2
        clear hxl hxb hcell hdot
        go_wp2_with fail
        go_round
        case rel => exact ⟨k + 1, by omega, by go_num⟩
        case measure => simp [intOf]; omega
      · obtain rfl : k = all.length := by omega
        go_wp2_with fail
        (refine (RD.out _).mono ?_; rintro e w5 ⟨rfl, h5⟩; have H5 := Lib.hid h5; clear h5; go_wp2_with fail)
        go_ret
        exact ⟨ret_bool (by simp), (bseq (bseq (bseq (bseq H1.out H2.out) H3.out) H4.out) H5.out)⟩

end Go.Proofs.YthhpijmkhhdhhaaDoor
