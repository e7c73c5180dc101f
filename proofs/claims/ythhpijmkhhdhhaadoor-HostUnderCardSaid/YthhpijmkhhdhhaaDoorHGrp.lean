/- hostport.groups; the reference's whole. -/
import Derived.Test.YthhpijmkhhdhhaaDoorHRFour
namespace Go.Proofs.YthhpijmkhhdhhaaDoor
open Go.RowKit
set_option linter.unusedVariables false
set_option linter.unusedSimpArgs false

theorem grpOne_four {x : List UInt8} {r : List (List UInt8)} {last : Bool} (h1 : (last && r.isEmpty) = true) (h2 : fourL x = true) : grpOne last x r = some 2 := by
  unfold grpOne; rw [h1, h2]; rfl
theorem grpOne_hex {x : List UInt8} {r : List (List UInt8)} {last : Bool} (h : ((last && r.isEmpty) && fourL x) = false) : grpOne last x r = if hexG x then some 1 else none := by
  unfold grpOne; rw [h]; rfl
theorem grpO_step {last : Bool} {ps r : List (List UInt8)} {x : List UInt8} {n j : Nat} (h : grpO last ps = (grpO last (x :: r)).map (n + ·)) (h1 : grpOne last x r = some j) : grpO last ps = (grpO last r).map ((n + j) + ·) := by
  rw [h, grpO, h1]
  cases grpO last r with
  | none => rfl
  | some m => simp; omega
theorem grpO_bad {last : Bool} {ps r : List (List UInt8)} {x : List UInt8} {n : Nat} (h : grpO last ps = (grpO last (x :: r)).map (n + ·)) (h1 : grpOne last x r = none) : grpO last ps = none := by
  rw [h, grpO, h1]; rfl

set_option maxRecDepth 100000 in
set_option maxHeartbeats 4000000 in
theorem groups_any (s : ByteArray) (last : Bool) (w : World) (hs : s.size ≤ 100000) (hM : MaxAt w) (hP : PowAt w) :
    Calls Tryd.prog 82 #[.string s, .bool last] w fun e w' => e = .returned (.int .i64 (gI (grpO last (partsE s.data.toList)))) ∧ Below w.heap.size w w' := by
  by_cases h0 : s.size = 0
  · have h1 := empty_of_size s h0
    have h2 : s.toList.isEmpty = true := by rw [h1]; rfl
    have HV : Hid (gI (grpO last (partsE s.data.toList)) = 0) := Lib.hid (by rw [size0 s h0]; rfl)
    clear h0 h1
    go_enter Tryd.func82, Tryd.ntmps82
    go_wp2_with fail
    go_ret
    exact ⟨ret_int HV.out.symm, Below.refl _ _⟩
  · have h1 := nonempty_of_size s (by omega)
    have hpe : partsE s.data.toList = partsL 58 s.data.toList := by unfold partsE; rw [← Lib.toList_data, h1]; rfl
    have SP := Lib.hid (fun W h => split_any s 58 W (by omega) h)
    have hsz := partsL_size (c := 58) s.data.toList
    have hln := partsL_len (c := 58) s.data.toList
    rw [← Lib.size_eq] at hln
    rw [hpe]
    obtain ⟨ps, hps⟩ : ∃ ps, partsL 58 s.data.toList = ps := ⟨_, rfl⟩
    rw [hps] at SP hsz hln ⊢
    have HSZ := Lib.hid hsz; have HM := Lib.hid hM; have HP := Lib.hid hP; clear hsz hps hpe hM hP h0
    go_enter Tryd.func82, Tryd.ntmps82
    go_wp2_with fail
    refine (SP.out _ HM.out).mono ?_
    rintro e w1 ⟨rfl, hb1, ht1, hz1⟩
    obtain ⟨g, hg⟩ : ∃ g, w.heap.size = g := ⟨_, rfl⟩
    have HB1 := Lib.hid hb1; have HP1 := Lib.hid (powAt_below HP.out hb1)
    rw [hg] at ht1 ⊢
    have HG := Lib.hid hg
    have HT1 := Lib.hid ht1; clear hb1 ht1 hz1 hg h1
    go_wp2_with fail
    go_loopw [6, 7, 8, 15, 20, 35] (fun n _ _ i _ _ wr => ∃ k m : Nat, k ≤ ps.length ∧ i = .int .i64 k ∧ n = .int .i64 m ∧ m ≤ 2 * k ∧ Hid (grpO last ps = (grpO last (ps.drop k)).map (m + ·)) ∧ Hid (Below w1.heap.size w1 wr)) (fun _ _ _ i _ _ _ => ps.length - (intOf i).toNat)
    case atStart => exact ⟨0, 0, Nat.zero_le _, rfl, rfl, Nat.le_refl _, Lib.hid (by rw [List.drop_zero]; cases grpO last ps <;> simp), Below.refl _ _⟩
    case round =>
      obtain ⟨k, m, hk, rfl, rfl, hmk, hgr, hb⟩ := hrel
      by_cases hlt : k < ps.length
      · have hcell0 : wr.cell? ⟨g, k, none⟩ = some (sV ps[k]) := (textsAt_below HT1.out hb.out).2 k hlt
        have hmem : ps[k].length ≤ s.size := by have := HSZ.out _ (List.getElem_mem hlt); rw [← Lib.size_eq] at this; exact this
        have hdr := hgr.out
        rw [List.drop_eq_getElem_cons hlt] at hdr
        have hre : (ps.drop (k + 1)).isEmpty = decide (k + 1 = ps.length) := by
          rw [Bool.eq_iff_iff, List.isEmpty_iff, List.drop_eq_nil_iff, decide_eq_true_eq]; omega
        obtain ⟨x, hx⟩ : ∃ x : ByteArray, (⟨ps[k].toArray⟩ : ByteArray) = x := ⟨_, rfl⟩
        have hxd : x.data.toList = ps[k] := by rw [← hx]
        have hcell : wr.cell? ⟨g, k, none⟩ = some (.string x) := by rw [hcell0, ← hx]; rfl
        have hxs : x.size ≤ 100000 := by rw [Lib.size_eq, hxd]; omega
        rw [← hxd] at hdr
        obtain ⟨r, hr⟩ : ∃ r, ps.drop (k + 1) = r := ⟨_, rfl⟩
        rw [hr] at hdr hre
        have HDR := Lib.hid hdr; have HR := Lib.hid hr; have HRE := Lib.hid hre
        clear hcell0 hmem hdr hx hxd hr hre
        have HPR := Lib.hid (powAt_below HP1.out hb.out)
        have FO := Lib.hid (fun W h => four_any x W (by omega) h)
        have AL := Lib.hid (fun w0 w h hh => all_hex_below x w0 w h hh)
        have hfx : ((last && r.isEmpty) && fourL x.data.toList) = false → grpOne last x.data.toList r = if hexG x.data.toList then some 1 else none := grpOne_hex
        have hfy : (last && r.isEmpty) = true → fourL x.data.toList = true → grpOne last x.data.toList r = some 2 := grpOne_four
        have hhx : hexG x.data.toList = (decide (1 ≤ x.size) && decide (x.size ≤ 4) && allB bHex x.data.toList) := by unfold hexG; rw [← Lib.size_eq]
        obtain ⟨f, hf⟩ : ∃ f, fourL x.data.toList = f := ⟨_, rfl⟩
        obtain ⟨hx4, hhx4⟩ : ∃ hx4, allB bHex x.data.toList = hx4 := ⟨_, rfl⟩
        rw [hf] at FO hfx hfy
        rw [hhx4] at AL hhx
        have HFX := Lib.hid hfx; have HFY := Lib.hid hfy; have HHX := Lib.hid hhx
        clear hfx hfy hhx hf hhx4
        have g1 : (k : Int) < (ps.length : Int) := by omega
        have g2 : IntKind.i64.wrap ((ps.length : Int) - 1) = (ps.length : Int) - 1 := wrap_small _ (by omega) (by omega)
        cases last with
        | false =>
          have HG1 := Lib.hid (HFX.out (by rfl))
          by_cases hle : 1 ≤ x.size ∧ x.size ≤ 4
          · obtain ⟨l1, l2⟩ := hle
            have q1 : (1 : Int) ≤ (x.size : Int) := by omega
            have q2 : (x.size : Int) ≤ 4 := by omega
            cases hx4 with
            | true =>
              have HN : Hid (grpO false ps = (grpO false r).map ((m + 1) + ·)) := Lib.hid (grpO_step HDR.out (by rw [HG1.out, HHX.out, decide_eq_true l1, decide_eq_true l2]; rfl))
              go_wp2_with fail
              refine (AL.out _ _ rfl (by omega)).mono ?_
              rintro e w4 ⟨rfl, hw4⟩
              have HB4 : Hid (Below w1.heap.size w1 w4) := Lib.hid (by rw [← hw4]; exact hb.out.alloc hb.out.size _)
              clear hw4
              go_wp2_with fail
              go_roundw
              case rel => exact ⟨k + 1, m + 1, by omega, by go_num, by go_num, by omega, Lib.hid (by rw [HN.out, HR.out]), HB4.out⟩
              case measure => simp [intOf]; omega
            | false =>
              have HN : Hid (grpO false ps = none) := Lib.hid (grpO_bad HDR.out (by rw [HG1.out, HHX.out, decide_eq_true l1, decide_eq_true l2]; rfl))
              go_wp2_with fail
              refine (AL.out _ _ rfl (by omega)).mono ?_
              rintro e w4 ⟨rfl, hw4⟩
              have HB4 : Hid (Below w1.heap.size w1 w4) := Lib.hid (by rw [← hw4]; exact hb.out.alloc hb.out.size _)
              clear hw4
              go_wp2_with fail
              go_ret
              exact ⟨ret_int (by rw [HN.out]; rfl), bseq HB1.out HB4.out⟩
          · have HN : Hid (grpO false ps = none) := Lib.hid (grpO_bad HDR.out (by
              rw [HG1.out, HHX.out]
              have : (decide (1 ≤ x.size) && decide (x.size ≤ 4)) = false := by rw [Bool.and_eq_false_iff, decide_eq_false_iff_not, decide_eq_false_iff_not]; omega
              rw [this]; rfl))
            have q1 : decide ((1 : Int) ≤ (x.size : Int)) = decide (1 ≤ x.size) := by rw [decide_eq_decide]; omega
            rcases Nat.lt_or_ge x.size 1 with hl | hl
            · have q2 : decide ((1 : Int) ≤ (x.size : Int)) = false := decide_eq_false (by omega)
              clear q1 hle
              go_wp2_with fail
              go_ret
              exact ⟨ret_int (by rw [HN.out]; rfl), bseq HB1.out hb.out⟩
            · have q2 : (1 : Int) ≤ (x.size : Int) := by omega
              have q3 : decide ((x.size : Int) ≤ 4) = false := decide_eq_false (by omega)
              clear q1 hle
              go_wp2_with fail
              go_ret
              exact ⟨ret_int (by rw [HN.out]; rfl), bseq HB1.out hb.out⟩
        | true =>
          by_cases hk1 : k + 1 = ps.length
          · have HLE : Hid (r.isEmpty = true) := Lib.hid (by rw [HRE.out]; exact decide_eq_true hk1)
            have g3 : ((k : Int) == (ps.length : Int) - 1) = true := by rw [beq_iff_eq]; omega
            cases f with
            | true =>
              have HN : Hid (grpO true ps = (grpO true r).map ((m + 2) + ·)) := Lib.hid (grpO_step HDR.out (HFY.out (by rw [HLE.out]; rfl) rfl))
              go_wp2_with fail
              refine (FO.out _ HPR.out).mono ?_
              rintro e w3 ⟨rfl, hw3⟩
              have HB3 := Lib.hid (hb.out.trans (hw3.mono hb.out.size)); clear hw3
              go_wp2_with fail
              go_roundw
              case rel => exact ⟨k + 1, m + 2, by omega, by go_num, by go_num, by omega, Lib.hid (by rw [HN.out, HR.out]), HB3.out⟩
              case measure => simp [intOf]; omega
            | false =>
              go_wp2_with fail
              refine (FO.out _ HPR.out).mono ?_
              rintro e w3 ⟨rfl, hw3⟩
              have HB3 := Lib.hid (hb.out.trans (hw3.mono hb.out.size)); clear hw3
              have HG1 := Lib.hid (HFX.out (by simp))
              by_cases hle : 1 ≤ x.size ∧ x.size ≤ 4
              · obtain ⟨l1, l2⟩ := hle
                have q1 : (1 : Int) ≤ (x.size : Int) := by omega
                have q2 : (x.size : Int) ≤ 4 := by omega
                cases hx4 with
                | true =>
                  have HN : Hid (grpO true ps = (grpO true r).map ((m + 1) + ·)) := Lib.hid (grpO_step HDR.out (by rw [HG1.out, HHX.out, decide_eq_true l1, decide_eq_true l2]; rfl))
                  go_wp2_with fail
                  refine (AL.out _ _ rfl (by omega)).mono ?_
                  rintro e w4 ⟨rfl, hw4⟩
                  have HB4 : Hid (Below w1.heap.size w1 w4) := Lib.hid (by rw [← hw4]; exact HB3.out.alloc HB3.out.size _)
                  clear hw4
                  go_wp2_with fail
                  go_roundw
                  case rel => exact ⟨k + 1, m + 1, by omega, by go_num, by go_num, by omega, Lib.hid (by rw [HN.out, HR.out]), HB4.out⟩
                  case measure => simp [intOf]; omega
                | false =>
                  have HN : Hid (grpO true ps = none) := Lib.hid (grpO_bad HDR.out (by rw [HG1.out, HHX.out, decide_eq_true l1, decide_eq_true l2]; rfl))
                  go_wp2_with fail
                  refine (AL.out _ _ rfl (by omega)).mono ?_
                  rintro e w4 ⟨rfl, hw4⟩
                  have HB4 : Hid (Below w1.heap.size w1 w4) := Lib.hid (by rw [← hw4]; exact HB3.out.alloc HB3.out.size _)
                  clear hw4
                  go_wp2_with fail
                  go_ret
                  exact ⟨ret_int (by rw [HN.out]; rfl), bseq HB1.out HB4.out⟩
              · have HN : Hid (grpO true ps = none) := Lib.hid (grpO_bad HDR.out (by
                  rw [HG1.out, HHX.out]
                  have : (decide (1 ≤ x.size) && decide (x.size ≤ 4)) = false := by rw [Bool.and_eq_false_iff, decide_eq_false_iff_not, decide_eq_false_iff_not]; omega
                  rw [this]; rfl))
                have q1 : decide ((1 : Int) ≤ (x.size : Int)) = decide (1 ≤ x.size) := by rw [decide_eq_decide]; omega
                rcases Nat.lt_or_ge x.size 1 with hl | hl
                · have q2 : decide ((1 : Int) ≤ (x.size : Int)) = false := decide_eq_false (by omega)
                  clear q1 hle
                  go_wp2_with fail
                  go_ret
                  exact ⟨ret_int (by rw [HN.out]; rfl), bseq HB1.out HB3.out⟩
                · have q2 : (1 : Int) ≤ (x.size : Int) := by omega
                  have q3 : decide ((x.size : Int) ≤ 4) = false := decide_eq_false (by omega)
                  clear q1 hle
                  go_wp2_with fail
                  go_ret
                  exact ⟨ret_int (by rw [HN.out]; rfl), bseq HB1.out HB3.out⟩
          · have HLE : Hid (r.isEmpty = false) := Lib.hid (by rw [HRE.out]; exact decide_eq_false hk1)
            have g3 : ((k : Int) == (ps.length : Int) - 1) = false := by rw [beq_eq_false_iff_ne]; omega
            have HG1 := Lib.hid (HFX.out (by rw [HLE.out]; rfl))
            by_cases hle : 1 ≤ x.size ∧ x.size ≤ 4
            · obtain ⟨l1, l2⟩ := hle
              have q1 : (1 : Int) ≤ (x.size : Int) := by omega
              have q2 : (x.size : Int) ≤ 4 := by omega
              cases hx4 with
              | true =>
                have HN : Hid (grpO true ps = (grpO true r).map ((m + 1) + ·)) := Lib.hid (grpO_step HDR.out (by rw [HG1.out, HHX.out, decide_eq_true l1, decide_eq_true l2]; rfl))
                go_wp2_with fail
                refine (AL.out _ _ rfl (by omega)).mono ?_
                rintro e w4 ⟨rfl, hw4⟩
                have HB4 : Hid (Below w1.heap.size w1 w4) := Lib.hid (by rw [← hw4]; exact hb.out.alloc hb.out.size _)
                clear hw4
                go_wp2_with fail
                go_roundw
                case rel => exact ⟨k + 1, m + 1, by omega, by go_num, by go_num, by omega, Lib.hid (by rw [HN.out, HR.out]), HB4.out⟩
                case measure => simp [intOf]; omega
              | false =>
                have HN : Hid (grpO true ps = none) := Lib.hid (grpO_bad HDR.out (by rw [HG1.out, HHX.out, decide_eq_true l1, decide_eq_true l2]; rfl))
                go_wp2_with fail
                refine (AL.out _ _ rfl (by omega)).mono ?_
                rintro e w4 ⟨rfl, hw4⟩
                have HB4 : Hid (Below w1.heap.size w1 w4) := Lib.hid (by rw [← hw4]; exact hb.out.alloc hb.out.size _)
                clear hw4
                go_wp2_with fail
                go_ret
                exact ⟨ret_int (by rw [HN.out]; rfl), bseq HB1.out HB4.out⟩
            · have HN : Hid (grpO true ps = none) := Lib.hid (grpO_bad HDR.out (by
                rw [HG1.out, HHX.out]
                have : (decide (1 ≤ x.size) && decide (x.size ≤ 4)) = false := by rw [Bool.and_eq_false_iff, decide_eq_false_iff_not, decide_eq_false_iff_not]; omega
                rw [this]; rfl))
              have q1 : decide ((1 : Int) ≤ (x.size : Int)) = decide (1 ≤ x.size) := by rw [decide_eq_decide]; omega
              rcases Nat.lt_or_ge x.size 1 with hl | hl
              · have q2 : decide ((1 : Int) ≤ (x.size : Int)) = false := decide_eq_false (by omega)
                clear q1 hle
                go_wp2_with fail
                go_ret
                exact ⟨ret_int (by rw [HN.out]; rfl), bseq HB1.out hb.out⟩
              · have q2 : (1 : Int) ≤ (x.size : Int) := by omega
                have q3 : decide ((x.size : Int) ≤ 4) = false := decide_eq_false (by omega)
                clear q1 hle
                go_wp2_with fail
                go_ret
                exact ⟨ret_int (by rw [HN.out]; rfl), bseq HB1.out hb.out⟩
      · obtain rfl : k = ps.length := by omega
        have HN : Hid (grpO last ps = some m) := Lib.hid (by rw [hgr.out, List.drop_length]; simp [grpO])
        have g1 : decide ((ps.length : Int) < (ps.length : Int)) = false := decide_eq_false (by omega)
        go_wp2_with fail
        go_ret
        exact ⟨ret_int (by rw [HN.out]; rfl), bseq HB1.out hb.out⟩
set_option maxRecDepth 100000 in
set_option maxHeartbeats 4000000 in
theorem whole_any (s : ByteArray) (w : World) (hs : s.size ≤ 100000) :
    Calls Tryd.prog 83 #[.string s] w fun e w' => e = .returned (.bool (wholeL s.data.toList)) ∧ Below w.heap.size w w' := by
  have PT := Lib.hid (fun W => parts_at s 58 58 W hs rfl)
  have hsz := partsL_size (c := 58) s.data.toList
  have hln := partsL_len (c := 58) s.data.toList
  rw [← Lib.size_eq] at hln
  have hv : wholeL s.data.toList = (grpO true (partsL 58 s.data.toList) == some 8) := rfl
  obtain ⟨ps, hps⟩ : ∃ ps, partsL 58 s.data.toList = ps := ⟨_, rfl⟩
  rw [hps] at PT hsz hln hv
  have HSZ := Lib.hid hsz; have HV := Lib.hid hv; clear hsz hv hps
  go_enter Tryd.func83, Tryd.ntmps83
  go_wp2_with fail
  refine (PT.out _).mono ?_
  rintro e w1 ⟨g, cp, rfl, hb1, ht1, hg⟩
  have HB1 := Lib.hid hb1; have HT1 := Lib.hid ht1; clear hb1 ht1 PT
  go_wp2_with fail
  go_loopw [4, 5, 6] (fun n i _ wr => ∃ k m : Nat, k ≤ ps.length ∧ i = .int .i64 k ∧ n = .int .i64 m ∧ m ≤ 2 * k ∧ Hid (grpO true ps = (grpO true (ps.drop k)).map (m + ·)) ∧ Hid (Below w1.heap.size w1 wr)) (fun _ i _ _ => ps.length - (intOf i).toNat)
  case atStart => exact ⟨0, 0, Nat.zero_le _, rfl, rfl, Nat.le_refl _, Lib.hid (by rw [List.drop_zero]; cases grpO true ps <;> simp), Below.refl _ _⟩
  case round =>
    obtain ⟨k, m, hk, rfl, rfl, hmk, hgr, hb⟩ := hrel
    by_cases hlt : k < ps.length
    · have hcell0 : wr.cell? ⟨g, k, none⟩ = some (sV ps[k]) := (textsAt_below HT1.out hb.out).2 k hlt
      have hmem : ps[k].length ≤ s.size := by have := HSZ.out _ (List.getElem_mem hlt); rw [← Lib.size_eq] at this; exact this
      have hdr := hgr.out
      rw [List.drop_eq_getElem_cons hlt] at hdr
      have hre : (ps.drop (k + 1)).isEmpty = decide (k + 1 = ps.length) := by
        rw [Bool.eq_iff_iff, List.isEmpty_iff, List.drop_eq_nil_iff, decide_eq_true_eq]; omega
      obtain ⟨x, hx⟩ : ∃ x : ByteArray, (⟨ps[k].toArray⟩ : ByteArray) = x := ⟨_, rfl⟩
      have hxd : x.data.toList = ps[k] := by rw [← hx]
      have hcell : wr.cell? ⟨g, k, none⟩ = some (.string x) := by rw [hcell0, ← hx]; rfl
      have hglt : g < wr.heap.size := (textsAt_below HT1.out hb.out).1
      have hxs : x.size ≤ 100000 := by rw [Lib.size_eq, hxd]; omega
      rw [← hxd] at hdr
      obtain ⟨r, hr⟩ : ∃ r, ps.drop (k + 1) = r := ⟨_, rfl⟩
      rw [hr] at hdr hre
      have HDR := Lib.hid hdr; have HR := Lib.hid hr; have HRE := Lib.hid hre
      clear hcell0 hmem hdr hx hxd hr hre
      have FO := Lib.hid (fun W => rFour_any x W hxs)
      have hfx : ((true && r.isEmpty) && fourL x.data.toList) = false → grpOne true x.data.toList r = if hexG x.data.toList then some 1 else none := grpOne_hex
      have hfy : (true && r.isEmpty) = true → fourL x.data.toList = true → grpOne true x.data.toList r = some 2 := grpOne_four
      have hhx : hexG x.data.toList = (decide (1 ≤ x.size) && decide (x.size ≤ 4) && allB bHex x.data.toList) := by unfold hexG; rw [← Lib.size_eq]
      obtain ⟨f, hf⟩ : ∃ f, fourL x.data.toList = f := ⟨_, rfl⟩
      rw [hf] at FO hfx hfy
      have HFX := Lib.hid hfx; have HFY := Lib.hid hfy; have HHX := Lib.hid hhx
      clear hfx hfy hhx hf
      have g1 : (k : Int) < (ps.length : Int) := by omega
      have g2 : IntKind.i64.wrap ((ps.length : Int) - 1) = (ps.length : Int) - 1 := wrap_small _ (by omega) (by omega)
      by_cases hk1 : k + 1 = ps.length
      · have HLE : Hid (r.isEmpty = true) := Lib.hid (by rw [HRE.out]; exact decide_eq_true hk1)
        have g3 : ((k : Int) == (ps.length : Int) - 1) = true := by rw [beq_iff_eq]; omega
        cases f with
        | true =>
          have HN : Hid (grpO true ps = (grpO true r).map ((m + 2) + ·)) := Lib.hid (grpO_step HDR.out (HFY.out (by rw [HLE.out]; rfl) rfl))
          go_wp2_with fail
          refine (FO.out _).mono ?_
          rintro e w3 ⟨rfl, hw3⟩
          have HB3 := Lib.hid (hb.out.trans (hw3.mono hb.out.size)); clear hw3
          go_wp2_with fail
          go_roundw
          case rel => exact ⟨k + 1, m + 2, by omega, by go_num, by go_num, by omega, Lib.hid (by rw [HN.out, HR.out]), HB3.out⟩
          case measure => simp [intOf]; omega
        | false =>
          go_wp2_with fail
          refine (FO.out _).mono ?_
          rintro e w3 ⟨rfl, hw3⟩
          have HB3 := Lib.hid (hb.out.trans (hw3.mono hb.out.size))
          have hcell3 : w3.cell? ⟨g, k, none⟩ = some (.string x) := (hw3.cell (by exact hglt)).trans hcell
          clear hw3 hcell
          have HG1 := Lib.hid (HFX.out (by simp))
          go_wp2_with fail
          go_loop [6] (fun kk => ∃ j : Nat, j ≤ x.size ∧ kk = .int .i64 j ∧ Hid (∀ c ∈ x.data.toList.take j, bHex (c.toNat : Int) = true)) (fun kk => x.size - (intOf kk).toNat)
          case atStart => exact ⟨0, Nat.zero_le _, rfl, Lib.hid (by simp)⟩
          case round =>
            obtain ⟨j, hj, rfl, hall⟩ := hrel
            by_cases hjl : j < x.size
            · have RH := Lib.hid (fun W => rHex_any (x[j].toNat : Int) W (by omega) (u8_255 _))
              have g4 : (j : Int) < (x.size : Int) := by omega
              cases hx4 : bHex (x[j].toNat : Int) with
              | true =>
                have HN : Hid (∀ c ∈ x.data.toList.take (j + 1), bHex (c.toNat : Int) = true) := Lib.hid (by
                  intro c hc
                  rw [take_snoc x j hjl, List.mem_append] at hc
                  rcases hc with hc | hc
                  · exact hall.out c hc
                  · simp at hc; subst hc; exact hx4)
                rw [hx4] at RH
                clear hx4
                go_wp2_with fail
                (refine (RH.out _).mono ?_; rintro e w' ⟨rfl, rfl⟩; go_wp2_with fail)
                go_round
                case rel => exact ⟨j + 1, by omega, by go_num, HN⟩
                case measure => simp [intOf]; omega
              | false =>
                have HN : Hid (grpO true ps = none) := Lib.hid (grpO_bad HDR.out (by
                  rw [HG1.out, HHX.out, show allB bHex x.data.toList = false from List.all_eq_false.2 ⟨x[j], by rw [← List.take_append_drop j x.data.toList, drop_cons x j hjl]; simp, by simp [hx4]⟩]
                  simp))
                rw [hx4] at RH
                clear hx4
                go_wp2_with fail
                (refine (RH.out _).mono ?_; rintro e w' ⟨rfl, rfl⟩; go_wp2_with fail)
                go_ret
                exact ⟨ret_bool (by rw [HV.out, HN.out]; rfl), bseq HB1.out HB3.out⟩
            · obtain rfl : j = x.size := by omega
              have hax : Hid (allB bHex x.data.toList = true) := Lib.hid (by
                have h := hall.out
                rw [List.take_of_length_le (by rw [← Lib.size_eq]; omega)] at h
                exact List.all_eq_true.2 h)
              have g5 : decide ((x.size : Int) < (x.size : Int)) = false := decide_eq_false (by omega)
              by_cases hle : 1 ≤ x.size ∧ x.size ≤ 4
              · obtain ⟨l1, l2⟩ := hle
                have HN : Hid (grpO true ps = (grpO true r).map ((m + 1) + ·)) := Lib.hid (grpO_step HDR.out (by rw [HG1.out, HHX.out, decide_eq_true l1, decide_eq_true l2, hax.out]; rfl))
                have q1 : decide ((x.size : Int) < 1) = false := decide_eq_false (by omega)
                have q2 : decide ((4 : Int) < (x.size : Int)) = false := decide_eq_false (by omega)
                go_wp2_with fail
                go_roundw
                case rel => exact ⟨k + 1, m + 1, by omega, by go_num, by go_num, by omega, Lib.hid (by rw [HN.out, HR.out]), HB3.out⟩
                case measure => simp [intOf]; omega
              · have HN : Hid (grpO true ps = none) := Lib.hid (grpO_bad HDR.out (by
                  rw [HG1.out, HHX.out]
                  have : (decide (1 ≤ x.size) && decide (x.size ≤ 4)) = false := by rw [Bool.and_eq_false_iff, decide_eq_false_iff_not, decide_eq_false_iff_not]; omega
                  rw [this]; rfl))
                rcases Nat.lt_or_ge x.size 1 with hl | hl
                · have q1 : (x.size : Int) < 1 := by omega
                  clear hle
                  go_wp2_with fail
                  go_ret
                  exact ⟨ret_bool (by rw [HV.out, HN.out]; rfl), bseq HB1.out HB3.out⟩
                · have q1 : decide ((x.size : Int) < 1) = false := decide_eq_false (by omega)
                  have q2 : (4 : Int) < (x.size : Int) := by omega
                  clear hle
                  go_wp2_with fail
                  go_ret
                  exact ⟨ret_bool (by rw [HV.out, HN.out]; rfl), bseq HB1.out HB3.out⟩
      · have HLE : Hid (r.isEmpty = false) := Lib.hid (by rw [HRE.out]; exact decide_eq_false hk1)
        have g3 : ((k : Int) == (ps.length : Int) - 1) = false := by rw [beq_eq_false_iff_ne]; omega
        have HG1 := Lib.hid (HFX.out (by rw [HLE.out]; rfl))
        go_wp2_with fail
        go_loop [6] (fun kk => ∃ j : Nat, j ≤ x.size ∧ kk = .int .i64 j ∧ Hid (∀ c ∈ x.data.toList.take j, bHex (c.toNat : Int) = true)) (fun kk => x.size - (intOf kk).toNat)
        case atStart => exact ⟨0, Nat.zero_le _, rfl, Lib.hid (by simp)⟩
        case round =>
          obtain ⟨j, hj, rfl, hall⟩ := hrel
          by_cases hjl : j < x.size
          · have RH := Lib.hid (fun W => rHex_any (x[j].toNat : Int) W (by omega) (u8_255 _))
            have g4 : (j : Int) < (x.size : Int) := by omega
            cases hx4 : bHex (x[j].toNat : Int) with
            | true =>
              have HN : Hid (∀ c ∈ x.data.toList.take (j + 1), bHex (c.toNat : Int) = true) := Lib.hid (by
                intro c hc
                rw [take_snoc x j hjl, List.mem_append] at hc
                rcases hc with hc | hc
                · exact hall.out c hc
                · simp at hc; subst hc; exact hx4)
              rw [hx4] at RH
              clear hx4
              go_wp2_with fail
              (refine (RH.out _).mono ?_; rintro e w' ⟨rfl, rfl⟩; go_wp2_with fail)
              go_round
              case rel => exact ⟨j + 1, by omega, by go_num, HN⟩
              case measure => simp [intOf]; omega
            | false =>
              have HN : Hid (grpO true ps = none) := Lib.hid (grpO_bad HDR.out (by
                rw [HG1.out, HHX.out, show allB bHex x.data.toList = false from List.all_eq_false.2 ⟨x[j], by rw [← List.take_append_drop j x.data.toList, drop_cons x j hjl]; simp, by simp [hx4]⟩]
                simp))
              rw [hx4] at RH
              clear hx4
              go_wp2_with fail
              (refine (RH.out _).mono ?_; rintro e w' ⟨rfl, rfl⟩; go_wp2_with fail)
              go_ret
              exact ⟨ret_bool (by rw [HV.out, HN.out]; rfl), bseq HB1.out hb.out⟩
          · obtain rfl : j = x.size := by omega
            have hax : Hid (allB bHex x.data.toList = true) := Lib.hid (by
              have h := hall.out
              rw [List.take_of_length_le (by rw [← Lib.size_eq]; omega)] at h
              exact List.all_eq_true.2 h)
            have g5 : decide ((x.size : Int) < (x.size : Int)) = false := decide_eq_false (by omega)
            by_cases hle : 1 ≤ x.size ∧ x.size ≤ 4
            · obtain ⟨l1, l2⟩ := hle
              have HN : Hid (grpO true ps = (grpO true r).map ((m + 1) + ·)) := Lib.hid (grpO_step HDR.out (by rw [HG1.out, HHX.out, decide_eq_true l1, decide_eq_true l2, hax.out]; rfl))
              have q1 : decide ((x.size : Int) < 1) = false := decide_eq_false (by omega)
              have q2 : decide ((4 : Int) < (x.size : Int)) = false := decide_eq_false (by omega)
              go_wp2_with fail
              go_roundw
              case rel => exact ⟨k + 1, m + 1, by omega, by go_num, by go_num, by omega, Lib.hid (by rw [HN.out, HR.out]), hb.out⟩
              case measure => simp [intOf]; omega
            · have HN : Hid (grpO true ps = none) := Lib.hid (grpO_bad HDR.out (by
                rw [HG1.out, HHX.out]
                have : (decide (1 ≤ x.size) && decide (x.size ≤ 4)) = false := by rw [Bool.and_eq_false_iff, decide_eq_false_iff_not, decide_eq_false_iff_not]; omega
                rw [this]; rfl))
              rcases Nat.lt_or_ge x.size 1 with hl | hl
              · have q1 : (x.size : Int) < 1 := by omega
                clear hle
                go_wp2_with fail
                go_ret
                exact ⟨ret_bool (by rw [HV.out, HN.out]; rfl), bseq HB1.out hb.out⟩
              · have q1 : decide ((x.size : Int) < 1) = false := decide_eq_false (by omega)
                have q2 : (4 : Int) < (x.size : Int) := by omega
                clear hle
                go_wp2_with fail
                go_ret
                exact ⟨ret_bool (by rw [HV.out, HN.out]; rfl), bseq HB1.out hb.out⟩
    · obtain rfl : k = ps.length := by omega
      have HN : Hid (grpO true ps = some m) := Lib.hid (by rw [hgr.out, List.drop_length]; simp [grpO])
      have HN2 : Hid (wholeL s.data.toList = ((m : Int) == 8)) := Lib.hid (by
        rw [HV.out, HN.out, Bool.eq_iff_iff]
        simp only [beq_iff_eq, Option.some.injEq]
        omega)
      have g1 : decide ((ps.length : Int) < (ps.length : Int)) = false := decide_eq_false (by omega)
      go_wp2_with fail
      go_ret
      exact ⟨ret_bool HN2.out.symm, bseq HB1.out hb.out⟩
end Go.Proofs.YthhpijmkhhdhhaaDoor
