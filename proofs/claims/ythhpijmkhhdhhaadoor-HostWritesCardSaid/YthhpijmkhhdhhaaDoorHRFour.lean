/- The reference's Small, Four. -/
import Derived.Test.YthhpijmkhhdhhaaDoorHPure
import Derived.Test.YthhpijmkhhdhhaaDoorDotsW
namespace Go.Proofs.YthhpijmkhhdhhaaDoor
open Go.RowKit
set_option linter.unusedVariables false
set_option linter.unusedSimpArgs false

theorem clsB10 : clsB 10 = bDigit := rfl

set_option maxRecDepth 100000 in
theorem rSmall_any (s : ByteArray) (most : Int) (w : World) (hs : s.size ≤ 1000000) (hm0 : 0 ≤ most) (hm1 : most ≤ 99999) :
    Calls Tryd.prog 81 #[.string s, .int .i64 most] w fun e w' => e = .returned (.int .i64 (smallV most s.data.toList)) ∧ Below w.heap.size w w' := by
  have hlen := smallL_len most hm1 s.data.toList
  rw [← Lib.size_eq] at hlen
  have hsl : smallL most s.data.toList = ((readE bDigit 10 most s.data.toList == 0) && (textB 10 (readV bDigit 10 most s.data.toList) == s.data.toList)) := rfl
  have hsv : smallV most s.data.toList = if smallL most s.data.toList then readV bDigit 10 most s.data.toList else -1 := rfl
  by_cases h5 : 5 < s.size
  · have HV : Hid (smallV most s.data.toList = -1) := Lib.hid (by
      rw [hsv]
      cases h : smallL most s.data.toList with
      | true => have := hlen h; omega
      | false => rfl)
    have g1 : (5 : Int) < (s.size : Int) := by omega
    clear hlen hsl hsv
    go_enter Tryd.func81, Tryd.ntmps81
    go_wp2_with fail
    go_ret
    exact ⟨ret_int HV.out.symm, Below.refl _ _⟩
  · have g1 : decide ((5 : Int) < (s.size : Int)) = false := decide_eq_false (by omega)
    have RD := Lib.hid (rRead_any 10 (.inl rfl) s most w hs (by omega) (by omega))
    unfold ReadPost at RD
    rw [clsB10] at RD
    have hr := readV_range most s.data.toList
    obtain ⟨ee, hee⟩ : ∃ ee, readE bDigit 10 most s.data.toList = ee := ⟨_, rfl⟩
    obtain ⟨v, hv⟩ : ∃ v, readV bDigit 10 most s.data.toList = v := ⟨_, rfl⟩
    rw [show ((10 : Nat) : Int) = 10 from rfl, hee, hv] at RD
    rw [hee, hv] at hr hsl
    rw [hv] at hsv
    have HR := Lib.hid hr; have HSL := Lib.hid hsl; have HSV := Lib.hid hsv; clear hr hsl hsv hee hv hlen h5
    by_cases h0 : ee = 0
    · subst h0
      obtain ⟨r0, r1⟩ := HR.out rfl
      obtain ⟨T, hT⟩ : ∃ T, (⟨(textB 10 v).toArray⟩ : ByteArray) = T := ⟨_, rfl⟩
      have hTd : T.data.toList = textB 10 v := by rw [← hT]
      have TX := Lib.hid (fun w' => rText3_any 10 (.inl rfl) v w' (by omega))
      rw [hT, show ((10 : Nat) : Int) = 10 from rfl] at TX
      obtain ⟨b, hb⟩ : ∃ b, (T.toList == s.toList) = b := ⟨_, rfl⟩
      have HV : Hid (smallV most s.data.toList = if b then v else -1) := Lib.hid (by
        rw [HSV.out, HSL.out, ← hb, Lib.toList_data, Lib.toList_data, hTd]; simp)
      clear hT hTd
      cases b with
      | true =>
        go_enter Tryd.func81, Tryd.ntmps81
        go_wp2_with fail
        refine RD.out.mono ?_
        rintro e w1 ⟨rfl, hb1⟩
        have HB1 := Lib.hid hb1; clear hb1
        go_wp2_with fail
        refine (TX.out _).mono ?_
        rintro e w2 ⟨rfl, hb2⟩
        have HB2 := Lib.hid (bseq HB1.out hb2); clear hb2
        go_wp2_with fail
        go_ret
        exact ⟨ret_int (by rw [HV.out]; rfl), HB2.out⟩
      | false =>
        go_enter Tryd.func81, Tryd.ntmps81
        go_wp2_with fail
        refine RD.out.mono ?_
        rintro e w1 ⟨rfl, hb1⟩
        have HB1 := Lib.hid hb1; clear hb1
        go_wp2_with fail
        refine (TX.out _).mono ?_
        rintro e w2 ⟨rfl, hb2⟩
        have HB2 := Lib.hid (bseq HB1.out hb2); clear hb2
        go_wp2_with fail
        go_ret
        exact ⟨ret_int (by rw [HV.out]; rfl), HB2.out⟩
    · have h0' : (ee == 0) = false := by simpa using h0
      have HV : Hid (smallV most s.data.toList = -1) := Lib.hid (by rw [HSV.out, HSL.out, h0']; rfl)
      go_enter Tryd.func81, Tryd.ntmps81
      go_wp2_with fail
      refine RD.out.mono ?_
      rintro e w1 ⟨rfl, hb1⟩
      have HB1 := Lib.hid hb1; clear hb1
      go_wp2_with fail
      go_ret
      exact ⟨ret_int HV.out.symm, HB1.out⟩

/-- Parts in a block of the call's own. -/
theorem parts_at (s : ByteArray) (n : Int) (c : UInt8) (w : World) (hs : s.size ≤ 100000) (hc : n = (c.toNat : Int)) :
    Calls Tryd.prog 31 #[.string s, .int .u8 n] w fun e w' => ∃ g cp, e = .returned (.slice (some ⟨g, 0, none⟩) (partsL c s.data.toList).length cp) ∧ Below w.heap.size w w' ∧ TextsAt w' g (partsL c s.data.toList) ∧ w.heap.size ≤ g := by
  refine (rParts_any s n c w hs hc).mono ?_
  rintro e w' ⟨v, rfl, hb, ho⟩
  have hpos : 0 < (partsL c s.data.toList).length := List.length_pos_iff.2 (partsL_ne _ _)
  obtain ⟨a, cp, rfl, hcp, _⟩ := ownS_form ho
  obtain ⟨g, rfl, hg, ht⟩ := textsAt_own ho hpos
  exact ⟨g, cp, rfl, hb, ht, hg⟩

set_option maxRecDepth 100000 in
set_option maxHeartbeats 400000 in
theorem rFour_any (s : ByteArray) (w : World) (hs : s.size ≤ 100000) :
    Calls Tryd.prog 50 #[.string s] w fun e w' => e = .returned (.bool (fourL s.data.toList)) ∧ Below w.heap.size w w' := by
  have PT := Lib.hid (fun W => parts_at s 46 46 W hs rfl)
  have hsz := partsL_size (c := 46) s.data.toList
  have hln := partsL_len (c := 46) s.data.toList
  rw [← Lib.size_eq] at hln
  have hv : fourL s.data.toList = ((partsL 46 s.data.toList).all (smallL 255) && (partsL 46 s.data.toList).length == 4) := rfl
  obtain ⟨ps, hps⟩ : ∃ ps, partsL 46 s.data.toList = ps := ⟨_, rfl⟩
  rw [hps] at PT hsz hln hv
  have HSZ := Lib.hid hsz; have HV := Lib.hid hv; clear hsz hv hps
  go_enter Tryd.func50, Tryd.ntmps50
  go_wp2_with fail
  refine (PT.out _).mono ?_
  rintro e w1 ⟨g, cp, rfl, hb1, ht1, hg⟩
  have HB1 := Lib.hid hb1; have HT1 := Lib.hid ht1; clear hb1 ht1 PT
  go_wp2_with fail
  go_loopw [4] (fun i wr => ∃ k : Nat, k ≤ ps.length ∧ i = .int .i64 k ∧ Hid ((ps.take k).all (smallL 255) = true) ∧ Hid (Below w1.heap.size w1 wr)) (fun i _ => ps.length - (intOf i).toNat)
  case atStart => exact ⟨0, Nat.zero_le _, rfl, Lib.hid (by simp), Below.refl _ _⟩
  case round =>
    obtain ⟨k, hk, rfl, hall, hb⟩ := hrel
    by_cases hlt : k < ps.length
    · have hcell0 : wr.cell? ⟨g, k, none⟩ = some (sV ps[k]) := (textsAt_below HT1.out hb.out).2 k hlt
      have hmem : ps[k].length ≤ s.size := by have := HSZ.out _ (List.getElem_mem hlt); rw [← Lib.size_eq] at this; exact this
      obtain ⟨x, hx⟩ : ∃ x : ByteArray, (⟨ps[k].toArray⟩ : ByteArray) = x := ⟨_, rfl⟩
      have hxd : x.data.toList = ps[k] := by rw [← hx]
      have hcell : wr.cell? ⟨g, k, none⟩ = some (.string x) := by rw [hcell0, ← hx]; rfl
      clear hcell0
      have SM := Lib.hid (fun W => rSmall_any x 255 W (by rw [Lib.size_eq, hxd]; omega) (by decide) (by decide))
      have hneg := smallV_neg 255 x.data.toList
      have htk : (ps.take (k + 1)).all (smallL 255) = smallL 255 x.data.toList := by
        rw [List.take_succ_eq_append_getElem hlt, List.all_append, hall.out, hxd]; simp
      have hbad : smallL 255 x.data.toList = false → ps.all (smallL 255) = false := by
        intro h
        rw [List.all_eq_false]
        exact ⟨ps[k], List.getElem_mem hlt, by rw [← hxd, h]; simp⟩
      obtain ⟨sv, hsv⟩ : ∃ sv, smallV 255 x.data.toList = sv := ⟨_, rfl⟩
      obtain ⟨b, hbb⟩ : ∃ b, smallL 255 x.data.toList = b := ⟨_, rfl⟩
      rw [hsv] at SM hneg
      rw [hbb] at hneg htk hbad
      have HTK := Lib.hid htk; have HBAD := Lib.hid hbad
      have g1 : (k : Int) < (ps.length : Int) := by omega
      clear hxd hx hsv hbb htk hbad hmem
      cases b with
      | true =>
        go_wp2_with fail
        refine (SM.out _).mono ?_
        rintro e w2 ⟨rfl, hw2⟩
        have HB2 := Lib.hid (hb.out.trans (hw2.mono hb.out.size)); clear hw2
        go_wp2_with fail
        go_roundw
        case rel => exact ⟨k + 1, by omega, by go_num, HTK.out, HB2.out⟩
        case measure => simp [intOf]; omega
      | false =>
        have HN : Hid (fourL s.data.toList = false) := Lib.hid (by rw [HV.out, HBAD.out rfl]; rfl)
        go_wp2_with fail
        refine (SM.out _).mono ?_
        rintro e w2 ⟨rfl, hw2⟩
        have HB2 := Lib.hid (hb.out.trans (hw2.mono hb.out.size)); clear hw2
        go_wp2_with fail
        go_ret
        exact ⟨ret_bool HN.out.symm, bseq HB1.out HB2.out⟩
    · obtain rfl : k = ps.length := by omega
      have HN : Hid (fourL s.data.toList = ((ps.length : Int) == 4)) := Lib.hid (by
        rw [HV.out]
        have := hall.out
        rw [List.take_length] at this
        rw [this, Bool.true_and, Bool.eq_iff_iff]
        simp only [beq_iff_eq]
        omega)
      have g1 : decide ((ps.length : Int) < (ps.length : Int)) = false := decide_eq_false (by omega)
      go_wp2_with fail
      go_ret
      exact ⟨ret_bool HN.out.symm, bseq HB1.out hb.out⟩

end Go.Proofs.YthhpijmkhhdhhaaDoor
