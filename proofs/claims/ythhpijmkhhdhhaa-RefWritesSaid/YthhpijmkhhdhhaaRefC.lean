/- uriref.well. -/
import Derived.Test.YthhpijmkhhdhhaaRefA
namespace Go.Proofs.Ythhpijmkhhdhhaa
open Go.RowKit
set_option linter.unusedVariables false
set_option linter.unusedSimpArgs false

theorem contains1 (s : ByteArray) (c : UInt8) (w : World) : Calls Try.prog 141 #[.string s, .string ⟨#[c]⟩] w fun e w' => e = .returned (.bool (s.data.toList.contains c)) ∧ w = w' := by
  refine (Try.strings_Contains_one s c w).mono ?_
  rintro e w' ⟨rfl, rfl⟩
  rw [Lib.contains_iff_indexByte]
  exact ⟨rfl, rfl⟩

set_option maxHeartbeats 4000000 in
set_option maxRecDepth 1000000 in
theorem well_any (r : RefB) (w : World) (hA : r.A.size ≤ 100000) (hP : r.Pa.size ≤ 100000) (hQ : r.Q.size ≤ 100000) (hF : r.F.size ≤ 100000) :
    Calls Try.prog 125 #[r.val] w fun e w' => e = .returned (.bool (wellL r.toV)) ∧ Below w.heap.size w w' := by
  obtain ⟨S, A, Pa, Q, F, ha, hq, hf⟩ := r
  simp only at hA hP hQ hF
  obtain ⟨fst, hfst⟩ : ∃ fst, mkB (uptoL [47] Pa.data.toList).1 = fst := ⟨_, rfl⟩
  obtain ⟨snd, hsnd⟩ : ∃ snd, mkB (uptoL [47] Pa.data.toList).2 = snd := ⟨_, rfl⟩
  have hfd : fst.data.toList = Pa.data.toList.take (firstN [47] Pa.data.toList) := by rw [← hfst, mkB_data]; rfl
  have UP := Lib.hid (fun W => upto_mk Pa ⟨#[47]⟩ W (by omega) (by decide) (by decide) (by decide))
  rw [show (⟨#[47]⟩ : ByteArray).data.toList = [47] from rfl, hfst, hsnd] at UP
  have HFD := Lib.hid hfd; clear hfst hsnd hfd
  have B1 := Lib.hid (fun W => pBytes_any A ⟨#[91, 93]⟩ W (by omega) (by decide +kernel))
  have B2 := Lib.hid (fun W => pBytes_any Pa ⟨#[47]⟩ W (by omega) (by decide +kernel))
  have B3 := Lib.hid (fun W => pBytes_any Q ⟨#[47, 63]⟩ W (by omega) (by decide +kernel))
  have B4 := Lib.hid (fun W => pBytes_any F ⟨#[47, 63]⟩ W (by omega) (by decide +kernel))
  have C1 := Lib.hid (fun W => contains1 A 64 W)
  have C2 := Lib.hid (fun W => contains1 fst 58 W)
  have HX := Lib.hid (fun W => hasPrefixW Pa ⟨#[47, 47]⟩ W)
  rw [show (⟨#[91, 93]⟩ : ByteArray).data.toList = [91, 93] from rfl] at B1
  rw [show (⟨#[47]⟩ : ByteArray).data.toList = [47] from rfl] at B2
  rw [show (⟨#[47, 63]⟩ : ByteArray).data.toList = [47, 63] from rfl] at B3 B4
  rw [show (⟨#[47, 47]⟩ : ByteArray).data.toList = [47, 47] from rfl] at HX
  obtain ⟨p1, hp1⟩ : ∃ p1, pctL (pathQ [91, 93]) A.data.toList = p1 := ⟨_, rfl⟩
  obtain ⟨p2, hp2⟩ : ∃ p2, pctL (pathQ [47]) Pa.data.toList = p2 := ⟨_, rfl⟩
  obtain ⟨p3, hp3⟩ : ∃ p3, pctL (pathQ [47, 63]) Q.data.toList = p3 := ⟨_, rfl⟩
  obtain ⟨p4, hp4⟩ : ∃ p4, pctL (pathQ [47, 63]) F.data.toList = p4 := ⟨_, rfl⟩
  obtain ⟨k1, hk1⟩ : ∃ k1, A.data.toList.contains 64 = k1 := ⟨_, rfl⟩
  obtain ⟨k2, hk2⟩ : ∃ k2, fst.data.toList.contains 58 = k2 := ⟨_, rfl⟩
  obtain ⟨k3, hk3⟩ : ∃ k3, Lib.hasPrefix Pa.data.toList [47, 47] = k3 := ⟨_, rfl⟩
  have hv : wellL (⟨S, A, Pa, Q, F, ha, hq, hf⟩ : RefB).toV = (if (!p1 || k1 || !p2 || !p3 || !p4) then false else if ha then Pa.data.toList.isEmpty || Pa.data.toList.head? == some 47 else if k3 then false else !S.data.toList.isEmpty || !k2) := by
    unfold wellL RefB.toV
    simp only []
    rw [hp1, hp2, hp3, hp4, hk1, hk3, ← HFD.out, hk2]
  rw [hp1] at B1
  rw [hp2] at B2
  rw [hp3] at B3
  rw [hp4] at B4
  rw [hk1] at C1
  rw [hk2] at C2
  rw [hk3] at HX
  have HV := Lib.hid hv; clear hv hp1 hp2 hp3 hp4 hk1 hk2 hk3
  have HE := Lib.hid (Lib.toList_data S); have HEP := Lib.hid (Lib.toList_data Pa)
  have r1 : RefAt (w.alloc (.cells (⟨S, A, Pa, Q, F, ha, hq, hf⟩ : RefB).cells 95)) w.heap.size ⟨S, A, Pa, Q, F, ha, hq, hf⟩ := refAt_new w _
  have hb1 : Below w.heap.size w (w.alloc (.cells (⟨S, A, Pa, Q, F, ha, hq, hf⟩ : RefB).cells 95)) := (Below.refl _ _).alloc (Nat.le_refl _) _
  show Calls Try.prog 125 #[.agg #[.string S, .string A, .string Pa, .string Q, .string F, .bool ha, .bool hq, .bool hf]] w _
  go_enter Try.func125, Try.ntmps125
  go_wp2_with fail
  obtain ⟨w1, hw1⟩ : ∃ w1, w.alloc (.cells (⟨S, A, Pa, Q, F, ha, hq, hf⟩ : RefB).cells 95) = w1 := ⟨_, rfl⟩
  rw [hw1] at r1 hb1
  refine (UP.out _).mono ?_
  rintro e w2 ⟨rfl, hw2⟩
  rw [show (w.alloc (.cells #[.string S, .string A, .string Pa, .string Q, .string F, .bool ha, .bool hq, .bool hf] 95)) = w1 from hw1] at hw2
  have R2 := Lib.hid (refAt_below r1 hw2 (refAt_lt r1))
  have HB2 := Lib.hid (bseq hb1 hw2)
  clear hw1 hw2 r1 hb1
  obtain ⟨c0, c1, c2, c3, c4, c5, c6, c7⟩ := ref_cells R2.out
  go_upto_region 2 with fail
  go_cut [11] (fun c wx => c = .bool (!p1 || k1 || !p2 || !p3 || !p4) ∧ Below w.heap.size w wx ∧ RefAt wx w.heap.size ⟨S, A, Pa, Q, F, ha, hq, hf⟩)
  case first =>
    cases p1 with
    | false =>
      go_wp2_with fail
      refine (B1.out _).mono ?_
      rintro e w3 ⟨rfl, hw3⟩
      have R3 := Lib.hid (refAt_below R2.out hw3 (refAt_lt R2.out))
      have HB3 := Lib.hid (bseq HB2.out hw3)
      clear hw3 c0 c1 c2 c3 c4 c5 c6 c7
      obtain ⟨c0, c1, c2, c3, c4, c5, c6, c7⟩ := ref_cells R3.out
      go_wp2_with fail
      go_meet
      exact ⟨rfl, HB3.out, R3.out⟩
    | true =>
      cases k1 with
      | true =>
        go_wp2_with fail
        refine (B1.out _).mono ?_
        rintro e w3 ⟨rfl, hw3⟩
        have R3 := Lib.hid (refAt_below R2.out hw3 (refAt_lt R2.out))
        have HB3 := Lib.hid (bseq HB2.out hw3)
        clear hw3 c0 c1 c2 c3 c4 c5 c6 c7
        obtain ⟨c0, c1, c2, c3, c4, c5, c6, c7⟩ := ref_cells R3.out
        go_wp2_with fail
        (refine (C1.out _).mono ?_; rintro e w' ⟨rfl, rfl⟩; go_wp2_with fail)
        go_meet
        exact ⟨rfl, HB3.out, R3.out⟩
      | false =>
        cases p2 with
        | false =>
          go_wp2_with fail
          refine (B1.out _).mono ?_
          rintro e w3 ⟨rfl, hw3⟩
          have R3 := Lib.hid (refAt_below R2.out hw3 (refAt_lt R2.out))
          have HB3 := Lib.hid (bseq HB2.out hw3)
          clear hw3 c0 c1 c2 c3 c4 c5 c6 c7
          obtain ⟨c0, c1, c2, c3, c4, c5, c6, c7⟩ := ref_cells R3.out
          go_wp2_with fail
          (refine (C1.out _).mono ?_; rintro e w' ⟨rfl, rfl⟩; go_wp2_with fail)
          refine (B2.out _).mono ?_
          rintro e w4 ⟨rfl, hw4⟩
          have R4 := Lib.hid (refAt_below R3.out hw4 (refAt_lt R3.out))
          have HB4 := Lib.hid (bseq HB3.out hw4)
          clear hw4 c0 c1 c2 c3 c4 c5 c6 c7
          obtain ⟨c0, c1, c2, c3, c4, c5, c6, c7⟩ := ref_cells R4.out
          go_wp2_with fail
          go_meet
          exact ⟨rfl, HB4.out, R4.out⟩
        | true =>
          cases p3 with
          | false =>
            go_wp2_with fail
            refine (B1.out _).mono ?_
            rintro e w3 ⟨rfl, hw3⟩
            have R3 := Lib.hid (refAt_below R2.out hw3 (refAt_lt R2.out))
            have HB3 := Lib.hid (bseq HB2.out hw3)
            clear hw3 c0 c1 c2 c3 c4 c5 c6 c7
            obtain ⟨c0, c1, c2, c3, c4, c5, c6, c7⟩ := ref_cells R3.out
            go_wp2_with fail
            (refine (C1.out _).mono ?_; rintro e w' ⟨rfl, rfl⟩; go_wp2_with fail)
            refine (B2.out _).mono ?_
            rintro e w4 ⟨rfl, hw4⟩
            have R4 := Lib.hid (refAt_below R3.out hw4 (refAt_lt R3.out))
            have HB4 := Lib.hid (bseq HB3.out hw4)
            clear hw4 c0 c1 c2 c3 c4 c5 c6 c7
            obtain ⟨c0, c1, c2, c3, c4, c5, c6, c7⟩ := ref_cells R4.out
            go_wp2_with fail
            refine (B3.out _).mono ?_
            rintro e w5 ⟨rfl, hw5⟩
            have R5 := Lib.hid (refAt_below R4.out hw5 (refAt_lt R4.out))
            have HB5 := Lib.hid (bseq HB4.out hw5)
            clear hw5 c0 c1 c2 c3 c4 c5 c6 c7
            obtain ⟨c0, c1, c2, c3, c4, c5, c6, c7⟩ := ref_cells R5.out
            go_wp2_with fail
            go_meet
            exact ⟨rfl, HB5.out, R5.out⟩
          | true =>
            cases p4 with
            | false =>
              go_wp2_with fail
              refine (B1.out _).mono ?_
              rintro e w3 ⟨rfl, hw3⟩
              have R3 := Lib.hid (refAt_below R2.out hw3 (refAt_lt R2.out))
              have HB3 := Lib.hid (bseq HB2.out hw3)
              clear hw3 c0 c1 c2 c3 c4 c5 c6 c7
              obtain ⟨c0, c1, c2, c3, c4, c5, c6, c7⟩ := ref_cells R3.out
              go_wp2_with fail
              (refine (C1.out _).mono ?_; rintro e w' ⟨rfl, rfl⟩; go_wp2_with fail)
              refine (B2.out _).mono ?_
              rintro e w4 ⟨rfl, hw4⟩
              have R4 := Lib.hid (refAt_below R3.out hw4 (refAt_lt R3.out))
              have HB4 := Lib.hid (bseq HB3.out hw4)
              clear hw4 c0 c1 c2 c3 c4 c5 c6 c7
              obtain ⟨c0, c1, c2, c3, c4, c5, c6, c7⟩ := ref_cells R4.out
              go_wp2_with fail
              refine (B3.out _).mono ?_
              rintro e w5 ⟨rfl, hw5⟩
              have R5 := Lib.hid (refAt_below R4.out hw5 (refAt_lt R4.out))
              have HB5 := Lib.hid (bseq HB4.out hw5)
              clear hw5 c0 c1 c2 c3 c4 c5 c6 c7
              obtain ⟨c0, c1, c2, c3, c4, c5, c6, c7⟩ := ref_cells R5.out
              go_wp2_with fail
              refine (B4.out _).mono ?_
              rintro e w6 ⟨rfl, hw6⟩
              have R6 := Lib.hid (refAt_below R5.out hw6 (refAt_lt R5.out))
              have HB6 := Lib.hid (bseq HB5.out hw6)
              clear hw6 c0 c1 c2 c3 c4 c5 c6 c7
              obtain ⟨c0, c1, c2, c3, c4, c5, c6, c7⟩ := ref_cells R6.out
              go_wp2_with fail
              go_meet
              exact ⟨rfl, HB6.out, R6.out⟩
            | true =>
              go_wp2_with fail
              refine (B1.out _).mono ?_
              rintro e w3 ⟨rfl, hw3⟩
              have R3 := Lib.hid (refAt_below R2.out hw3 (refAt_lt R2.out))
              have HB3 := Lib.hid (bseq HB2.out hw3)
              clear hw3 c0 c1 c2 c3 c4 c5 c6 c7
              obtain ⟨c0, c1, c2, c3, c4, c5, c6, c7⟩ := ref_cells R3.out
              go_wp2_with fail
              (refine (C1.out _).mono ?_; rintro e w' ⟨rfl, rfl⟩; go_wp2_with fail)
              refine (B2.out _).mono ?_
              rintro e w4 ⟨rfl, hw4⟩
              have R4 := Lib.hid (refAt_below R3.out hw4 (refAt_lt R3.out))
              have HB4 := Lib.hid (bseq HB3.out hw4)
              clear hw4 c0 c1 c2 c3 c4 c5 c6 c7
              obtain ⟨c0, c1, c2, c3, c4, c5, c6, c7⟩ := ref_cells R4.out
              go_wp2_with fail
              refine (B3.out _).mono ?_
              rintro e w5 ⟨rfl, hw5⟩
              have R5 := Lib.hid (refAt_below R4.out hw5 (refAt_lt R4.out))
              have HB5 := Lib.hid (bseq HB4.out hw5)
              clear hw5 c0 c1 c2 c3 c4 c5 c6 c7
              obtain ⟨c0, c1, c2, c3, c4, c5, c6, c7⟩ := ref_cells R5.out
              go_wp2_with fail
              refine (B4.out _).mono ?_
              rintro e w6 ⟨rfl, hw6⟩
              have R6 := Lib.hid (refAt_below R5.out hw6 (refAt_lt R5.out))
              have HB6 := Lib.hid (bseq HB5.out hw6)
              clear hw6 c0 c1 c2 c3 c4 c5 c6 c7
              obtain ⟨c0, c1, c2, c3, c4, c5, c6, c7⟩ := ref_cells R6.out
              go_wp2_with fail
              go_meet
              exact ⟨rfl, HB6.out, R6.out⟩
  case rest =>
    obtain ⟨rfl, hb3, r3⟩ := hcut
    have R3 := Lib.hid r3; have HB3 := Lib.hid hb3
    clear r3 hb3 c0 c1 c2 c3 c4 c5 c6 c7 R2 HB2 B1 B2 B3 B4 C1 UP
    obtain ⟨bad, hbad⟩ : ∃ bad, (!p1 || k1 || !p2 || !p3 || !p4) = bad := ⟨_, rfl⟩
    rw [hbad] at HV ⊢
    clear hbad
    obtain ⟨c0, c1, c2, c3, c4, c5, c6, c7⟩ := ref_cells R3.out
    cases bad with
    | true =>
      go_wp2_with fail
      go_ret
      exact ⟨ret_bool (by rw [HV.out]; rfl), HB3.out⟩
    | false =>
      cases ha with
      | true =>
        by_cases h0 : Pa.size = 0
        · have h1 := empty_of_size Pa h0
          have h2 : Pa.toList.isEmpty = true := by rw [h1]; rfl
          have HN : Hid (Pa.data.toList = []) := Lib.hid (size0 Pa h0)
          clear h1 h0
          go_wp2_with fail
          go_ret
          exact ⟨ret_bool (by rw [HV.out, HN.out]; rfl), HB3.out⟩
        · have hpos : 0 < Pa.size := by omega
          have h1 := nonempty_of_size Pa hpos
          have hl : Pa.data.toList = Pa[0] :: Pa.data.toList.drop 1 := by
            have := drop_cons Pa 0 hpos
            simpa using this
          have g0 : (0 : Int) < (Pa.size : Int) := by omega
          have hh : (Pa.data.toList.head? == some 47) = ((Pa[0].toNat : Int) == 47) := by
            rw [hl, List.head?_cons, Bool.eq_iff_iff]
            simp only [beq_iff_eq, Option.some.injEq]
            constructor
            · intro e; rw [e]; rfl
            · intro e; exact UInt8.toNat_inj.1 (by rw [show (47 : UInt8).toNat = 47 from rfl]; omega)
          have hem : Pa.data.toList.isEmpty = false := by rw [← HEP.out]; exact h1
          have HH := Lib.hid hh; have HM := Lib.hid hem; clear hh hem hl h0
          go_wp2_with fail
          go_ret
          exact ⟨ret_bool (by rw [HV.out, HM.out, HH.out]; rfl), HB3.out⟩
      | false =>
        cases k3 with
        | true =>
          go_wp2_with fail
          (refine (HX.out _).mono ?_; rintro e w' ⟨rfl, rfl⟩; go_wp2_with fail)
          go_ret
          exact ⟨ret_bool (by rw [HV.out]; rfl), HB3.out⟩
        | false =>
          cases hse : S.toList.isEmpty with
          | false =>
            have HSE : Hid (S.data.toList.isEmpty = false) := Lib.hid (by rw [← HE.out]; exact hse)
            go_wp2_with fail
            (refine (HX.out _).mono ?_; rintro e w' ⟨rfl, rfl⟩; go_wp2_with fail)
            go_ret
            exact ⟨ret_bool (by rw [HV.out, HSE.out]; rfl), HB3.out⟩
          | true =>
            have HSE : Hid (S.data.toList.isEmpty = true) := Lib.hid (by rw [← HE.out]; exact hse)
            go_wp2_with fail
            (refine (HX.out _).mono ?_; rintro e w' ⟨rfl, rfl⟩; go_wp2_with fail)
            (refine (C2.out _).mono ?_; rintro e w' ⟨rfl, rfl⟩; go_wp2_with fail)
            go_ret
            exact ⟨ret_bool (by rw [HV.out, HSE.out]; rfl), HB3.out⟩

end Go.Proofs.Ythhpijmkhhdhhaa
