/- The reference's Under. -/
import Derived.Test.YthhpijmkhhdhhaaDoorHUnder
namespace Go.Proofs.YthhpijmkhhdhhaaDoor
open Go.RowKit
set_option linter.unusedVariables false
set_option linter.unusedSimpArgs false

theorem ends_len (a b : List UInt8) (h : a.length = b.length) : endsL a b = (a == b) := by
  unfold endsL
  have : Lib.hasSuffix a (46 :: b) = false := by
    rw [Bool.eq_false_iff]
    intro hs
    obtain ⟨x, hx⟩ := (suffix_iff _ _).1 hs
    have := congrArg List.length hx
    simp at this
    omega
  rw [this, Bool.or_false]
theorem ends_short (a b : List UInt8) (h : a.length < b.length) : endsL a b = false := by
  rw [Bool.eq_false_iff]
  intro hs
  rcases (ends_iff a b).1 hs with rfl | ⟨x, rfl⟩
  · omega
  · simp at h; omega
theorem ends_long (A B : ByteArray) (d : Nat) (hd : A.size = B.size + d) (h : 0 < d) : endsL A.data.toList B.data.toList = (((A.extract d A.size).toList == B.toList) && ((A[d - 1]'(by omega)).toNat == 46)) := by
  have hl : A.data.toList.length = B.data.toList.length + d := by rw [← Lib.size_eq, ← Lib.size_eq]; exact hd
  have hex : (A.extract d A.size).toList = A.data.toList.drop d := by rw [Lib.toList_data, extract_tail]
  rw [hex, Lib.toList_data]
  have hdr : A.data.toList.drop (d - 1) = A[d - 1]'(by omega) :: A.data.toList.drop d := by
    have := drop_cons A (d - 1) (by omega)
    rw [show d - 1 + 1 = d by omega] at this
    exact this
  rw [Bool.eq_iff_iff, ends_iff, Bool.and_eq_true, beq_iff_eq, beq_iff_eq]
  constructor
  · rintro (h1 | ⟨x, h1⟩)
    · rw [h1] at hl; omega
    · have hx : x.length = d - 1 := by
        have := congrArg List.length h1
        simp at this
        omega
      have h2 : A.data.toList.drop (d - 1) = 46 :: B.data.toList := by rw [h1, List.drop_left' hx]
      rw [hdr] at h2
      injection h2 with h3 h4
      exact ⟨h4, by rw [h3]; rfl⟩
  · rintro ⟨h1, h2⟩
    right
    refine ⟨A.data.toList.take (d - 1), ?_⟩
    have h3 : A[d - 1]'(by omega) = 46 := UInt8.toNat_inj.1 h2
    rw [h3, h1] at hdr
    rw [← hdr, List.take_append_drop]

set_option maxRecDepth 100000 in
set_option maxHeartbeats 2000000 in
theorem rUnder_any (a b : ByteArray) (w : World) (ha : a.size ≤ 10000) (hb : b.size ≤ 10000) :
    Calls Tryd.prog 54 #[.string a, .string b] w fun e w' => e = .returned (.bool (underL a.data.toList b.data.toList)) ∧ Below w.heap.size w w' := by
  have NA := Lib.hid (fun W => rName_any a W (by omega))
  have NB := Lib.hid (fun W => rName_any b W (by omega))
  have FA := Lib.hid (fun W => rFour_any a W (by omega))
  have FB := Lib.hid (fun W => rFour_any b W (by omega))
  have DA := Lib.hid (fun W => rFold_any a W (by unfold maxLen; omega))
  have DB := Lib.hid (fun W => rFold_any b W (by unfold maxLen; omega))
  have hv : underL a.data.toList b.data.toList = ((nameL a.data.toList && nameL b.data.toList && !fourL a.data.toList && !fourL b.data.toList) && endsL (foldL a.data.toList) (foldL b.data.toList)) := rfl
  obtain ⟨A, hA, hAd⟩ : ∃ A : ByteArray, (⟨(foldL a.data.toList).toArray⟩ : ByteArray) = A ∧ A.data.toList = foldL a.data.toList := ⟨_, rfl, rfl⟩
  obtain ⟨B, hB, hBd⟩ : ∃ B : ByteArray, (⟨(foldL b.data.toList).toArray⟩ : ByteArray) = B ∧ B.data.toList = foldL b.data.toList := ⟨_, rfl, rfl⟩
  have hAs : A.size ≤ 10000 := by rw [Lib.size_eq, hAd, foldL_len, ← Lib.size_eq]; exact ha
  have hBs : B.size ≤ 10000 := by rw [Lib.size_eq, hBd, foldL_len, ← Lib.size_eq]; exact hb
  rw [hA] at DA
  rw [hB] at DB
  rw [← hAd, ← hBd] at hv
  obtain ⟨na, hna⟩ : ∃ na, nameL a.data.toList = na := ⟨_, rfl⟩
  obtain ⟨nb, hnb⟩ : ∃ nb, nameL b.data.toList = nb := ⟨_, rfl⟩
  obtain ⟨fa, hfa⟩ : ∃ fa, fourL a.data.toList = fa := ⟨_, rfl⟩
  obtain ⟨fb, hfb⟩ : ∃ fb, fourL b.data.toList = fb := ⟨_, rfl⟩
  rw [hna] at NA hv
  rw [hnb] at NB hv
  rw [hfa] at FA hv
  rw [hfb] at FB hv
  have HV := Lib.hid hv
  clear hv hA hAd hB hBd hna hnb hfa hfb
  go_enter Tryd.func54, Tryd.ntmps54
  go_upto_region 1 with fail
  go_cut [23] (fun t wx => t = .bool (!na || !nb || fa || fb) ∧ Below w.heap.size w wx)
  case first =>
    cases na with
    | false =>
      go_wp2_with fail
      (refine (NA.out _).mono ?_; rintro e w' ⟨rfl, rfl⟩; go_wp2_with fail)
      go_meet
      exact ⟨rfl, Below.refl _ _⟩
    | true =>
      cases nb with
      | false =>
        go_wp2_with fail
        (refine (NA.out _).mono ?_; rintro e w' ⟨rfl, rfl⟩; go_wp2_with fail)
        (refine (NB.out _).mono ?_; rintro e w' ⟨rfl, rfl⟩; go_wp2_with fail)
        go_meet
        exact ⟨rfl, Below.refl _ _⟩
      | true =>
        cases fa with
        | true =>
          go_wp2_with fail
          (refine (NA.out _).mono ?_; rintro e w' ⟨rfl, rfl⟩; go_wp2_with fail)
          (refine (NB.out _).mono ?_; rintro e w' ⟨rfl, rfl⟩; go_wp2_with fail)
          refine (FA.out _).mono ?_
          rintro e w3 ⟨rfl, hw3⟩
          have HB3 := Lib.hid hw3; clear hw3
          go_wp2_with fail
          go_meet
          exact ⟨rfl, HB3.out⟩
        | false =>
          go_wp2_with fail
          (refine (NA.out _).mono ?_; rintro e w' ⟨rfl, rfl⟩; go_wp2_with fail)
          (refine (NB.out _).mono ?_; rintro e w' ⟨rfl, rfl⟩; go_wp2_with fail)
          refine (FA.out _).mono ?_
          rintro e w3 ⟨rfl, hw3⟩
          have HB3 := Lib.hid hw3; clear hw3
          go_wp2_with fail
          refine (FB.out _).mono ?_
          rintro e w4 ⟨rfl, hw4⟩
          have HB4 := Lib.hid (bseq HB3.out hw4); clear hw4
          go_wp2_with fail
          go_meet
          exact ⟨by cases fb <;> rfl, HB4.out⟩
  case rest =>
    obtain ⟨rfl, hbc⟩ := hcut
    have HB0 := Lib.hid hbc; clear hbc NA NB FA FB
    cases hbad : (!na || !nb || fa || fb) with
    | true =>
      have HN : Hid (underL a.data.toList b.data.toList = false) := Lib.hid (by
        rw [HV.out]
        cases na <;> cases nb <;> cases fa <;> cases fb <;> simp_all)
      clear hbad
      go_wp2_with fail
      go_ret
      exact ⟨ret_bool HN.out.symm, HB0.out⟩
    | false =>
      have HN : Hid (underL a.data.toList b.data.toList = endsL A.data.toList B.data.toList) := Lib.hid (by
        rw [HV.out]
        cases na <;> cases nb <;> cases fa <;> cases fb <;> simp_all)
      clear hbad HV
      rcases Nat.lt_trichotomy A.size B.size with hlt | heq | hgt
      · have HE : Hid (endsL A.data.toList B.data.toList = false) := Lib.hid (ends_short _ _ (by rw [← Lib.size_eq, ← Lib.size_eq]; exact hlt))
        obtain ⟨d, hd⟩ : ∃ d : Int, (A.size : Int) - (B.size : Int) = d := ⟨_, rfl⟩
        have g0 : IntKind.i64.wrap ((A.size : Int) - (B.size : Int)) = d := by rw [IntWalk.i64_in _ (by omega)]; exact hd
        have g1 : (d == 0) = false := by rw [beq_eq_false_iff_ne]; omega
        have g2 : decide (0 < d) = false := decide_eq_false (by omega)
        clear hd hlt
        go_wp2_with fail
        refine (DA.out _).mono ?_
        rintro e w5 ⟨rfl, hw5⟩
        have HB5 := Lib.hid (bseq HB0.out hw5); clear hw5
        go_wp2_with fail
        refine (DB.out _).mono ?_
        rintro e w6 ⟨rfl, hw6⟩
        have HB6 := Lib.hid (bseq HB5.out hw6); clear hw6
        go_wp2_with fail
        go_ret
        exact ⟨ret_bool (by rw [HN.out, HE.out]), HB6.out⟩
      · have HE : Hid (endsL A.data.toList B.data.toList = (A.toList == B.toList)) := Lib.hid (by rw [ends_len _ _ (by rw [← Lib.size_eq, ← Lib.size_eq]; exact heq), Lib.toList_data, Lib.toList_data])
        have g0 : IntKind.i64.wrap ((A.size : Int) - (B.size : Int)) = 0 := by rw [IntWalk.i64_in _ (by omega)]; omega
        cases hab : (A.toList == B.toList) with
        | true =>
          have HM : Hid ((A.toList == B.toList) = true) := Lib.hid hab
          clear heq
          go_wp2_with fail
          refine (DA.out _).mono ?_
          rintro e w5 ⟨rfl, hw5⟩
          have HB5 := Lib.hid (bseq HB0.out hw5); clear hw5
          go_wp2_with fail
          refine (DB.out _).mono ?_
          rintro e w6 ⟨rfl, hw6⟩
          have HB6 := Lib.hid (bseq HB5.out hw6); clear hw6
          go_wp2_with fail
          go_ret
          exact ⟨ret_bool (by rw [HN.out, HE.out, HM.out]), HB6.out⟩
        | false =>
          have HM : Hid ((A.toList == B.toList) = false) := Lib.hid hab
          clear heq
          go_wp2_with fail
          refine (DA.out _).mono ?_
          rintro e w5 ⟨rfl, hw5⟩
          have HB5 := Lib.hid (bseq HB0.out hw5); clear hw5
          go_wp2_with fail
          refine (DB.out _).mono ?_
          rintro e w6 ⟨rfl, hw6⟩
          have HB6 := Lib.hid (bseq HB5.out hw6); clear hw6
          go_wp2_with fail
          go_ret
          exact ⟨ret_bool (by rw [HN.out, HE.out, HM.out]), HB6.out⟩
      · obtain ⟨k, hk⟩ : ∃ k, A.size - B.size = k := ⟨_, rfl⟩
        have hE := ends_long A B k (by omega) (by omega)
        obtain ⟨j, hj⟩ : ∃ j, k - 1 = j := ⟨_, rfl⟩
        have hjA : j < A.size := by omega
        have hE2 : endsL A.data.toList B.data.toList = (((A.extract k A.size).toList == B.toList) && ((A[j].toNat : Int) == 46)) := by
          rw [hE]
          congr 1
          have : A[k - 1]'(by omega) = A[j] := by congr 1
          rw [this, Bool.eq_iff_iff]
          simp only [beq_iff_eq]
          omega
        obtain ⟨x, hx⟩ : ∃ x, A.extract k A.size = x := ⟨_, rfl⟩
        rw [hx] at hE2
        have HE := Lib.hid hE2
        have g0 : IntKind.i64.wrap ((A.size : Int) - (B.size : Int)) = (k : Int) := by rw [IntWalk.i64_in _ (by omega)]; omega
        have g1 : ((k : Int) == 0) = false := by rw [beq_eq_false_iff_ne]; omega
        have g2 : (0 : Int) < (k : Int) := by omega
        have g3 : (k : Int) ≤ (A.size : Int) := by omega
        have g4 : k ≤ A.size := by omega
        have g5 : IntKind.i64.wrap ((k : Int) - 1) = (j : Int) := by rw [IntWalk.i64_in _ (by omega)]; omega
        have g6 : (j : Int) < (A.size : Int) := by omega
        obtain ⟨c, hc⟩ : ∃ c, ((A[j].toNat : Int) == 46) = c := ⟨_, rfl⟩
        rw [hc] at HE
        have HCC := Lib.hid hc
        clear hE hE2 hgt hk hj
        cases hab : (x.toList == B.toList) with
        | true =>
          have HM : Hid ((x.toList == B.toList) = true) := Lib.hid hab
          go_wp2_with fail
          refine (DA.out _).mono ?_
          rintro e w5 ⟨rfl, hw5⟩
          have HB5 := Lib.hid (bseq HB0.out hw5); clear hw5
          go_wp2_with fail
          refine (DB.out _).mono ?_
          rintro e w6 ⟨rfl, hw6⟩
          have HB6 := Lib.hid (bseq HB5.out hw6); clear hw6
          go_wp2_with fail
          go_ret
          exact ⟨ret_bool (by rw [HN.out, HE.out, HM.out]; first | rfl | simp), HB6.out⟩
        | false =>
          have HM : Hid ((x.toList == B.toList) = false) := Lib.hid hab
          go_wp2_with fail
          refine (DA.out _).mono ?_
          rintro e w5 ⟨rfl, hw5⟩
          have HB5 := Lib.hid (bseq HB0.out hw5); clear hw5
          go_wp2_with fail
          refine (DB.out _).mono ?_
          rintro e w6 ⟨rfl, hw6⟩
          have HB6 := Lib.hid (bseq HB5.out hw6); clear hw6
          go_wp2_with fail
          go_ret
          exact ⟨ret_bool (by rw [HN.out, HE.out, HM.out]; first | rfl | simp), HB6.out⟩

end Go.Proofs.YthhpijmkhhdhhaaDoor
