/- hostport.Under, the reference's Under. -/
import Derived.Test.YthhpijmkhhdhhaaDoorHParseR
import Derived.Test.YthhpijmkhhdhhaaDoorFold
import Derived.Test.YthhpijmkhhdhhaaDoorRFold
namespace Go.Proofs.YthhpijmkhhdhhaaDoor
open Go.RowKit
set_option linter.unusedVariables false
set_option linter.unusedSimpArgs false

/-- Does one folded text end with another one behind a dot, or is it that? -/
def endsL (a b : List UInt8) : Bool := (a == b) || Lib.hasSuffix a (46 :: b)
def domL (l : List UInt8) : Bool := nameL l && !fourL l
def underL (a b : List UInt8) : Bool := (nameL a && nameL b && !fourL a && !fourL b) && endsL (foldL a) (foldL b)

theorem suffix_iff (a b : List UInt8) : Lib.hasSuffix a b = true ↔ ∃ x, a = x ++ b := by
  unfold Lib.hasSuffix
  rw [List.isSuffixOf_iff_suffix]
  constructor
  · rintro ⟨x, h⟩; exact ⟨x, h.symm⟩
  · rintro ⟨x, h⟩; exact ⟨x, h.symm⟩
theorem ends_iff (a b : List UInt8) : endsL a b = true ↔ a = b ∨ ∃ x, a = x ++ 46 :: b := by
  unfold endsL
  rw [Bool.or_eq_true, suffix_iff, beq_iff_eq]
theorem ends_trans {a b c : List UInt8} (h1 : endsL a b = true) (h2 : endsL b c = true) : endsL a c = true := by
  rw [ends_iff] at h1 h2 ⊢
  rcases h1 with rfl | ⟨x, rfl⟩
  · exact h2
  · rcases h2 with rfl | ⟨y, rfl⟩
    · exact .inr ⟨x, rfl⟩
    · exact .inr ⟨x ++ 46 :: y, by simp⟩
theorem under_trans {a b c : List UInt8} (h1 : underL a b = true) (h2 : underL b c = true) : underL a c = true := by
  unfold underL at h1 h2 ⊢
  simp only [Bool.and_eq_true] at h1 h2 ⊢
  exact ⟨⟨⟨⟨h1.1.1.1.1, h2.1.1.1.2⟩, h1.1.1.2⟩, h2.1.2⟩, ends_trans h1.2 h2.2⟩
theorem under_self (a : List UInt8) : underL a a = (nameL a && !fourL a) := by
  unfold underL endsL
  rw [beq_self_eq_true, Bool.true_or, Bool.and_true]
  cases nameL a <;> cases fourL a <;> rfl
theorem foldL_len (l : List UInt8) : (foldL l).length = l.length := by simp [foldL]

def mkF (l : List UInt8) : ByteArray := ⟨(foldL l).toArray⟩

set_option maxRecDepth 100000 in
set_option maxHeartbeats 2000000 in
theorem pUnder_any (a b : ByteArray) (w : World) (ha : a.size ≤ 10000) (hb : b.size ≤ 10000) (hP : PowAt w) :
    Calls Tryd.prog 53 #[.string a, .string b] w fun e w' => e = .returned (.bool (underL a.data.toList b.data.toList)) ∧ Below w.heap.size w w' := by
  have HP := Lib.hid hP; clear hP
  have NA := Lib.hid (fun W => pName_any a W (by omega))
  have NB := Lib.hid (fun W => pName_any b W (by omega))
  have FA := Lib.hid (fun W h => four_any a W (by omega) h)
  have FB := Lib.hid (fun W h => four_any b W (by omega) h)
  have DA := Lib.hid (fun W => fold_any a W (by unfold maxLen; omega))
  have DB := Lib.hid (fun W => fold_any b W (by unfold maxLen; omega))
  have hv : underL a.data.toList b.data.toList = ((nameL a.data.toList && nameL b.data.toList && !fourL a.data.toList && !fourL b.data.toList) && endsL (foldL a.data.toList) (foldL b.data.toList)) := rfl
  obtain ⟨A, hA, hAd⟩ : ∃ A : ByteArray, (⟨(foldL a.data.toList).toArray⟩ : ByteArray) = A ∧ A.data.toList = foldL a.data.toList := ⟨_, rfl, rfl⟩
  obtain ⟨B, hB, hBd⟩ : ∃ B : ByteArray, (⟨(foldL b.data.toList).toArray⟩ : ByteArray) = B ∧ B.data.toList = foldL b.data.toList := ⟨_, rfl, rfl⟩
  have hAs : A.size ≤ 10000 := by rw [Lib.size_eq, hAd, foldL_len, ← Lib.size_eq]; exact ha
  have hBs : B.size ≤ 10000 := by rw [Lib.size_eq, hBd, foldL_len, ← Lib.size_eq]; exact hb
  rw [hA] at DA
  rw [hB] at DB
  rw [← hAd, ← hBd] at hv
  obtain ⟨na, hna⟩ : ∃ na, nameL a.data.toList = na := ⟨_, rfl⟩
  obtain ⟨nb, hnb⟩ : ∃ nb, nameL b.data.toList = nb := ⟨_, rfl⟩
  obtain ⟨fa, hfa⟩ : ∃ fa, fourL a.data.toList = fa := ⟨_, rfl⟩
  obtain ⟨fb, hfb⟩ : ∃ fb, fourL b.data.toList = fb := ⟨_, rfl⟩
  rw [hna] at NA hv
  rw [hnb] at NB hv
  rw [hfa] at FA hv
  rw [hfb] at FB hv
  have HV := Lib.hid hv
  have q1 : (⟨#[46]⟩ : ByteArray).size + B.size ≤ 9223372036854775807 := by show 1 + B.size ≤ _; omega
  have SX := Lib.hid (fun W => Tryd.strings_HasSuffix A (⟨#[46]⟩ ++ B) W (by omega))
  rw [show (⟨#[46]⟩ ++ B : ByteArray).data.toList = 46 :: B.data.toList by simp [ByteArray.data_append]] at SX
  have he : endsL A.data.toList B.data.toList = ((A.toList == B.toList) || Lib.hasSuffix A.data.toList (46 :: B.data.toList)) := by unfold endsL; rw [Lib.toList_data, Lib.toList_data]
  obtain ⟨sx, hsx⟩ : ∃ sx, Lib.hasSuffix A.data.toList (46 :: B.data.toList) = sx := ⟨_, rfl⟩
  rw [hsx] at SX he
  obtain ⟨en, hen⟩ : ∃ en, endsL A.data.toList B.data.toList = en := ⟨_, rfl⟩
  rw [hen] at he
  have HE := Lib.hid he; have HEN := Lib.hid hen
  clear hv hA hAd hB hBd hna hnb hfa hfb he hsx hen
  cases na with
  | false =>
    have HN : Hid (underL a.data.toList b.data.toList = false) := Lib.hid (by rw [HV.out]; rfl)
    go_enter Tryd.func53, Tryd.ntmps53
    go_wp2_with fail
    refine (NA.out _).mono ?_
    rintro e w1 ⟨rfl, hw1⟩
    have HB1 := Lib.hid hw1; clear hw1
    go_wp2_with fail
    go_ret
    exact ⟨ret_bool HN.out.symm, HB1.out⟩
  | true =>
    cases nb with
    | false =>
      have HN : Hid (underL a.data.toList b.data.toList = false) := Lib.hid (by rw [HV.out]; rfl)
      go_enter Tryd.func53, Tryd.ntmps53
      go_wp2_with fail
      refine (NA.out _).mono ?_
      rintro e w1 ⟨rfl, hw1⟩
      have HB1 := Lib.hid hw1; clear hw1
      go_wp2_with fail
      refine (NB.out _).mono ?_
      rintro e w2 ⟨rfl, hw2⟩
      have HB2 := Lib.hid (bseq HB1.out hw2); clear hw2
      go_wp2_with fail
      go_ret
      exact ⟨ret_bool HN.out.symm, HB2.out⟩
    | true =>
      cases fa with
      | true =>
        have HN : Hid (underL a.data.toList b.data.toList = false) := Lib.hid (by rw [HV.out]; rfl)
        go_enter Tryd.func53, Tryd.ntmps53
        go_wp2_with fail
        refine (NA.out _).mono ?_
        rintro e w1 ⟨rfl, hw1⟩
        have HB1 := Lib.hid hw1; clear hw1
        go_wp2_with fail
        refine (NB.out _).mono ?_
        rintro e w2 ⟨rfl, hw2⟩
        have HB2 := Lib.hid (bseq HB1.out hw2); clear hw2
        go_wp2_with fail
        refine (FA.out _ (powAt_below HP.out HB2.out)).mono ?_
        rintro e w3 ⟨rfl, hw3⟩
        have HB3 := Lib.hid (bseq HB2.out hw3); clear hw3
        go_wp2_with fail
        go_ret
        exact ⟨ret_bool HN.out.symm, HB3.out⟩
      | false =>
        cases fb with
        | true =>
          have HN : Hid (underL a.data.toList b.data.toList = false) := Lib.hid (by rw [HV.out]; rfl)
          go_enter Tryd.func53, Tryd.ntmps53
          go_wp2_with fail
          refine (NA.out _).mono ?_
          rintro e w1 ⟨rfl, hw1⟩
          have HB1 := Lib.hid hw1; clear hw1
          go_wp2_with fail
          refine (NB.out _).mono ?_
          rintro e w2 ⟨rfl, hw2⟩
          have HB2 := Lib.hid (bseq HB1.out hw2); clear hw2
          go_wp2_with fail
          refine (FA.out _ (powAt_below HP.out HB2.out)).mono ?_
          rintro e w3 ⟨rfl, hw3⟩
          have HB3 := Lib.hid (bseq HB2.out hw3); clear hw3
          go_wp2_with fail
          refine (FB.out _ (powAt_below HP.out HB3.out)).mono ?_
          rintro e w4 ⟨rfl, hw4⟩
          have HB4 := Lib.hid (bseq HB3.out hw4); clear hw4
          go_wp2_with fail
          go_ret
          exact ⟨ret_bool HN.out.symm, HB4.out⟩
        | false =>
          have HN : Hid (underL a.data.toList b.data.toList = en) := Lib.hid (by rw [HV.out, HEN.out]; rfl)
          cases hab : (A.toList == B.toList) with
          | true =>
            have HM : Hid (en = true) := Lib.hid (by rw [HE.out, hab]; rfl)
            go_enter Tryd.func53, Tryd.ntmps53
            go_wp2_with fail
            refine (NA.out _).mono ?_
            rintro e w1 ⟨rfl, hw1⟩
            have HB1 := Lib.hid hw1; clear hw1
            go_wp2_with fail
            refine (NB.out _).mono ?_
            rintro e w2 ⟨rfl, hw2⟩
            have HB2 := Lib.hid (bseq HB1.out hw2); clear hw2
            go_wp2_with fail
            refine (FA.out _ (powAt_below HP.out HB2.out)).mono ?_
            rintro e w3 ⟨rfl, hw3⟩
            have HB3 := Lib.hid (bseq HB2.out hw3); clear hw3
            go_wp2_with fail
            refine (FB.out _ (powAt_below HP.out HB3.out)).mono ?_
            rintro e w4 ⟨rfl, hw4⟩
            have HB4 := Lib.hid (bseq HB3.out hw4); clear hw4
            go_wp2_with fail
            refine (DA.out _).mono ?_
            rintro e w5 ⟨rfl, hw5⟩
            have HB5 := Lib.hid (bseq HB4.out hw5); clear hw5
            go_wp2_with fail
            refine (DB.out _).mono ?_
            rintro e w6 ⟨rfl, hw6⟩
            have HB6 := Lib.hid (bseq HB5.out hw6); clear hw6
            go_wp2_with fail
            go_ret
            exact ⟨ret_bool (by rw [HN.out, HM.out]), HB6.out⟩
          | false =>
            have HM : Hid (en = sx) := Lib.hid (by rw [HE.out, hab]; rfl)
            go_enter Tryd.func53, Tryd.ntmps53
            go_wp2_with fail
            refine (NA.out _).mono ?_
            rintro e w1 ⟨rfl, hw1⟩
            have HB1 := Lib.hid hw1; clear hw1
            go_wp2_with fail
            refine (NB.out _).mono ?_
            rintro e w2 ⟨rfl, hw2⟩
            have HB2 := Lib.hid (bseq HB1.out hw2); clear hw2
            go_wp2_with fail
            refine (FA.out _ (powAt_below HP.out HB2.out)).mono ?_
            rintro e w3 ⟨rfl, hw3⟩
            have HB3 := Lib.hid (bseq HB2.out hw3); clear hw3
            go_wp2_with fail
            refine (FB.out _ (powAt_below HP.out HB3.out)).mono ?_
            rintro e w4 ⟨rfl, hw4⟩
            have HB4 := Lib.hid (bseq HB3.out hw4); clear hw4
            go_wp2_with fail
            refine (DA.out _).mono ?_
            rintro e w5 ⟨rfl, hw5⟩
            have HB5 := Lib.hid (bseq HB4.out hw5); clear hw5
            go_wp2_with fail
            refine (DB.out _).mono ?_
            rintro e w6 ⟨rfl, hw6⟩
            have HB6 := Lib.hid (bseq HB5.out hw6); clear hw6
            go_wp2_with fail
            refine (SX.out _).mono ?_
            rintro e w7 ⟨rfl, hw7⟩
            subst hw7
            go_wp2_with fail
            go_ret
            exact ⟨ret_bool (by rw [HN.out, HM.out]), HB6.out⟩

end Go.Proofs.YthhpijmkhhdhhaaDoor
