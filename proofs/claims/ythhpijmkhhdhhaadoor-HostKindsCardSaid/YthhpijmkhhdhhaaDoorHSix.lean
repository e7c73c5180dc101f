/- hostport.Six; the reference's Six. -/
import Derived.Test.YthhpijmkhhdhhaaDoorHGrp
import Derived.IntWalk
namespace Go.Proofs.YthhpijmkhhdhhaaDoor
open Go.RowKit
set_option linter.unusedVariables false
set_option linter.unusedSimpArgs false

theorem grpO_le (last : Bool) : ∀ (ps : List (List UInt8)) (n : Nat), grpO last ps = some n → n ≤ 2 * ps.length
  | [], n, h => by simp [grpO] at h; omega
  | x :: r, n, h => by
    rw [grpO] at h
    have h1 : ∀ k, grpOne last x r = some k → k ≤ 2 := by
      intro k hk
      unfold grpOne at hk
      split at hk
      · cases hk; omega
      · split at hk
        · cases hk; omega
        · cases hk
    cases hg : grpOne last x r with
    | none => rw [hg] at h; cases h
    | some k =>
      rw [hg] at h
      cases hr : grpO last r with
      | none => rw [hr] at h; cases h
      | some m =>
        rw [hr] at h
        simp at h
        have := grpO_le last r m hr
        have := h1 k hg
        simp
        omega
theorem partsE_len (l : List UInt8) : (partsE l).length ≤ l.length + 1 := by
  unfold partsE
  split
  · simp
  · exact partsL_len l

theorem cut_six (s : ByteArray) (w : World) (hs : s.size ≤ 1000000) (hM : MaxAt w) :
    Calls Tryd.prog 72 #[.string s, .string ⟨#[58, 58]⟩] w fun e w' => e = .returned (.tuple #[.string ⟨(Lib.cut s.data.toList [58, 58]).1.toArray⟩, .string ⟨(Lib.cut s.data.toList [58, 58]).2.1.toArray⟩, .bool (Lib.cut s.data.toList [58, 58]).2.2]) ∧ ∃ n, w' = w.drewN n := by
  obtain ⟨m, hm, _⟩ := hM
  exact Tryd.strings_Cut s ⟨#[58, 58]⟩ m w (by omega) hm

set_option maxRecDepth 100000 in
set_option maxHeartbeats 1000000 in
theorem pSix_any (s : ByteArray) (w : World) (hs : s.size ≤ 100000) (hM : MaxAt w) (hP : PowAt w) :
    Calls Tryd.prog 51 #[.string s] w fun e w' => e = .returned (.bool (sixL s.data.toList)) ∧ Below w.heap.size w w' := by
  have CU := Lib.hid (cut_six s w (by omega) hM)
  have HM := Lib.hid hM; have HP := Lib.hid hP; clear hM hP
  have hge := Lib.index_ge s.data.toList [58, 58]
  have hile := Lib.index_le s.data.toList [58, 58]
  rw [← Lib.size_eq] at hile
  obtain ⟨ix, hix⟩ : ∃ ix, Lib.index s.data.toList [58, 58] = ix := ⟨_, rfl⟩
  have hcut : Lib.cut s.data.toList [58, 58] = if 0 ≤ ix then (s.data.toList.take ix.toNat, s.data.toList.drop (ix.toNat + 2), true) else (s.data.toList, [], false) := by
    unfold Lib.cut; rw [hix]; rfl
  by_cases h0 : 0 ≤ ix
  · obtain ⟨i, rfl⟩ : ∃ i : Nat, ix = (i : Int) := ⟨ix.toNat, by omega⟩
    rw [if_pos h0] at hcut
    rw [hcut] at CU
    have hsx := sixL_at s.data.toList i hix
    simp only [Int.toNat_natCast] at CU
    obtain ⟨a, ha⟩ : ∃ a : ByteArray, (⟨(s.data.toList.take i).toArray⟩ : ByteArray) = a := ⟨_, rfl⟩
    obtain ⟨b, hb⟩ : ∃ b : ByteArray, (⟨(s.data.toList.drop (i + 2)).toArray⟩ : ByteArray) = b := ⟨_, rfl⟩
    have had : a.data.toList = s.data.toList.take i := by rw [← ha]
    have hbd : b.data.toList = s.data.toList.drop (i + 2) := by rw [← hb]
    rw [ha, hb] at CU
    have has : a.size ≤ 100000 := by rw [Lib.size_eq, had, List.length_take, ← Lib.size_eq]; omega
    have hbs : b.size ≤ 100000 := by rw [Lib.size_eq, hbd, List.length_drop, ← Lib.size_eq]; omega
    rw [← had, ← hbd] at hsx
    have GA := Lib.hid (fun W h1 h2 => groups_any a false W has h1 h2)
    have GB := Lib.hid (fun W h1 h2 => groups_any b true W hbs h1 h2)
    have hla := partsE_len a.data.toList
    have hlb := partsE_len b.data.toList
    rw [← Lib.size_eq] at hla hlb
    have hna := grpO_le false (partsE a.data.toList)
    have hnb := grpO_le true (partsE b.data.toList)
    obtain ⟨oa, hoa⟩ : ∃ oa, grpO false (partsE a.data.toList) = oa := ⟨_, rfl⟩
    obtain ⟨ob, hob⟩ : ∃ ob, grpO true (partsE b.data.toList) = ob := ⟨_, rfl⟩
    rw [hoa] at GA hsx hna
    rw [hob] at GB hsx hnb
    have HSX := Lib.hid hsx
    have HNA := Lib.hid (fun n h => Nat.le_trans (hna n h) (show _ ≤ 200002 by omega))
    have HNB := Lib.hid (fun n h => Nat.le_trans (hnb n h) (show _ ≤ 200002 by omega))
    clear hsx hna hnb hoa hob hla hlb ha hb had hbd hcut hix hile
    have walk : ∀ x y : Int, gI oa = x → gI ob = y → -1 ≤ x → x ≤ 200002 → -1 ≤ y → y ≤ 200002 → sixL s.data.toList = (decide (0 ≤ x) && (decide (0 ≤ y) && decide (x + y ≤ 7))) → Calls Tryd.prog 51 #[.string s] w fun e w' => e = .returned (.bool (sixL s.data.toList)) ∧ Below w.heap.size w w' := by
      intro x y hx hy x0 x1 y0 y1 hv
      rw [hx] at GA
      rw [hy] at GB
      have HV := Lib.hid hv
      clear hv hx hy HSX HNA HNB
      have g1 : IntKind.i64.wrap (x + y) = x + y := IntWalk.i64_in _ (by omega)
      go_enter Tryd.func51, Tryd.ntmps51
      go_wp2_with fail
      refine CU.out.mono ?_
      rintro e w1 ⟨rfl, nd, rfl⟩
      have HB1 : Hid (Below w.heap.size w (w.drewN nd)) := Lib.hid (below_drewN (Below.refl _ _) nd)
      go_wp2_with fail
      refine (GA.out _ (maxAt_below HM.out HB1.out) (powAt_below HP.out HB1.out)).mono ?_
      rintro e w2 ⟨rfl, hb2⟩
      have HB2 := Lib.hid (bseq HB1.out hb2); clear hb2
      go_wp2_with fail
      refine (GB.out _ (maxAt_below HM.out HB2.out) (powAt_below HP.out HB2.out)).mono ?_
      rintro e w3 ⟨rfl, hb3⟩
      have HB3 := Lib.hid (bseq HB2.out hb3); clear hb3
      cases hx0 : decide (0 ≤ x) with
      | false =>
        have HN : Hid (sixL s.data.toList = false) := Lib.hid (by rw [HV.out, hx0]; rfl)
        go_wp2_with fail
        go_ret
        exact ⟨ret_bool HN.out.symm, HB3.out⟩
      | true =>
        cases hy0 : decide (0 ≤ y) with
        | false =>
          have HN : Hid (sixL s.data.toList = false) := Lib.hid (by rw [HV.out, hx0, hy0]; rfl)
          have hx0' : 0 ≤ x := of_decide_eq_true hx0
          go_wp2_with fail
          go_ret
          exact ⟨ret_bool HN.out.symm, HB3.out⟩
        | true =>
          have HN : Hid (sixL s.data.toList = decide (x + y ≤ 7)) := Lib.hid (by rw [HV.out, hx0, hy0]; rfl)
          have hx0' : 0 ≤ x := of_decide_eq_true hx0
          have hy0' : 0 ≤ y := of_decide_eq_true hy0
          go_wp2_with fail
          go_ret
          exact ⟨ret_bool HN.out.symm, HB3.out⟩
    cases oa with
    | none =>
      cases ob with
      | none => exact walk (-1) (-1) rfl rfl (by decide) (by decide) (by decide) (by decide) (by rw [HSX.out]; rfl)
      | some m =>
        have := HNB.out m rfl
        exact walk (-1) m rfl rfl (by decide) (by decide) (by omega) (by omega) (by rw [HSX.out]; rfl)
    | some n =>
      have := HNA.out n rfl
      cases ob with
      | none => exact walk n (-1) rfl rfl (by omega) (by omega) (by decide) (by decide) (by rw [HSX.out, decide_eq_true (show (0 : Int) ≤ n by omega)]; rfl)
      | some m =>
        have := HNB.out m rfl
        exact walk n m rfl rfl (by omega) (by omega) (by omega) (by omega) (by
          rw [HSX.out, decide_eq_true (show (0 : Int) ≤ n by omega), decide_eq_true (show (0 : Int) ≤ m by omega), Bool.true_and, Bool.true_and]
          show decide (n + m ≤ 7) = _
          rw [decide_eq_decide]; omega)
  · rw [if_neg h0] at hcut
    rw [hcut] at CU
    have hsx := sixL_none s.data.toList (by omega)
    have GA := Lib.hid (fun W h1 h2 => groups_any s true W hs h1 h2)
    have hv : sixL s.data.toList = (gI (grpO true (partsE s.data.toList)) == 8) := by
      rw [hsx]
      unfold wholeL partsE
      cases hl : s.data.toList with
      | nil => decide +kernel
      | cons c r =>
        rw [if_neg (by simp)]
        cases grpO true (partsL 58 (c :: r)) with
        | none => rfl
        | some n =>
          rw [Bool.eq_iff_iff]
          simp [gI]
          omega
    obtain ⟨x, hx⟩ : ∃ x, gI (grpO true (partsE s.data.toList)) = x := ⟨_, rfl⟩
    rw [hx] at GA hv
    have HV := Lib.hid hv; clear hv hx hsx hcut hix hile
    obtain ⟨a, ha⟩ : ∃ a : ByteArray, (⟨s.data.toList.toArray⟩ : ByteArray) = a := ⟨_, rfl⟩
    rw [show (s.data.toList, ([] : List UInt8), false).1 = s.data.toList from rfl, ha] at CU
    clear ha
    go_enter Tryd.func51, Tryd.ntmps51
    go_wp2_with fail
    refine CU.out.mono ?_
    rintro e w1 ⟨rfl, nd, rfl⟩
    have HB1 : Hid (Below w.heap.size w (w.drewN nd)) := Lib.hid (below_drewN (Below.refl _ _) nd)
    go_wp2_with fail
    refine (GA.out _ (maxAt_below HM.out HB1.out) (powAt_below HP.out HB1.out)).mono ?_
    rintro e w2 ⟨rfl, hb2⟩
    have HB2 := Lib.hid (bseq HB1.out hb2); clear hb2
    go_wp2_with fail
    go_ret
    exact ⟨ret_bool HV.out.symm, HB2.out⟩

end Go.Proofs.YthhpijmkhhdhhaaDoor
