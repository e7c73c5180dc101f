/- ParamsSets. -/
import Derived.Test.YthhpijmkhhdhhaaPar11
namespace Go.Proofs.Ythhpijmkhhdhhaa
open Go.RowKit
set_option linter.unusedVariables false
set_option linter.unusedSimpArgs false

theorem below_of_drew' {w1 w2 : World} (h : Below w1.drew.heap.size w1.drew w2) : Below w1.heap.size w1 w2 := ((Below.refl w1.heap.size w1).drew).trans h

set_option maxRecDepth 100000 in
set_option maxHeartbeats 4000000 in
theorem paramsSets_walk (a : Option Addr) (len cap : Nat) (ps : PL) (name value : ByteArray) (W : World) (h : PsArg W a len ps) (hn : name.size ≤ maxLen) (hv : value.size ≤ maxLen) :
    Calls Try.prog 17 #[.slice a len cap, .string name, .string value] W fun e w' => e = .returned (.bool true) ∧ Below W.heap.size W w' := by
  unfold maxLen at hn hv
  have HA := Lib.hid h; clear h
  obtain ⟨hok, h8⟩ := few7_ok ps
  have HFW := Lib.hid (fun (w : World) (h : PsArg w a len ps) => few7_any w a len cap ps h)
  generalize few7 ps = qs at hok h8 HFW
  obtain ⟨nm, hnm⟩ : ∃ nm, cutS 30 name = nm := ⟨_, rfl⟩
  obtain ⟨vl, hvl⟩ : ∃ vl, cutS 30 value = vl := ⟨_, rfl⟩
  have hn30 : nm.size ≤ 30 := by rw [← hnm, cutS_size]; omega
  have hv30 : vl.size ≤ 30 := by rw [← hvl, cutS_size]; omega
  have hc1 : name.extract 0 (min (name.size : Int) 30).toNat = nm := by rw [← hnm]; exact extract_cutS 30 name _ (by omega)
  have hc2 : value.extract 0 (min (value.size : Int) 30).toNat = vl := by rw [← hvl]; exact extract_cutS 30 value _ (by omega)
  have hm1 : (0 : Int) ≤ min (name.size : Int) 30 := by omega
  have hm2 : min (name.size : Int) 30 ≤ name.size := by omega
  have hm3 : (0 : Int) ≤ min (value.size : Int) 30 := by omega
  have hm4 : min (value.size : Int) 30 ≤ value.size := by omega
  clear hnm hvl
  have hsl := setGo_len nm.data.toList vl.data.toList qs false
  have hS : PsOk (setGo nm.data.toList vl.data.toList false qs) := ⟨by omega, setGo_ok _ _ (by rw [← Lib.size_eq]; omega) (by rw [← Lib.size_eq]; omega) qs false hok.2⟩
  have hSg := set_get nm.data.toList vl.data.toList qs
  have GP := Lib.hid (get_pl nm.data.toList qs)
  have RS := Lib.hid (fun w a c (h : PsAt w a qs) (hc : a = none → c = 0) (hl : qs.length ≤ c) => rSet_any w nm vl a qs.length c qs h hc hl rfl hok (by omega))
  have ST := Lib.hid (fun w a c (h : PsAt w a qs) => set_any w nm vl a qs.length c qs h rfl hok (by omega))
  generalize setGo nm.data.toList vl.data.toList false qs = S at hsl hS hSg RS ST
  have G1 := Lib.hid (fun w a c (h : PsAt w a qs) => get_any w nm a qs.length c qs h rfl hok (by omega))
  have P1 := Lib.hid (fun w a c (h : PsAt w a qs) => place_any w nm a qs.length c qs h rfl hok (by omega))
  have G2 := Lib.hid (fun w a c (h : PsAt w a S) => get_any w nm a S.length c S h rfl hS (by omega))
  rw [hSg] at G2
  have hgv : gT (some vl.data.toList) = vl := bs_self vl
  have SM := Lib.hid (fun w a1 a2 c1 c2 (h1 : PsAt w a1 S) (h2 : PsAt w a2 S) => same_true w a1 a2 S.length S.length c1 c2 S h1 h2 rfl rfl (by omega))
  simp only [hgv, gOk] at G2
  clear hgv hSg
  have HOK := Lib.hid hok; clear hok
  have HSO := Lib.hid hS; clear hS
  go_enter Try.func17, Try.ntmps17
  go_wp2_with fail
  (refine (awake7_any _).mono ?_; rintro e w1 ⟨rfl, h1⟩; have H1 := Lib.hid h1; clear h1; go_wp2_with fail)
  have hA1 : PsArg w1.drew a len ps := psArg_below (psArg_below HA.out H1.out) ((Below.refl w1.heap.size w1).drew)
  have FW := Lib.hid (HFW.out _ hA1); clear hA1
  go_region_held3 (fun _ => True) (first | go_keep | trivial) ((go_at_call 89; refine FW.out.mono ?_; rintro e w2 ⟨a2, c2, rfl, hb2, hp2, hnc2, hlc2⟩))
  all_goals
    have H2 := Lib.hid (below_of_drew' hb2); clear hb2
    have HP2 := Lib.hid hp2; clear hp2
    clear FW HFW
    have hvv : (vl.toList == vl.toList) = true := by simp
    go_wp2_with fail
  all_goals cases hpl : plL nm.data.toList qs with
  | none =>
    have hgn := (GP.out.2 hpl).1
    rw [hgn] at G1
    rw [hpl] at P1
    clear hgn hpl GP
    refine (G1.out _ _ _ HP2.out).mono ?_
    rintro e w3 ⟨rfl, hb3⟩
    have HP3 := Lib.hid (psAt_below HP2.out hb3)
    have H3 := Lib.hid hb3; clear hb3
    simp only [gT, gOk]
    go_wp2_with fail
    refine (P1.out _ _ _ HP3.out).mono ?_
    rintro e w4 ⟨rfl, hb4⟩
    have HP4 := Lib.hid (psAt_below HP3.out hb4)
    have H4 := Lib.hid hb4; clear hb4
    simp only [plI]
    go_wp2_with fail
    refine (ST.out _ _ _ HP4.out).mono ?_
    rintro e w5 ⟨a5, c5, rfl, hb5, hp5⟩
    have HP5 := Lib.hid (psAt_below HP4.out hb5)
    have HS5 := Lib.hid hp5; clear hp5
    have H5 := Lib.hid hb5; clear hb5
    go_wp2_with fail
    refine (G2.out _ _ _ HS5.out).mono ?_
    rintro e w6 ⟨rfl, hb6⟩
    have HP6 := Lib.hid (psAt_below HP5.out hb6)
    have HS6 := Lib.hid (psAt_below HS5.out hb6)
    have H6 := Lib.hid hb6; clear hb6
    go_wp2_with fail
    refine (RS.out _ _ _ HP6.out hnc2 hlc2).mono ?_
    rintro e w7 ⟨a7, c7, rfl, hb7, hp7⟩
    have HS7 := Lib.hid (psAt_below HS6.out hb7)
    have HR7 := Lib.hid hp7; clear hp7
    have H7 := Lib.hid hb7; clear hb7
    go_wp2_with fail
    refine (SM.out _ _ _ _ _ HS7.out HR7.out).mono ?_
    rintro e w8 ⟨rfl, hb8⟩
    have H8 := Lib.hid hb8; clear hb8
    go_wp2_with fail
    go_ret
    exact ⟨rfl, (bseq (bseq (bseq (bseq (bseq (bseq (bseq H1.out H2.out) H3.out) H4.out) H5.out) H6.out) H7.out) H8.out)⟩
  | some K =>
    obtain ⟨hKl, _, hgn, _⟩ := GP.out.1 K hpl
    rw [hgn] at G1
    rw [hpl] at P1
    clear hgn hpl GP
    refine (G1.out _ _ _ HP2.out).mono ?_
    rintro e w3 ⟨rfl, hb3⟩
    have HP3 := Lib.hid (psAt_below HP2.out hb3)
    have H3 := Lib.hid hb3; clear hb3
    simp only [gT, gOk]
    go_wp2_with fail
    refine (P1.out _ _ _ HP3.out).mono ?_
    rintro e w4 ⟨rfl, hb4⟩
    have HP4 := Lib.hid (psAt_below HP3.out hb4)
    have H4 := Lib.hid hb4; clear hb4
    simp only [plI]
    obtain ⟨b, o, rfl, _, x0, x1⟩ := psAt_at HP4.out K hKl
    have hK0 : decide (0 ≤ (K : Int)) = true := decide_eq_true (by omega)
    generalize bs qs[K].2 = u at x1 ⊢
    have huu : (u.toList != u.toList) = false := by simp
    clear x0
    go_wp2_with fail
    refine (ST.out _ _ _ HP4.out).mono ?_
    rintro e w5 ⟨a5, c5, rfl, hb5, hp5⟩
    have HP5 := Lib.hid (psAt_below HP4.out hb5)
    have HS5 := Lib.hid hp5; clear hp5
    have H5 := Lib.hid hb5; clear hb5
    go_wp2_with fail
    refine (G2.out _ _ _ HS5.out).mono ?_
    rintro e w6 ⟨rfl, hb6⟩
    have HP6 := Lib.hid (psAt_below HP5.out hb6)
    have HS6 := Lib.hid (psAt_below HS5.out hb6)
    have H6 := Lib.hid hb6; clear hb6
    go_wp2_with fail
    refine (RS.out _ _ _ HP6.out hnc2 hlc2).mono ?_
    rintro e w7 ⟨a7, c7, rfl, hb7, hp7⟩
    have HS7 := Lib.hid (psAt_below HS6.out hb7)
    have HR7 := Lib.hid hp7; clear hp7
    have H7 := Lib.hid hb7; clear hb7
    go_wp2_with fail
    refine (SM.out _ _ _ _ _ HS7.out HR7.out).mono ?_
    rintro e w8 ⟨rfl, hb8⟩
    have H8 := Lib.hid hb8; clear hb8
    go_wp2_with fail
    go_ret
    exact ⟨rfl, (bseq (bseq (bseq (bseq (bseq (bseq (bseq H1.out H2.out) H3.out) H4.out) H5.out) H6.out) H7.out) H8.out)⟩

end Go.Proofs.Ythhpijmkhhdhhaa
