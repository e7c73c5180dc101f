/- The reference's of. -/
import Derived.Test.YthhpijmkhhdhhaaDoorHost
namespace Go.Proofs.YthhpijmkhhdhhaaDoor
open Go.RowKit
set_option linter.unusedVariables false
set_option linter.unusedSimpArgs false

set_option maxRecDepth 100000 in
set_option maxHeartbeats 2000000 in
theorem rOfH_any (s : ByteArray) (w : World) (hs : s.size ≤ 10000) :
    Calls Tryd.prog 89 #[.string s] w fun e w' => e = .returned (ofB s).val ∧ Below w.heap.size w w' := by
  have his : (inB s).size ≤ 10000 := by unfold inB; rw [Lib.size_eq, Lib.extract_data, List.length_take, List.length_drop, ← Lib.size_eq]; omega
  have SX := Lib.hid (fun W => rSix_any (inB s) W (by omega))
  have FO := Lib.hid (fun W => rFour_any s W (by omega))
  have NA := Lib.hid (fun W => rName_any s W (by omega))
  go_enter Tryd.func89, Tryd.ntmps89
  go_upto_region 1 with fail
  have n0 := hostAt_new w HostB.zero
  have hb0 : Below w.heap.size w (w.alloc (.cells HostB.zero.cells 69)) := (Below.refl _ _).alloc (Nat.le_refl _) _
  obtain ⟨W0, hW0⟩ : ∃ W0, w.alloc (.cells HostB.zero.cells 69) = W0 := ⟨_, rfl⟩
  rw [hW0] at n0 hb0
  change Code.wp _ _ _ _ (w.alloc (.cells HostB.zero.cells 69))
  rw [hW0]
  have N0 := Lib.hid n0; have HB0 := Lib.hid hb0
  clear hW0 n0 hb0
  obtain ⟨j, hj⟩ : ∃ j, s.size - 1 = j := ⟨_, rfl⟩
  have hin : s.extract 1 j = inB s := by rw [← hj]; rfl
  obtain ⟨I, hI⟩ : ∃ I, inB s = I := ⟨_, rfl⟩
  obtain ⟨bk, hbk⟩ : ∃ bk, brkB s = bk := ⟨_, rfl⟩
  have hop : ofB s = if bk then ⟨3, I, -1⟩ else if fourL s.data.toList then ⟨2, s, -1⟩ else if nameL s.data.toList then ⟨1, s, -1⟩ else HostB.zero := by unfold ofB; rw [hbk, hI]
  obtain ⟨f, hf⟩ : ∃ f, fourL s.data.toList = f := ⟨_, rfl⟩
  obtain ⟨nm, hnm⟩ : ∃ nm, nameL s.data.toList = nm := ⟨_, rfl⟩
  rw [hf, hnm] at hop
  rw [hf] at FO
  rw [hnm] at NA
  rw [hI] at SX hin his
  have HOP := Lib.hid hop; have HBK := Lib.hid hbk; have HJ := Lib.hid hj
  have HII := Lib.hid hI
  clear hop hbk hf hnm hj hI
  go_cut [26] (fun t wx => t = .bool bk ∧ Below w.heap.size w wx ∧ HostAt wx w.heap.size HostB.zero)
  case first =>
    by_cases h2 : 2 < s.size
    · have g1 : (2 : Int) < (s.size : Int) := by omega
      have hjl : j < s.size := by have := HJ.out; omega
      have hj0 : j = s.size - 1 := HJ.out.symm
      have g2 : IntKind.i64.wrap ((s.size : Int) - 1) = (j : Int) := by rw [IntWalk.i64_in _ (by omega)]; omega
      have g3 : (j : Int) < (s.size : Int) := by omega
      have g4 : (1 : Int) ≤ (j : Int) := by omega
      have g5 : 1 ≤ j := by omega
      have g6 : (j : Int) ≤ (s.size : Int) := by omega
      have g7 : 0 < s.size := by omega
      have g8 : (0 : Int) < (s.size : Int) := by omega
      have g9 : j ≤ s.size := by omega
      have hl := brk_long s h2
      have hsj : s[s.size - 1] = s[j] := by congr 1
      rw [HBK.out, hsj, HII.out] at hl
      obtain ⟨p, hp⟩ : ∃ p, ((s[0].toNat : Int) == 91) = p := ⟨_, rfl⟩
      obtain ⟨q, hq⟩ : ∃ q, ((s[j].toNat : Int) == 93) = q := ⟨_, rfl⟩
      obtain ⟨x, hx⟩ : ∃ x, sixL I.data.toList = x := ⟨_, rfl⟩
      rw [hp, hq, hx] at hl
      rw [hx] at SX
      have HL := Lib.hid hl
      clear hl hj0 hx hsj h2
      cases p with
      | false =>
        have HV : Hid (bk = false) := Lib.hid (by rw [HL.out]; rfl)
        go_wp2_with fail
        go_meet
        exact ⟨by rw [HV.out], HB0.out, N0.out⟩
      | true =>
        cases q with
        | false =>
          have HV : Hid (bk = false) := Lib.hid (by rw [HL.out]; rfl)
          go_wp2_with fail
          go_meet
          exact ⟨by rw [HV.out], HB0.out, N0.out⟩
        | true =>
          have HV : Hid (bk = x) := Lib.hid (by rw [HL.out]; rfl)
          go_wp2_with fail
          refine (SX.out _).mono ?_
          rintro e w2 ⟨rfl, hw2⟩
          have HB2 := Lib.hid (bseq HB0.out hw2)
          have M0 := Lib.hid (hostAt_call N0.out hw2)
          clear hw2
          go_wp2_with fail
          go_meet
          exact ⟨by rw [HV.out], HB2.out, M0.out⟩
    · have g1 : decide ((2 : Int) < (s.size : Int)) = false := decide_eq_false (by omega)
      have HV : Hid (bk = false) := Lib.hid (by rw [← HBK.out]; exact brk_short s h2)
      go_wp2_with fail
      go_meet
      exact ⟨by rw [HV.out], HB0.out, N0.out⟩
  case rest =>
    obtain ⟨rfl, hbc, m0⟩ := hcut
    clear N0 HB0 SX
    have M0 := Lib.hid m0; have HB1 := Lib.hid hbc; clear m0 hbc
    obtain ⟨d0, d1, d2⟩ := host_cells M0.out
    have e0 := host_frozen M0.out 0
    have e1 := host_frozen M0.out 1
    have e2 := host_frozen M0.out 2
    have BB := Lib.hid (fun (W : World) (h : Below w.heap.size w W) v0 v1 v2 => ((h.setCell (p := ⟨w.heap.size, 0, none⟩) (Nat.le_refl _) v0).setCell (p := ⟨w.heap.size, 1, none⟩) (Nat.le_refl _) v1).setCell (p := ⟨w.heap.size, 2, none⟩) (Nat.le_refl _) v2)
    cases bk with
    | true =>
      have h2 : 2 < s.size := by
        rcases Nat.lt_or_ge 2 s.size with h | h
        · exact h
        · have := brk_short s (by omega)
          rw [HBK.out] at this; exact absurd this (by simp)
      have hj0 : j = s.size - 1 := HJ.out.symm
      have g2 : IntKind.i64.wrap ((s.size : Int) - 1) = (j : Int) := by rw [IntWalk.i64_in _ (by omega)]; omega
      have g4 : (1 : Int) ≤ (j : Int) := by omega
      have g5 : 1 ≤ j := by omega
      have g6 : (j : Int) ≤ (s.size : Int) := by omega
      have g9 : j ≤ s.size := by omega
      clear hj0
      go_wp2_with fail
      refine bodyPost_ret (host_result rfl (host_all M0.out ⟨3, I, -1⟩) _ rfl) rfl ?_
      exact ⟨by rw [HOP.out]; rfl, BB.out _ HB1.out _ _ _⟩
    | false =>
      go_wp2_with fail
      refine (FO.out _).mono ?_
      rintro e w3 ⟨rfl, hw3⟩
      have HB3 := Lib.hid (bseq HB1.out hw3)
      have L0 := Lib.hid (hostAt_call M0.out hw3)
      clear hw3 d0 d1 d2 e0 e1 e2
      obtain ⟨d0, d1, d2⟩ := host_cells L0.out
      have e0 := host_frozen L0.out 0
      have e1 := host_frozen L0.out 1
      have e2 := host_frozen L0.out 2
      cases f with
      | true =>
        go_wp2_with fail
        refine bodyPost_ret (host_result rfl (host_all L0.out ⟨2, s, -1⟩) _ rfl) rfl ?_
        exact ⟨by rw [HOP.out]; rfl, BB.out _ HB3.out _ _ _⟩
      | false =>
        go_wp2_with fail
        refine (NA.out _).mono ?_
        rintro e w4 ⟨rfl, hw4⟩
        subst hw4
        cases nm with
        | true =>
          go_wp2_with fail
          refine bodyPost_ret (host_result rfl (host_all L0.out ⟨1, s, -1⟩) _ rfl) rfl ?_
          exact ⟨by rw [HOP.out]; rfl, BB.out _ HB3.out _ _ _⟩
        | false =>
          go_wp2_with fail
          refine bodyPost_ret (host_result rfl (host_all L0.out HostB.zero) _ rfl) rfl ?_
          exact ⟨by rw [HOP.out]; rfl, BB.out _ HB3.out _ _ _⟩

end Go.Proofs.YthhpijmkhhdhhaaDoor
