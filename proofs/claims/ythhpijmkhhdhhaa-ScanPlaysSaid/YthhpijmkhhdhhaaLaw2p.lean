/- The walk of ScanPlays. -/
import Derived.Test.YthhpijmkhhdhhaaLaw2d
import Derived.Test.YthhpijmkhhdhhaaArgs2d
namespace Go.Proofs.Ythhpijmkhhdhhaa
open Go.RowKit
set_option linter.unusedVariables false
set_option linter.unusedSimpArgs false

/-- The law's own r, in block b. -/
def RAt (w : World) (b : Nat) (s : ByteArray) (i : Nat) : Prop := w.heap[b]? = some (.cells #[.string s, .int .i64 (i : Int)] 57 (0, 0))

theorem rAt_cells {w : World} {b : Nat} {s : ByteArray} {i : Nat} (h : RAt w b s i) :
    w.cell? ⟨b, 0, none⟩ = some (.string s) ∧ w.cell? ⟨b, 1, none⟩ = some (.int .i64 (i : Int)) ∧ w.frozen? ⟨b, 0, none⟩ = false ∧ w.frozen? ⟨b, 1, none⟩ = false ∧ b < w.heap.size :=
  ⟨by rw [cell_of_row w b 0 _ _ _ h]; rfl, by rw [cell_of_row w b 1 _ _ _ h]; rfl, frozen_of_row w b 0 _ _ h, frozen_of_row w b 1 _ _ h, lt_of_block h⟩

theorem rAt_fr {w w' : World} {b c : Nat} {s : ByteArray} {i : Nat} (h : RAt w b s i) (hf : FrC c w w') (hb : b ≠ c) : RAt w' b s i := (hf.block b (lt_of_block h) hb).trans h

theorem rAt_set {w : World} {b : Nat} {s : ByteArray} {i : Nat} (h : RAt w b s i) (x : Int) (j : Nat) (hx : x = (j : Int)) : RAt ((w.setCell ⟨b, 0, none⟩ (.string s)).setCell ⟨b, 1, none⟩ (.int .i64 x)) b s j := by
  subst hx
  have h1 := heap_setCell_at h 0 (.string s)
  exact heap_setCell_at h1 1 (.int .i64 (j : Int))

theorem frC_of_drew {w w' : World} {c : Nat} (h : FrC c w.drew w') : FrC c w w' := FrC.trans (w1 := w.drew) ⟨rfl, rfl, rfl, Nat.le_refl _, fun _ _ _ => rfl⟩ h

set_option maxRecDepth 100000 in
set_option maxHeartbeats 2000000 in
theorem scanPlays_walk (s : ByteArray) (a : Option Addr) (len cap : Nat) (ds : List D2) (W : World) (hs : s.size ≤ maxLen) (hd : DeedsArg2 W a len ds) :
    Calls Try.prog 9 #[.string s, .slice a len cap] W fun e w' => e = .returned (.bool true) ∧ Below W.heap.size W w' := by
  unfold maxLen at hs
  have hlm := hd.2.1
  unfold maxLen at hlm
  have HD := Lib.hid hd; clear hd
  go_enter Try.func9, Try.ntmps9
  go_wp2_with fail
  refine (awake2_any _).mono ?_
  rintro e w1 ⟨rfl, hb⟩
  have HB := Lib.hid hb; clear hb
  go_wp2_with fail
  rw [extract_cutS 200 s _ (by omega)]
  have ht : (cutS 200 s).size ≤ 200 := by rw [cutS_size]; omega
  generalize cutS 200 s = t at ht
  refine (scan_new t _).mono ?_
  rintro e w2 ⟨rfl, rfl⟩
  have SA := scanAt_new t w1 (by omega)
  have hw12 : Below W.heap.size W (w1.alloc (.cells #[.string t, .int .i64 0] 109)) := HB.out.alloc HB.out.size _
  have e1 : (w1.alloc (.cells #[.string t, .int .i64 0] 109)).heap.size = w1.heap.size + 1 := by simp
  have hW1 := HB.out.size
  obtain ⟨w2, hw2⟩ : ∃ w2, w1.alloc (.cells #[.string t, .int .i64 0] 109) = w2 := ⟨_, rfl⟩
  rw [hw2] at SA hw12 e1
  rw [hw2]
  have RA : RAt (w2.alloc (.cells #[.string t, .int .i64 0] 57)) w2.heap.size t 0 := heap_alloc_new w2 _
  have SA2 := scanAt_alloc SA (.cells #[.string t, .int .i64 0] 57)
  have hw13 : Below W.heap.size W (w2.alloc (.cells #[.string t, .int .i64 0] 57)) := hw12.alloc hw12.size _
  rw [e1] at RA
  have E1 := Lib.hid e1
  have HR := Lib.hid RA; clear RA
  have HS := Lib.hid SA2; clear SA2 SA
  have HW := Lib.hid hw13; clear hw13 hw12 HB hw2
  go_wp2_with fail
  clear e1 E1
  generalize w2.alloc (.cells #[.string t, .int .i64 0] 57) = w3 at HR HS HW
  go_loopw [7, 8] (fun i _ wr => ∃ k j : Nat, k ≤ len ∧ k ≤ 40 ∧ i = .int .i64 k ∧ Hid (ScanAt wr w1.heap.size t j ∧ RAt wr (w1.heap.size + 1) t j ∧ Below W.heap.size W wr)) (fun i _ _ => 40 - (intOf i).toNat)
  case atStart => exact ⟨0, 0, Nat.zero_le _, Nat.zero_le _, rfl, HS.out, HR.out, HW.out⟩
  case round =>
    obtain ⟨k, j, hk, hk40, rfl, hinv⟩ := hrel
    by_cases hlt : k < len ∧ k < 40
    · obtain ⟨hkl, hk4⟩ := hlt
      have hb0 : decide ((k : Int) < len) = true := by simp; omega
      have hb1 : decide ((k : Int) < 40) = true := by simp; omega
      obtain ⟨hsc, hra, hbl⟩ := hinv.out
      clear hinv
      obtain ⟨r0, r1, f0, f1, hrl⟩ := rAt_cells hra
      obtain ⟨hdl, _, hdo, hdc⟩ := HD.out
      rcases hdc with hz | ⟨b, o, rfl, hbW, hcell⟩
      · omega
      have hkd : k < ds.length := by omega
      obtain ⟨x0, x1, x2⟩ := hcell k hkd
      rw [← hbl.cell (by exact hbW)] at x0 x1 x2
      have hok := hdo _ (List.getElem_mem hkd)
      generalize ds[k] = d at x0 x1 x2 hok
      obtain ⟨k0, k1, kt, n0, n1⟩ := hok
      have DO := Lib.hid (do_any wr.drew w1.heap.size t j d.kd d.n d.t (by exact hsc) k0 k1 n0 n1 kt)
      have hWl := hbl.size
      have HSC := Lib.hid hsc; clear hsc
      have HRA := Lib.hid hra; clear hra
      have HBL := Lib.hid hbl; clear hbl hcell hdo k0 k1 n0 n1 kt
      go_wp2_with fail
      go_region_with (go_at_call 68; refine DO.out.mono ?_; rintro e w4 ⟨j2, rfl, hs4, hf4⟩; have hra4 := rAt_fr HRA.out (frC_of_drew hf4) (by omega); clear r0 r1 f0 f1; obtain ⟨r0, r1, f0, f1, hrl⟩ := rAt_cells hra4)
      all_goals
        have SA5 := scanAt_other (scanAt_other hs4 (w1.heap.size + 1) 0 (.string t) (by omega)) (w1.heap.size + 1) 1 (.int .i64 (j2 : Int)) (by omega)
        have RA5 := rAt_set hra4 (j2 : Int) j2 rfl
        have BL5 : Below W.heap.size W ((w4.setCell ⟨w1.heap.size + 1, 0, none⟩ (.string t)).setCell ⟨w1.heap.size + 1, 1, none⟩ (.int .i64 (j2 : Int))) :=
          ((HBL.out.trans ((frC_of_drew hf4).below hW1 hWl)).setCell (by exact Nat.le_succ_of_le hW1) _).setCell (by exact Nat.le_succ_of_le hW1) _
        clear x0 x1 x2 r0 r1 f0 f1 hrl hra4 hf4 hs4 DO HSC HRA HBL
        generalize (w4.setCell ⟨w1.heap.size + 1, 0, none⟩ (.string t)).setCell ⟨w1.heap.size + 1, 1, none⟩ (.int .i64 (j2 : Int)) = w5 at SA5 RA5 BL5
        obtain ⟨r0, r1, f0, f1, hrl⟩ := rAt_cells RA5
        have hj2 := SA5.2.1
        have hj3 : (j2 : Int) ≤ t.size := by omega
        have hq1 : ((t.extract j2 t.size).toList == (t.extract j2 t.size).toList) = true := by simp
        have AT := Lib.hid (fun n => scan_at_q w5 _ _ _ n SA5)
        have RE := Lib.hid (fun n => scan_rest_q w5 _ _ _ n SA5)
        have HS5 := Lib.hid SA5; clear SA5
        have HR5 := Lib.hid RA5; clear RA5
        have HB5 := Lib.hid BL5; clear BL5
        go_wp2_with fail
        go_quiet (first | (go_at_call 66; exact AT.out _) | (go_at_call 67; exact RE.out _))
        go_wp2_with fail
        go_roundw
        case rel => exact ⟨k + 1, j2, by omega, by omega, by go_num, scanAt_drewN HS5.out _, HR5.out, below_drewN HB5.out _⟩
        case measure => simp [intOf]; omega
    · have hg : (k < len ∧ 40 ≤ k) ∨ len ≤ k := by omega
      have HI := Lib.hid hinv; clear hinv
      rcases hg with ⟨hl1, hl2⟩ | hl1
      all_goals
        first | (have hb0 : decide ((k : Int) < len) = true := by simp; omega) | (have hb0 : decide ((k : Int) < len) = false := by simp; omega)
        try (have hb1 : decide ((k : Int) < 40) = false := by simp; omega)
        go_wp2_with fail
        go_ret
        exact ⟨rfl, HI.out.out.2.2⟩

end Go.Proofs.Ythhpijmkhhdhhaa
