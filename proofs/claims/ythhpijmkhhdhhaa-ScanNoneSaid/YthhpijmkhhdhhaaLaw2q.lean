/- The walk of ScanNone. -/
import Derived.Test.YthhpijmkhhdhhaaLaw2n
import Derived.Test.YthhpijmkhhdhhaaArgs2d
namespace Go.Proofs.Ythhpijmkhhdhhaa
open Go.RowKit
set_option linter.unusedVariables false
set_option linter.unusedSimpArgs false

/-- The law's own r, in block b: the empty text at its beginning. -/
def NAt (w : World) (b : Nat) : Prop := w.heap[b]? = some (.cells #[.string ⟨#[]⟩, .int .i64 0] 57 (0, 0))

theorem nAt_cells {w : World} {b : Nat} (h : NAt w b) :
    w.cell? ⟨b, 0, none⟩ = some (.string ⟨#[]⟩) ∧ w.cell? ⟨b, 1, none⟩ = some (.int .i64 0) ∧ w.frozen? ⟨b, 0, none⟩ = false ∧ w.frozen? ⟨b, 1, none⟩ = false ∧ b < w.heap.size :=
  ⟨by rw [cell_of_row w b 0 _ _ _ h]; rfl, by rw [cell_of_row w b 1 _ _ _ h]; rfl, frozen_of_row w b 0 _ _ h, frozen_of_row w b 1 _ _ h, lt_of_block h⟩

theorem nAt_set {w : World} {b : Nat} (h : NAt w b) : NAt ((w.setCell ⟨b, 0, none⟩ (.string ⟨#[]⟩)).setCell ⟨b, 1, none⟩ (.int .i64 0)) b := by
  have h1 := heap_setCell_at h 0 (.string ⟨#[]⟩)
  exact heap_setCell_at h1 1 (.int .i64 0)

set_option maxRecDepth 100000 in
set_option maxHeartbeats 2000000 in
theorem scanNone_walk (a : Option Addr) (len cap : Nat) (ds : List D2) (W : World) (hd : DeedsArg2 W a len ds) :
    Calls Try.prog 10 #[.slice a len cap] W fun e w' => e = .returned (.bool true) ∧ Below W.heap.size W w' := by
  have hlm := hd.2.1
  unfold maxLen at hlm
  have HD := Lib.hid hd; clear hd
  go_enter Try.func10, Try.ntmps10
  go_wp2_with fail
  refine (awake2_any _).mono ?_
  rintro e w1 ⟨rfl, hb⟩
  have RA : NAt (w1.alloc (.cells #[.string ⟨#[]⟩, .int .i64 0] 57)) w1.heap.size := heap_alloc_new w1 _
  have hw13 : Below W.heap.size W (w1.alloc (.cells #[.string ⟨#[]⟩, .int .i64 0] 57)) := hb.alloc hb.size _
  have hW1 := hb.size
  have HR := Lib.hid RA; clear RA
  have HW := Lib.hid hw13; clear hw13 hb
  go_wp2_with fail
  generalize w1.alloc (.cells #[.string ⟨#[]⟩, .int .i64 0] 57) = w3 at HR HW
  go_loopw [5, 6] (fun i _ wr => ∃ k : Nat, k ≤ len ∧ k ≤ 20 ∧ i = .int .i64 k ∧ Hid (NAt wr w1.heap.size ∧ Below W.heap.size W wr)) (fun i _ _ => 20 - (intOf i).toNat)
  case atStart => exact ⟨0, Nat.zero_le _, Nat.zero_le _, rfl, HR.out, HW.out⟩
  case round =>
    obtain ⟨k, hk, hk40, rfl, hinv⟩ := hrel
    by_cases hlt : k < len ∧ k < 20
    · obtain ⟨hkl, hk4⟩ := hlt
      have hb0 : decide ((k : Int) < len) = true := by simp; omega
      have hb1 : decide ((k : Int) < 20) = true := by simp; omega
      obtain ⟨hra, hbl⟩ := hinv.out
      clear hinv
      obtain ⟨r0, r1, f0, f1, hrl⟩ := nAt_cells hra
      obtain ⟨hdl, _, hdo, hdc⟩ := HD.out
      rcases hdc with hz | ⟨b, o, rfl, hbW, hcell⟩
      · omega
      have hkd : k < ds.length := by omega
      obtain ⟨x0, x1, x2⟩ := hcell k hkd
      rw [← hbl.cell (by exact hbW)] at x0 x1 x2
      have hok := hdo _ (List.getElem_mem hkd)
      generalize ds[k] = d at x0 x1 x2 hok
      obtain ⟨k0, k1, kt, n0, n1⟩ := hok
      have DO := Lib.hid (don_any wr.drew d.kd d.n d.t k0 k1 n0 n1 kt)
      have hWl := hbl.size
      have HRA := Lib.hid hra; clear hra
      have HBL := Lib.hid hbl; clear hbl hcell hdo k0 k1 n0 n1 kt
      go_wp2_with fail
      go_region_with (go_at_call 68; refine DO.out.mono ?_; rintro e w4 ⟨rfl, hf4⟩; have hra4 : NAt w4 w1.heap.size := ((below_of_drew hf4).block _ hrl).trans HRA.out; clear r0 r1 f0 f1; obtain ⟨r0, r1, f0, f1, hrl⟩ := nAt_cells hra4)
      all_goals
        have RA5 := nAt_set hra4
        have BL5 : Below W.heap.size W ((w4.setCell ⟨w1.heap.size, 0, none⟩ (.string ⟨#[]⟩)).setCell ⟨w1.heap.size, 1, none⟩ (.int .i64 0)) :=
          ((HBL.out.trans ((below_of_drew hf4).mono hWl)).setCell (by exact hW1) _).setCell (by exact hW1) _
        clear x0 x1 x2 r0 r1 f0 f1 hrl hra4 hf4 DO HRA HBL
        generalize (w4.setCell ⟨w1.heap.size, 0, none⟩ (.string ⟨#[]⟩)).setCell ⟨w1.heap.size, 1, none⟩ (.int .i64 0) = w5 at RA5 BL5
        have HR5 := Lib.hid RA5; clear RA5
        have HB5 := Lib.hid BL5; clear BL5
        go_wp2_with fail
        go_roundw
        case rel => exact ⟨k + 1, by omega, by omega, by go_num, HR5.out, HB5.out⟩
        case measure => simp [intOf]; omega
    · have hg : (k < len ∧ 20 ≤ k) ∨ len ≤ k := by omega
      have HI := Lib.hid hinv; clear hinv
      rcases hg with ⟨hl1, hl2⟩ | hl1
      all_goals
        first | (have hb0 : decide ((k : Int) < len) = true := by simp; omega) | (have hb0 : decide ((k : Int) < len) = false := by simp; omega)
        try (have hb1 : decide ((k : Int) < 20) = false := by simp; omega)
        go_wp2_with fail
        (refine (nil_at _).mono ?_; rintro e w' ⟨rfl, rfl⟩; go_wp2_with fail)
        (refine (nil_rest _).mono ?_; rintro e w' ⟨rfl, rfl⟩; go_wp2_with fail)
        (refine (nil_end _).mono ?_; rintro e w' ⟨rfl, rfl⟩; go_wp2_with fail)
        go_ret
        exact ⟨rfl, HI.out.out.2⟩

end Go.Proofs.Ythhpijmkhhdhhaa
