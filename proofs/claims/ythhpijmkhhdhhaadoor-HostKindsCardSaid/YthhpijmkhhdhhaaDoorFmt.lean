/- strconv.FormatInt at base 16. -/
import Derived.Test.YthhpijmkhhdhhaaDoorNum
import Derived.Test.YthhpijmkhhdhhaaDoorAppend
import Derived.Lib.LaidTab
namespace Go.Proofs.YthhpijmkhhdhhaaDoor
open Go.RowKit
set_option linter.unusedVariables false
set_option linter.unusedSimpArgs false

theorem tz64_16 (w : World) (h : w.cell? ⟨5, 15, none⟩ = some (.int .u8 4)) :
    Calls Tryd.prog 140 #[.int .u64 16] w fun e w' => e = .returned (.int .i64 4) ∧ w = w' := by
  have h1 : IntKind.u64.wrap (-16) = 18446744073709551600 := by decide +kernel
  have h2 : bits BinOp.and IntKind.u64 16 18446744073709551600 = 16 := by decide +kernel
  have h3 : IntKind.u64.wrap 4573923408821661840 = 4573923408821661840 := by decide +kernel
  have h4 : IntKind.u64.wrap (16 * 285870213051353865) = 4573923408821661840 := by decide +kernel
  go_enter Tryd.func140, Tryd.ntmps140
  go_wp2
  go_ret
  exact ⟨rfl, rfl⟩

theorem tz_16 (w : World) (h : w.cell? ⟨5, 15, none⟩ = some (.int .u8 4)) :
    Calls Tryd.prog 137 #[.int .u64 16] w fun e w' => e = .returned (.int .i64 4) ∧ w = w' := by
  have T := Lib.hid (tz64_16 w h)
  go_enter Tryd.func137, Tryd.ntmps137
  go_wp2_with fail
  (refine (T.out).mono ?_; rintro e w' ⟨rfl, rfl⟩; go_wp2_with fail)
  go_ret
  exact ⟨rfl, rfl⟩

theorem pow2_16 (w : World) : Calls Tryd.prog 136 #[.int .i64 16] w fun e w' => e = .returned (.bool true) ∧ w = w' := by
  have h2 : bits BinOp.and IntKind.i64 16 15 = 0 := by decide +kernel
  go_enter Tryd.func136, Tryd.ntmps136
  go_wp2
  go_ret
  exact ⟨rfl, rfl⟩

theorem ret_nils (s : ByteArray) {v : Value} (h : v = .tuple #[.slice none 0 0, .string s]) : Ending.returned v = .returned (.tuple #[.slice none 0 0, .string s]) := by rw [h]

set_option maxRecDepth 100000 in
set_option maxHeartbeats 1000000 in
theorem formatBits_ff (w : World) (h : w.cell? ⟨5, 15, none⟩ = some (.int .u8 4)) (hg : 5 < w.heap.size) :
    Calls Tryd.prog 123 #[.slice none 0 0, .int .u64 255, .int .i64 16, .bool false, .bool false] w fun e w' => e = .returned (.tuple #[.slice none 0 0, .string ⟨#[102, 102]⟩]) ∧ Below w.heap.size w w' := by
  go_enter Tryd.func123, Tryd.ntmps123
  go_wp2_with fail
  (refine (pow2_16 _).mono ?_; rintro e w' ⟨rfl, rfl⟩; go_wp2_with fail)
  obtain ⟨w1, hw1⟩ : ∃ w1, w.alloc (.cells Tryd.zeroCells133 133) = w1 := ⟨_, rfl⟩
  have hb1 : Below w.heap.size w w1 := by rw [← hw1]; exact (Below.refl _ _).alloc (Nat.le_refl _) _
  have hk1 : w1.heap[w.heap.size]? = some (.cells Tryd.zeroCells133 133 (0, 0)) := by rw [← hw1]; exact heap_alloc_new w _
  have hT : w1.cell? ⟨5, 15, none⟩ = some (.int .u8 4) := by rw [hb1.cell (by exact hg)]; exact h
  rw [hw1]
  have TZ := Lib.hid (tz_16 w1 hT)
  have HB := Lib.hid hb1; clear hb1 hw1 hT h hg
  have c64 : w1.cell? ⟨w.heap.size, 64, none⟩ = some (.int .u8 0) := by rw [cell_of_row w1 w.heap.size 64 _ _ _ hk1]; kernel_rfl
  have f64 := frozen_of_row w1 w.heap.size 64 _ _ hk1
  have a1 : bits BinOp.and IntKind.u64 255 15 = 15 := by decide +kernel
  have HK := Lib.hid hk1; clear hk1
  have DG : Hid (((⟨#[48, 49, 50, 51, 52, 53, 54, 55, 56, 57, 97, 98, 99, 100, 101, 102, 103, 104, 105, 106, 107, 108, 109, 110, 111, 112, 113, 114, 115, 116, 117, 118, 119, 120, 121, 122]⟩ : ByteArray)[15]'(by decide)).toNat = 102) := Lib.hid (by decide +kernel)
  go_wp2_with fail
  (refine (TZ.out).mono ?_; rintro e w' ⟨rfl, rfl⟩; go_wp2_with fail)
  go_loopg [1, 13] 1 (fun g u i wr => (g = 1 ∧ u = .int .u64 255 ∧ i = .int .i64 65 ∧ wr = w1) ∨ (g = 0 ∧ u = .int .u64 15 ∧ i = .int .i64 64 ∧ wr = w1.setCell ⟨w.heap.size, 64, none⟩ (.int .u8 102)))
  case atStart => exact .inl ⟨rfl, rfl, rfl, rfl⟩
  case round =>
    rcases hrel with ⟨hg, rfl, rfl, rfl⟩ | ⟨hg, rfl, rfl, rfl⟩
    · go_wp2_with fail
      go_roundg 0
      case measure => omega
      case rel => exact .inr ⟨rfl, rfl, rfl, by rw [DG.out]; rfl⟩
    · have hk2 := heap_setCell_at HK.out 64 (.int .u8 102)
      have hb2 : Below w.heap.size w (w1.setCell ⟨w.heap.size, 64, none⟩ (.int .u8 102)) := HB.out.setCell (by exact Nat.le_refl _) _
      obtain ⟨w2, hw2⟩ : ∃ w2, w1.setCell ⟨w.heap.size, 64, none⟩ (.int .u8 102) = w2 := ⟨_, rfl⟩
      rw [hw2] at hk2 hb2 ⊢
      have c63 : w2.cell? ⟨w.heap.size, 63, none⟩ = some (.int .u8 0) := by rw [cell_of_row w2 w.heap.size 63 _ _ _ hk2]; kernel_rfl
      have f63 := frozen_of_row w2 w.heap.size 63 _ _ hk2
      have hk3 := heap_setCell_at hk2 63 (.int .u8 102)
      have hb3 : Below w.heap.size w (w2.setCell ⟨w.heap.size, 63, none⟩ (.int .u8 102)) := hb2.setCell (by exact Nat.le_refl _) _
      obtain ⟨w3, hw3⟩ : ∃ w3, w2.setCell ⟨w.heap.size, 63, none⟩ (.int .u8 102) = w3 := ⟨_, rfl⟩
      rw [hw3] at hk3 hb3
      have e63 : w3.cell? ⟨w.heap.size, 63, none⟩ = some (.int .u8 102) := by rw [cell_of_row w3 w.heap.size 63 _ _ _ hk3]; kernel_rfl
      have e64 : w3.cell? ⟨w.heap.size, 64, none⟩ = some (.int .u8 102) := by rw [cell_of_row w3 w.heap.size 64 _ _ _ hk3]; kernel_rfl
      have hcv := string_of_bytes w3 w.heap.size 63 2 [102, 102] (by
        intro j hj
        have : j = 0 ∨ j = 1 := by simp at hj; omega
        rcases this with rfl | rfl
        · exact e63
        · exact e64)
      have hcv2 : (convert 104 9 (.slice (some ⟨w.heap.size, 63, none⟩) 2 2)).run Tryd.prog w3 = .ok (.string ⟨#[102, 102]⟩) w3 := hcv
      clear hcv e63 e64
      have HB3 := Lib.hid hb3
      have dg := DG.out
      clear hk2 hk3 hb2 hb3 hw2 HB HK c64 f64
      go_wp2_with fail
      go_ret2
      exact ⟨rfl, HB3.out⟩

def TabAt (w : World) : Prop := w.cell? ⟨5, 15, none⟩ = some (.int .u8 4) ∧ 5 < w.heap.size
theorem tabAt_below {w w1 : World} (h : TabAt w) (hb : Below w.heap.size w w1) : TabAt w1 := ⟨by rw [hb.cell (by exact h.2)]; exact h.1, Nat.lt_of_lt_of_le h.2 hb.size⟩

theorem hexText_ff (w : World) (h : TabAt w) : Calls Tryd.prog 21 #[.int .i64 255] w fun e w' => e = .returned (.string ⟨#[102, 102]⟩) ∧ Below w.heap.size w w' := by
  have F := Lib.hid (formatBits_ff w h.1 h.2)
  have F1 : Hid (Calls Tryd.prog 110 #[.int .i64 255, .int .i64 16] w fun e w' => e = .returned (.string ⟨#[102, 102]⟩) ∧ Below w.heap.size w w') := Lib.hid (by
    go_enter Tryd.func110, Tryd.ntmps110
    go_wp2_with fail
    refine F.out.mono ?_
    rintro e w1 ⟨rfl, h1⟩
    have H1 := Lib.hid h1; clear h1
    go_wp2_with fail
    go_ret
    exact ⟨rfl, H1.out⟩)
  have F2 : Hid (Calls Tryd.prog 94 #[.int .i64 255, .int .i64 16] w fun e w' => e = .returned (.string ⟨#[102, 102]⟩) ∧ Below w.heap.size w w') := Lib.hid (by
    go_enter Tryd.func94, Tryd.ntmps94
    go_wp2_with fail
    refine F1.out.mono ?_
    rintro e w1 ⟨rfl, h1⟩
    have H1 := Lib.hid h1; clear h1
    go_wp2_with fail
    go_ret
    exact ⟨rfl, H1.out⟩)
  have F3 : Hid (Calls Tryd.prog 66 #[.int .i64 255, .int .i64 16] w fun e w' => e = .returned (.string ⟨#[102, 102]⟩) ∧ Below w.heap.size w w') := Lib.hid (by
    go_enter Tryd.func66, Tryd.ntmps66
    go_wp2_with fail
    refine F2.out.mono ?_
    rintro e w1 ⟨rfl, h1⟩
    have H1 := Lib.hid h1; clear h1
    go_wp2_with fail
    go_ret
    exact ⟨rfl, H1.out⟩)
  go_enter Tryd.func21, Tryd.ntmps21
  go_wp2_with fail
  refine F3.out.mono ?_
  rintro e w1 ⟨rfl, h1⟩
  have H1 := Lib.hid h1; clear h1
  go_wp2_with fail
  go_ret
  exact ⟨rfl, H1.out⟩

theorem decimal_at (s : ByteArray) (most : Int) (w : World) (hs : s.size ≤ 1000000) (hm0 : -9223372036854775808 ≤ most) (hm1 : most ≤ 9223372036854775807) (v n : Int) (h1 : readV bDigit 10 most s.data.toList = v) (h2 : readE bDigit 10 most s.data.toList = n) :
    Calls Tryd.prog 17 #[.string s, .int .i64 most] w fun e w' => e = .returned (.tuple #[.int .i64 v, .int .i64 n]) ∧ Below w.heap.size w w' := by subst h1 h2; exact decimal_any s most w hs hm0 hm1

theorem awake3_any (w : World) (h : TabAt w) : Calls Tryd.prog 16 #[] w fun e w' => e = .returned (.bool true) ∧ Below w.heap.size w w' := by
  have HT := Lib.hid h; clear h
  go_enter Tryd.func16, Tryd.ntmps16
  go_wp2_with fail
  (refine (decimal_at _ 9 _ (by decide) (by decide) (by decide) 7 0 (by decide +kernel) (by decide +kernel)).mono ?_; rintro e w1 ⟨rfl, h1⟩; have H1 := Lib.hid h1; clear h1; go_wp2_with fail)
  (refine (decimal_at _ 9 _ (by decide) (by decide) (by decide) 0 7 (by decide +kernel) (by decide +kernel)).mono ?_; rintro e w2 ⟨rfl, h2⟩; have H2 := Lib.hid h2; clear h2; go_wp2_with fail)
  (refine (decimal_at _ 9 _ (by decide) (by decide) (by decide) 0 2 (by decide +kernel) (by decide +kernel)).mono ?_; rintro e w3 ⟨rfl, h3⟩; have H3 := Lib.hid h3; clear h3; go_wp2_with fail)
  refine (hexText_ff _ (tabAt_below HT.out (bseq (bseq H1.out H2.out) H3.out))).mono ?_
  rintro e w4 ⟨rfl, h4⟩
  have H4 := Lib.hid h4; clear h4
  go_wp2_with fail
  go_ret
  exact ⟨rfl, (bseq (bseq (bseq H1.out H2.out) H3.out) H4.out)⟩

end Go.Proofs.YthhpijmkhhdhhaaDoor
