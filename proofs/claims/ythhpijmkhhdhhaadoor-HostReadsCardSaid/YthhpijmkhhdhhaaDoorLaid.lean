/- What the listed tables of the numbers' library give to the walks. -/
import Derived.Test.YthhpijmkhhdhhaaDoorRows
import Derived.Test.YthhpijmkhhdhhaaDoorFmt16
import Derived.ProofKit
import Derived.LaidMore
import Derived.MakeChecks
namespace Go.Proofs.YthhpijmkhhdhhaaDoor
open Go.RowKit
set_option linter.unusedVariables false
set_option linter.unusedSimpArgs false

theorem gTab64 : Tryd.prog.globalNamed "math/bits.deBruijn64tab" = some 5 := by kernel_rfl
theorem tTab64 : (Tryd.prog.globals[5]?).map (·.type) = some 144 := by kernel_rfl
theorem tPow : (Tryd.prog.globals[1]?).map (·.type) = some 131 := by kernel_rfl
def zsTab64 : List Int := [0, 1, 56, 2, 57, 49, 28, 3, 61, 58, 42, 50, 38, 29, 17, 4, 62, 47, 59, 36, 45, 43, 51, 22, 53, 39, 33, 30, 24, 18, 12, 5, 63, 55, 48, 27, 60, 41, 37, 16, 46, 35, 44, 21, 52, 32, 23, 11, 54, 26, 40, 15, 34, 20, 31, 10, 25, 14, 19, 9, 13, 8, 7, 6]
def zsPow : List Int := [1, 10, 100, 1000, 10000, 100000, 1000000, 10000000, 100000000, 1000000000, 10000000000, 100000000000, 1000000000000, 10000000000000, 100000000000000, 1000000000000000, 10000000000000000, 100000000000000000, 1000000000000000000, 10000000000000000000]
theorem zsPow_is : zsPow = Lib.pow10Tab := by decide +kernel

theorem tabs_of {W : World} (h : laidMetH Tryd.prog [("math/bits.deBruijn32tab", Rows.laid_math_bits_deBruijn32tab), ("math/bits.deBruijn64tab", Rows.laid_math_bits_deBruijn64tab), ("internal/strconv.uint64pow10", Rows.laid_internal_strconv_uint64pow10)] W) : TabAt W ∧ PowAt W := by
  rw [MakeChecks.laidMetH_plain _ _ _ (by kernel_rfl)] at h
  obtain ⟨ps, ⟨g0, t0, cs0, f0, p0, q0, hg0, ht0, hv0, hd0, ⟨g1, t1, cs1, f1, p1, q1, hg1, ht1, hv1, hd1, ⟨g2, t2, cs2, f2, p2, q2, hg2, ht2, hv2, hd2, _⟩, _⟩, _⟩, _⟩ := h
  obtain rfl := Option.some.inj (gTab64.symm.trans hg1)
  obtain rfl := Option.some.inj (tTab64.symm.trans ht1)
  obtain rfl := Option.some.inj (powGlob.symm.trans hg2)
  obtain rfl := Option.some.inj (tPow.symm.trans ht2)
  have hc := Lib.cells_of_tab (k := .u8) (zs := zsTab64) Tryd.underlying144 Tryd.underlying5 (by kernel_rfl) (by kernel_rfl) (by exact hd1)
  have hT : Lib.TabIs Tryd.prog W "math/bits.deBruijn64tab" .u8 zsTab64 := by
    unfold Lib.TabIs
    rw [hv1, ← hc]
  have h15 := Lib.TabIs.cell hT gTab64 15 (by decide)
  have hc2 := Lib.cells_of_tab (k := .u64) (zs := zsPow) Tryd.underlying131 Tryd.underlying120 (by kernel_rfl) (by kernel_rfl) (by exact hd2)
  have hP : Lib.TabIs Tryd.prog W "internal/strconv.uint64pow10" .u64 zsPow := by
    unfold Lib.TabIs
    rw [hv2, ← hc2]
  have h0 := Lib.TabIs.cell hP powGlob 0 (by decide)
  exact ⟨⟨h15, World.block_lt_of_cell? W _ h15⟩, by rw [← zsPow_is]; exact hP, World.block_lt_of_cell? W _ h0⟩

end Go.Proofs.YthhpijmkhhdhhaaDoor
