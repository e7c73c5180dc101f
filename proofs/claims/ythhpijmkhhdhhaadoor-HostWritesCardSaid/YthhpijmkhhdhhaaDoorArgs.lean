/- How the arguments of the laws are opened: what a row's reading gives for the walks. -/
import Derived.Test.YthhpijmkhhdhhaaDoorAppend
import Derived.SliceStrings
import Derived.ProofKit
import Derived.OpenShut
namespace Go.Proofs.YthhpijmkhhdhhaaDoor
open Go.ChangeShapes Go.WideShapes Go.ChangeAt Go.RowKit
set_option linter.unusedVariables false
set_option linter.unusedSimpArgs false

theorem u8_lo {n : Int} (h : (Lit.int .u8 n).wf = true) : 0 ≤ n := by
  have : 0 ≤ n ∧ n ≤ 255 := by simpa [Lit.wf, IntKind.min, IntKind.max, IntKind.signed, IntKind.bits] using h
  exact this.1
theorem u8_hi {n : Int} (h : (Lit.int .u8 n).wf = true) : n ≤ 255 := by
  have : 0 ≤ n ∧ n ≤ 255 := by simpa [Lit.wf, IntKind.min, IntKind.max, IntKind.signed, IntKind.bits] using h
  exact this.2
theorem i64_lo {n : Int} (h : (Lit.int .i64 n).wf = true) : -9223372036854775808 ≤ n := by
  have : -9223372036854775808 ≤ n ∧ n ≤ 9223372036854775807 := by simpa [Lit.wf, IntKind.min, IntKind.max, IntKind.signed, IntKind.bits] using h
  exact this.1
theorem i64_hi {n : Int} (h : (Lit.int .i64 n).wf = true) : n ≤ 9223372036854775807 := by
  have : -9223372036854775808 ≤ n ∧ n ≤ 9223372036854775807 := by simpa [Lit.wf, IntKind.min, IntKind.max, IntKind.signed, IntKind.bits] using h
  exact this.2

set_option maxRecDepth 100000 in
/-- What the opening of a []string gives, as the walks want it. -/
theorem strsArg_of {W : World} {x : Addr} {len cap : Nat} {ss : List ByteArray} (hl : len ≤ cap) (hm : cap ≤ maxLen) (hz' : ss.length = cap)
    (hcell : ∀ i, i < ss.length → W.cell? (x.add i) = some (.string (ss.getD i ByteArray.empty))) (hws : ∀ s ∈ ss, s.size ≤ maxLen) : ∃ ss2, StrsArg W (some x) len ss2 := by
  refine ⟨ss.take len, by simp; omega, by unfold maxLen at *; omega, fun s hs => hws s (List.mem_of_mem_take hs), ?_⟩
  by_cases h0 : len = 0
  · exact .inl h0
  · right
    obtain ⟨b, off, spot⟩ := x
    have hspot : spot = none := by simpa [Addr.add] using World.cell?_spot (hcell 0 (by omega))
    subst hspot
    have hc0 := hcell 0 (by omega)
    refine ⟨b, off, rfl, ?_, fun j hj => ?_⟩
    · have := World.block_lt_of_cell? W _ hc0
      simpa [Addr.add] using this
    · have hj' : j < ss.length := by simp at hj; omega
      have h1 := hcell j hj'
      rw [Go.WideShapes.add_plain] at h1
      rw [h1]
      simp [List.getElem?_eq_getElem hj']

set_option maxRecDepth 100000 in
/-- An argument of type []string, opened. -/
theorem strs_opened {H : Type} {enc : TypeId × Value → H} {W : World} {v : Value} {d : DataW H} {p : List MemPlace} {base : Nat}
    (hok : Value.okWide Tryd.prog W .any base 39 v) (h : DataW.Trod enc Tryd.prog W 0 (fun _ => true) true 39 v d p) :
    ∃ a len cap ss, v = .slice a len cap ∧ StrsArg W a len ss := by
  obtain ⟨a, len, cap, rfl⟩ := okWide_slice Tryd.underlying39 hok
  obtain ⟨fuel, hf⟩ := h
  rcases open_strings Tryd.underlying39 Tryd.underlying9 (by kernel_rfl) hf with ⟨hcs, _⟩ | ⟨x, l, c, ss, hcs, _, hl, hm, hz, _, hcell, hws⟩
  · simp [Value.cells] at hcs
    obtain ⟨rfl, rfl, rfl⟩ := hcs
    exact ⟨_, _, _, [], rfl, rfl, by decide, by simp, .inl rfl⟩
  · simp [Value.cells] at hcs
    obtain ⟨rfl, rfl, rfl⟩ := hcs
    obtain ⟨ss2, h2⟩ := strsArg_of hl hm (by simpa using hz) hcell hws
    exact ⟨_, _, _, ss2, rfl, h2⟩

end Go.Proofs.YthhpijmkhhdhhaaDoor
