/- How arguments that are slices of structs are opened. -/
import Derived.Test.YthhpijmkhhdhhaaDoorArgs
import Derived.Deep.Slices
import Derived.Deep.Strs
namespace Go.Proofs.YthhpijmkhhdhhaaDoor
open Go.ChangeShapes Go.WideShapes Go.ChangeAt Go.RowKit
set_option linter.unusedVariables false
set_option linter.unusedSimpArgs false

set_option maxRecDepth 100000 in
/-- A slice's elements, as rows of cells that read. -/
theorem slice_cells {H : Type} {enc : TypeId × Value → H} {W : World} {v : Value} {d : DataW H} {p : List MemPlace} {base : Nat} {T E : TypeId} (K : Nat)
    (hT : Tryd.prog.underlying T = some (.slice E)) (hK : Tryd.prog.cellsOf E = K) (hK0 : 0 < K)
    (hok : Value.okWide Tryd.prog W .any base T v) (h : DataW.Trod enc Tryd.prog W 0 (fun _ => true) true T v d p) :
    ∃ a len cap, v = .slice a len cap ∧ len ≤ maxLen ∧ (len = 0 ∨ ∃ b o, a = some ⟨b, o, none⟩ ∧ b < W.heap.size ∧ ∀ i, i < len →
      ∃ cs : List Value, cs.length = K ∧ (∀ j, j < K → W.cell? ⟨b, o + i * K + j, none⟩ = cs[j]?) ∧ ∃ n y, DataW.trod enc Tryd.prog W 0 (fun _ => true) true n E cs = some y) := by
  obtain ⟨a, len, cap, rfl⟩ := okWide_slice hT hok
  obtain ⟨fuel, hf⟩ := h
  rcases Deep.open_slice hT hf with ⟨hcs, _⟩ | ⟨x, l, c, m, n, D, Pl, hcs, _, hl, hm, hmm, _, hx⟩
  · simp [Value.cells] at hcs
    obtain ⟨rfl, rfl, rfl⟩ := hcs
    exact ⟨_, _, _, rfl, by decide, .inl rfl⟩
  · simp [Value.cells] at hcs
    obtain ⟨rfl, rfl, rfl⟩ := hcs
    have hmc : m = cap := by simpa using hmm
    subst hmc
    refine ⟨_, _, _, rfl, by unfold maxLen at *; omega, ?_⟩
    by_cases h0 : len = 0
    · exact .inl h0
    · right
      obtain ⟨b, off, spot⟩ := x
      have hspot : spot = none := by
        obtain ⟨cs', h1, _⟩ := hx 0 (by omega)
        obtain ⟨_, hlen, hc⟩ := World.cells?_some h1
        have h2 := hc 0 (by rw [hK]; exact hK0)
        have h3 : ∃ u, cs'[0]? = some u := ⟨cs'[0]'(by omega), List.getElem?_eq_getElem _⟩
        obtain ⟨u, hu⟩ := h3
        rw [hu] at h2
        simpa [Addr.add] using World.cell?_spot h2
      subst hspot
      have hadd : ∀ i j, ((⟨b, off, none⟩ : Addr).add i).add j = ⟨b, off + i + j, none⟩ := fun i j => by rw [Go.WideShapes.add_plain, Go.WideShapes.add_plain]
      have hb : b < W.heap.size := by
        obtain ⟨cs', h1, _⟩ := hx 0 (by omega)
        obtain ⟨_, hlen, hc⟩ := World.cells?_some h1
        have h2 := hc 0 (by rw [hK]; exact hK0)
        have h3 : ∃ u, cs'[0]? = some u := ⟨cs'[0]'(by omega), List.getElem?_eq_getElem _⟩
        obtain ⟨u, hu⟩ := h3
        rw [hu, hadd] at h2
        exact World.block_lt_of_cell? W _ h2
      refine ⟨b, off, rfl, hb, fun i hi => ?_⟩
      obtain ⟨cs', h1, h2⟩ := hx i (by omega)
      obtain ⟨_, hlen, hc⟩ := World.cells?_some h1
      rw [hK] at hlen hc
      exact ⟨cs', hlen, fun j hj => by rw [← hadd]; exact hc j hj, n, _, h2⟩

end Go.Proofs.YthhpijmkhhdhhaaDoor
