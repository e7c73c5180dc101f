/- How the arguments of layer 7's laws are opened. -/
import Derived.Test.YthhpijmkhhdhhaaArgs2
import Derived.Test.YthhpijmkhhdhhaaPar8
import Derived.ChangeSame
namespace Go.Proofs.Ythhpijmkhhdhhaa
open Go.ChangeShapes Go.WideShapes Go.ChangeAt Go.RowKit
set_option linter.unusedVariables false
set_option linter.unusedSimpArgs false

set_option maxRecDepth 100000 in
theorem par_opened {H : Type} {enc : TypeId × Value → H} {W : World} {n : Nat} {cs : List Value} {y : DataW H × List MemPlace} (h : DataW.trod enc Try.prog W 0 (fun _ => true) true n 85 cs = some y) :
    ∃ p : List UInt8 × List UInt8, cs = [.string (bs p.1), .string (bs p.2)] ∧ p.1.length ≤ maxLen ∧ p.2.length ≤ maxLen := by
  obtain ⟨y0, y1, m, _, hl, h0, h1⟩ := trod_struct2 Try.underlying85 h
  have c2 : Try.prog.cellsOf 9 = 1 := by kernel_rfl
  have c3 : Try.prog.cellsOf 85 = 2 := by kernel_rfl
  rw [c3] at hl
  obtain ⟨u0, u1, rfl⟩ : ∃ u0 u1, cs = [u0, u1] := by
    match cs, hl with
    | [u0, u1], _ => exact ⟨u0, u1, rfl⟩
  simp only [c2] at h0 h1
  obtain ⟨x0, e0, _, z0⟩ := DataW.trod_string Try.underlying9 h0
  obtain ⟨x1, e1, _, z1⟩ := DataW.trod_string Try.underlying9 h1
  simp at e0 e1
  subst e0 e1
  exact ⟨(x0.data.toList, x1.data.toList), by simp only [bs_self], by rw [← Lib.size_eq]; exact z0, by rw [← Lib.size_eq]; exact z1⟩

instance : Inhabited (List UInt8 × List UInt8) := ⟨([], [])⟩

set_option maxRecDepth 100000 in
theorem params_opened {H : Type} {enc : TypeId × Value → H} {W : World} {v : Value} {d : DataW H} {p : List MemPlace} {base : Nat}
    (hok : Value.okWide Try.prog W .any base 72 v) (h : DataW.Trod enc Try.prog W 0 (fun _ => true) true 72 v d p) :
    ∃ a len cap ps, v = .slice a len cap ∧ PsArg W a len ps := by
  obtain ⟨a, len, cap, rfl, hm, hr⟩ := slice_cells 2 Try.underlying72 (by kernel_rfl) (by decide) hok h
  rcases hr with rfl | ⟨b, o, ha, hb, hc⟩
  · exact ⟨a, 0, cap, [], rfl, rfl, by decide, by simp, .inl rfl⟩
  · obtain ⟨f, hf⟩ := Deep.choose_lt (α := List UInt8 × List UInt8) (p := fun i p => W.cell? ⟨b, o + i * 2, none⟩ = some (.string (bs p.1)) ∧ W.cell? ⟨b, o + i * 2 + 1, none⟩ = some (.string (bs p.2)) ∧ p.1.length ≤ maxLen ∧ p.2.length ≤ maxLen) (n := len) (fun i hi => by
      obtain ⟨cs, _, hj, n, y, hy⟩ := hc i hi
      obtain ⟨p, rfl, hd⟩ := par_opened hy
      exact ⟨p, by have := hj 0 (by decide); simpa using this, by have := hj 1 (by decide); simpa using this, hd⟩)
    refine ⟨a, len, cap, (List.range len).map f, rfl, by simp, hm, fun d hd => ?_, .inr ⟨b, o, ha, hb, fun j hj => ?_⟩⟩
    · obtain ⟨i, hi, rfl⟩ := List.mem_map.1 hd
      exact (hf i (by simpa using hi)).2.2
    · have hj' : j < len := by simpa using hj
      obtain ⟨x0, x1, _⟩ := hf j hj'
      simp only [List.getElem_map, List.getElem_range]
      exact ⟨x0, x1⟩

end Go.Proofs.Ythhpijmkhhdhhaa
