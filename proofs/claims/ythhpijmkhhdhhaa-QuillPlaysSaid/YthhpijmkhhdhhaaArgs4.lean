/- How the argument of QuillPlays is opened. -/
import Derived.Test.YthhpijmkhhdhhaaArgs2
import Derived.Test.YthhpijmkhhdhhaaLaw4p
namespace Go.Proofs.Ythhpijmkhhdhhaa
open Go.ChangeShapes Go.WideShapes Go.ChangeAt Go.RowKit
set_option linter.unusedVariables false
set_option linter.unusedSimpArgs false

instance : Inhabited D4 := ⟨⟨false, false, none, 0, 0, []⟩⟩

set_option maxRecDepth 100000 in
theorem deed4_opened {H : Type} {enc : TypeId × Value → H} {W : World} {n : Nat} {cs : List Value} {y : DataW H × List MemPlace} (h : DataW.trod enc Try.prog W 0 (fun _ => true) true n 40 cs = some y) :
    ∃ d : D4, cs = [.bool d.line, .bool d.take, .slice d.a d.len d.cap] ∧ StrsArg W d.a d.len d.ss := by
  obtain ⟨y0, y1, y2, m, _, hl, h0, h1, h2⟩ := Deep.trod_struct3 Try.underlying40 h
  have c1 : Try.prog.cellsOf 4 = 1 := by kernel_rfl
  have c2 : Try.prog.cellsOf 26 = 1 := by kernel_rfl
  have c3 : Try.prog.cellsOf 40 = 3 := by kernel_rfl
  rw [c3] at hl
  obtain ⟨u0, u1, u2, rfl⟩ : ∃ u0 u1 u2, cs = [u0, u1, u2] := by
    match cs, hl with
    | [u0, u1, u2], _ => exact ⟨u0, u1, u2, rfl⟩
  simp only [c1, c2] at h0 h1 h2
  obtain ⟨x0, e0, _⟩ := DataW.trod_bool Try.underlying4 h0
  obtain ⟨x1, e1, _⟩ := DataW.trod_bool Try.underlying4 h1
  simp at e0 e1
  have e2 : ([u0, u1, u2].drop 2).take 1 = [u2] := rfl
  rw [e2] at h2
  subst e0 e1
  rcases open_strings Try.underlying26 Try.underlying9 (by kernel_rfl) h2 with ⟨hcs, _⟩ | ⟨x, l, c, ss, hcs, _, hl2, hm2, hz2, _, hcell, hws⟩
  · simp at hcs
    subst hcs
    exact ⟨⟨x0, x1, none, 0, 0, []⟩, rfl, rfl, Nat.zero_le _, by simp, .inl rfl⟩
  · simp at hcs
    subst hcs
    obtain ⟨ss2, hss⟩ := strsArg_of hl2 hm2 (by simpa using hz2) hcell hws
    exact ⟨⟨x0, x1, some x, l, c, ss2⟩, rfl, hss⟩

set_option maxRecDepth 100000 in
theorem deeds4_opened {H : Type} {enc : TypeId × Value → H} {W : World} {v : Value} {d : DataW H} {p : List MemPlace} {base : Nat}
    (hok : Value.okWide Try.prog W .any base 36 v) (h : DataW.Trod enc Try.prog W 0 (fun _ => true) true 36 v d p) :
    ∃ a len cap ds, v = .slice a len cap ∧ DeedsArg W a len ds := by
  obtain ⟨a, len, cap, rfl, hm, hr⟩ := slice_cells 3 Try.underlying36 (by kernel_rfl) (by decide) hok h
  rcases hr with rfl | ⟨b, o, ha, hb, hc⟩
  · exact ⟨a, 0, cap, [], rfl, rfl, by decide, by simp, .inl rfl⟩
  · obtain ⟨f, hf⟩ := Deep.choose_lt (α := D4) (p := fun i d => W.cell? ⟨b, o + i * 3, none⟩ = some (.bool d.line) ∧ W.cell? ⟨b, o + i * 3 + 1, none⟩ = some (.bool d.take) ∧ W.cell? ⟨b, o + i * 3 + 2, none⟩ = some (.slice d.a d.len d.cap) ∧ StrsArg W d.a d.len d.ss) (n := len) (fun i hi => by
      obtain ⟨cs, _, hj, n, y, hy⟩ := hc i hi
      obtain ⟨d, rfl, hd⟩ := deed4_opened hy
      exact ⟨d, by have := hj 0 (by decide); simpa using this, by have := hj 1 (by decide); simpa using this, by have := hj 2 (by decide); simpa using this, hd⟩)
    refine ⟨a, len, cap, (List.range len).map f, rfl, by simp, hm, fun d hd => ?_, .inr ⟨b, o, ha, hb, fun j hj => ?_⟩⟩
    · obtain ⟨i, hi, rfl⟩ := List.mem_map.1 hd
      exact (hf i (by simpa using hi)).2.2.2
    · have hj' : j < len := by simpa using hj
      obtain ⟨x0, x1, x2, _⟩ := hf j hj'
      simp only [List.getElem_map, List.getElem_range]
      exact ⟨x0, x1, x2⟩

end Go.Proofs.Ythhpijmkhhdhhaa
