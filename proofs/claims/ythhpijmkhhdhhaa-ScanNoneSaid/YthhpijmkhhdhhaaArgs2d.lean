/- How the arguments of layer 2's laws are opened. -/
import Derived.Test.YthhpijmkhhdhhaaArgs2
namespace Go.Proofs.Ythhpijmkhhdhhaa
open Go.ChangeShapes Go.WideShapes Go.ChangeAt Go.RowKit
set_option linter.unusedVariables false
set_option linter.unusedSimpArgs false

/-- A deed of layer 2's laws. -/
structure D2 where
  kd : Int
  t : ByteArray
  n : Int

def D2.ok (d : D2) : Prop := 0 ≤ d.kd ∧ d.kd ≤ 255 ∧ d.t.size ≤ maxLen ∧ -9223372036854775808 ≤ d.n ∧ d.n ≤ 9223372036854775807

/-- An argument of type []Deed. -/
def DeedsArg2 (w : World) (a : Option Addr) (len : Nat) (ds : List D2) : Prop :=
  ds.length = len ∧ len ≤ maxLen ∧ (∀ d ∈ ds, d.ok) ∧ (len = 0 ∨ ∃ b o, a = some ⟨b, o, none⟩ ∧ b < w.heap.size ∧ ∀ j (h : j < ds.length),
    w.cell? ⟨b, o + j * 3, none⟩ = some (.int .u8 ds[j].kd) ∧ w.cell? ⟨b, o + j * 3 + 1, none⟩ = some (.string ds[j].t) ∧ w.cell? ⟨b, o + j * 3 + 2, none⟩ = some (.int .i64 ds[j].n))

instance : Inhabited D2 := ⟨⟨0, ByteArray.empty, 0⟩⟩

set_option maxRecDepth 100000 in
theorem deed2_opened {H : Type} {enc : TypeId × Value → H} {W : World} {n : Nat} {cs : List Value} {y : DataW H × List MemPlace} (h : DataW.trod enc Try.prog W 0 (fun _ => true) true n 61 cs = some y) :
    ∃ d : D2, cs = [.int .u8 d.kd, .string d.t, .int .i64 d.n] ∧ d.ok := by
  obtain ⟨y0, y1, y2, m, _, hl, h0, h1, h2⟩ := Deep.trod_struct3 Try.underlying61 h
  have c1 : Try.prog.cellsOf 5 = 1 := by kernel_rfl
  have c2 : Try.prog.cellsOf 9 = 1 := by kernel_rfl
  have c4 : Try.prog.cellsOf 3 = 1 := by kernel_rfl
  have c3 : Try.prog.cellsOf 61 = 3 := by kernel_rfl
  rw [c3] at hl
  obtain ⟨u0, u1, u2, rfl⟩ : ∃ u0 u1 u2, cs = [u0, u1, u2] := by
    match cs, hl with
    | [u0, u1, u2], _ => exact ⟨u0, u1, u2, rfl⟩
  simp only [c1, c2, c4] at h0 h1 h2
  obtain ⟨x0, e0, _, z0⟩ := DataW.trod_int Try.underlying5 h0
  obtain ⟨x1, e1, _, z1⟩ := DataW.trod_string Try.underlying9 h1
  obtain ⟨x2, e2, _, z2⟩ := DataW.trod_int Try.underlying3 h2
  simp at e0 e1
  have e2' : ([u0, u1, u2].drop 2).take 1 = [u2] := rfl
  rw [e2'] at e2
  simp at e2
  subst e0 e1 e2
  exact ⟨⟨x0, x1, x2⟩, rfl, u8_lo z0, u8_hi z0, z1, i64_lo z2, i64_hi z2⟩

set_option maxRecDepth 100000 in
theorem deeds2_opened {H : Type} {enc : TypeId × Value → H} {W : World} {v : Value} {d : DataW H} {p : List MemPlace} {base : Nat}
    (hok : Value.okWide Try.prog W .any base 55 v) (h : DataW.Trod enc Try.prog W 0 (fun _ => true) true 55 v d p) :
    ∃ a len cap ds, v = .slice a len cap ∧ DeedsArg2 W a len ds := by
  obtain ⟨a, len, cap, rfl, hm, hr⟩ := slice_cells 3 Try.underlying55 (by kernel_rfl) (by decide) hok h
  rcases hr with rfl | ⟨b, o, ha, hb, hc⟩
  · exact ⟨a, 0, cap, [], rfl, rfl, by decide, by simp, .inl rfl⟩
  · obtain ⟨f, hf⟩ := Deep.choose_lt (α := D2) (p := fun i d => W.cell? ⟨b, o + i * 3, none⟩ = some (.int .u8 d.kd) ∧ W.cell? ⟨b, o + i * 3 + 1, none⟩ = some (.string d.t) ∧ W.cell? ⟨b, o + i * 3 + 2, none⟩ = some (.int .i64 d.n) ∧ d.ok) (n := len) (fun i hi => by
      obtain ⟨cs, _, hj, n, y, hy⟩ := hc i hi
      obtain ⟨d, rfl, hd⟩ := deed2_opened hy
      exact ⟨d, by have := hj 0 (by decide); simpa using this, by have := hj 1 (by decide); simpa using this, by have := hj 2 (by decide); simpa using this, hd⟩)
    refine ⟨a, len, cap, (List.range len).map f, rfl, by simp, hm, fun d hd => ?_, .inr ⟨b, o, ha, hb, fun j hj => ?_⟩⟩
    · obtain ⟨i, hi, rfl⟩ := List.mem_map.1 hd
      exact (hf i (by simpa using hi)).2.2.2
    · have hj' : j < len := by simpa using hj
      obtain ⟨x0, x1, x2, _⟩ := hf j hj'
      simp only [List.getElem_map, List.getElem_range]
      exact ⟨x0, x1, x2⟩

end Go.Proofs.Ythhpijmkhhdhhaa
