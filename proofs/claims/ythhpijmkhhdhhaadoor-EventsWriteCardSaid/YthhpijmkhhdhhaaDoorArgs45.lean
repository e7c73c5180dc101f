/- Arguments of types api.Event and []api.Event, opened. -/
import Derived.Test.YthhpijmkhhdhhaaDoorArgs3
import Derived.Test.YthhpijmkhhdhhaaDoorEvN
import Derived.Lib.SmallJoins
import Derived.ChangeSame
namespace Go.Proofs.YthhpijmkhhdhhaaDoor
open Go.ChangeShapes Go.WideShapes Go.ChangeAt Go.RowKit
set_option linter.unusedVariables false
set_option linter.unusedSimpArgs false

set_option maxRecDepth 100000 in
theorem ev_row_opened {H : Type} {enc : TypeId × Value → H} {W : World} {n : Nat} {cs : List Value} {y : DataW H × List MemPlace} (h : DataW.trod enc Tryd.prog W 0 (fun _ => true) true n 47 cs = some y) :
    ∃ p : Int × Int, cs = [.int .i64 p.1, .int .i64 p.2] ∧ -9223372036854775808 ≤ p.2 ∧ p.2 ≤ 9223372036854775807 := by
  obtain ⟨y0, y1, m, _, hl, h0, h1⟩ := trod_struct2 Tryd.underlying47 h
  have c2 : Tryd.prog.cellsOf 45 = 1 := by kernel_rfl
  have c4 : Tryd.prog.cellsOf 3 = 1 := by kernel_rfl
  have c3 : Tryd.prog.cellsOf 47 = 2 := by kernel_rfl
  rw [c3] at hl
  obtain ⟨u0, u1, rfl⟩ : ∃ u0 u1, cs = [u0, u1] := by
    match cs, hl with
    | [u0, u1], _ => exact ⟨u0, u1, rfl⟩
  simp only [c2, c4] at h0 h1
  obtain ⟨x0, e0, _, z0⟩ := DataW.trod_int Tryd.underlying45 h0
  obtain ⟨x1, e1, _, z1⟩ := DataW.trod_int Tryd.underlying3 h1
  simp at e0 e1
  subst e0 e1
  exact ⟨(x0, x1), rfl, i64_lo z1, i64_hi z1⟩

set_option maxRecDepth 100000 in
theorem event_opened {H : Type} {enc : TypeId × Value → H} {W : World} {v : Value} {d : DataW H} {p : List MemPlace} {base : Nat}
    (hok : Value.okWide Tryd.prog W .any base 47 v) (h : DataW.Trod enc Tryd.prog W 0 (fun _ => true) true 47 v d p) :
    ∃ k n, v = .agg #[.int .i64 k, .int .i64 n] ∧ -9223372036854775808 ≤ n ∧ n ≤ 9223372036854775807 := by
  obtain ⟨cs, rfl, _⟩ := okWide_struct Tryd.underlying47 hok
  obtain ⟨fuel, hf⟩ := h
  obtain ⟨q, hq, h0, h1⟩ := ev_row_opened hf
  have hcs : cs.toList = [.int .i64 q.1, .int .i64 q.2] := hq
  exact ⟨q.1, q.2, by rw [← Array.toArray_toList (xs := cs), hcs], h0, h1⟩

set_option maxRecDepth 100000 in
theorem events_opened {H : Type} {enc : TypeId × Value → H} {W : World} {v : Value} {d : DataW H} {p : List MemPlace} {base : Nat}
    (hok : Value.okWide Tryd.prog W .any base 57 v) (h : DataW.Trod enc Tryd.prog W 0 (fun _ => true) true 57 v d p) :
    ∃ a len cap xs, v = .slice a len cap ∧ len ≤ cap ∧ len ≤ maxLen ∧ len = xs.length ∧ EvsAt W a xs ∧ EvsOk xs := by
  obtain ⟨a, len, cap, rfl, hlc, hm, hr⟩ := slice_cells_cap 2 Tryd.underlying57 (by kernel_rfl) (by decide) hok h
  rcases hr with rfl | ⟨b, o, ha, hb, hc⟩
  · exact ⟨a, 0, cap, [], rfl, hlc, hm, rfl, .inl rfl, by intro x hx; simp at hx⟩
  · obtain ⟨f, hf⟩ := Deep.choose_lt (α := Int × Int) (p := fun i x => (W.cell? ⟨b, o + i * 2, none⟩ = some (.int .i64 x.1) ∧ W.cell? ⟨b, o + i * 2 + 1, none⟩ = some (.int .i64 x.2)) ∧ -9223372036854775808 ≤ x.2 ∧ x.2 ≤ 9223372036854775807) (n := len) (fun i hi => by
      obtain ⟨cs, hl, hj, n, y, hy⟩ := hc i hi
      obtain ⟨q, rfl, h0, h1⟩ := ev_row_opened hy
      exact ⟨q, ⟨hj 0 (by decide), hj 1 (by decide)⟩, h0, h1⟩)
    refine ⟨a, len, cap, (List.range len).map f, rfl, hlc, hm, by simp, .inr ⟨b, o, ha, hb, fun j hj => ?_⟩, fun x hx => ?_⟩
    · have hj' : j < len := by simpa using hj
      simp only [List.getElem_map, List.getElem_range]
      exact (hf j hj').1
    · obtain ⟨i, hi, rfl⟩ := List.mem_map.1 hx
      exact (hf i (by simpa using hi)).2

end Go.Proofs.YthhpijmkhhdhhaaDoor
