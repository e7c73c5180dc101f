/- An argument of type api.Ref, opened. -/
import Derived.Test.YthhpijmkhhdhhaaArgs2
import Derived.Test.YthhpijmkhhdhhaaRefA
import Derived.ChangeSame
namespace Go.Proofs.Ythhpijmkhhdhhaa
open Go.ChangeShapes Go.WideShapes Go.ChangeAt Go.RowKit
set_option linter.unusedVariables false
set_option linter.unusedSimpArgs false

theorem list8 {α : Type} {l : List α} (h : l.length = 8) : ∃ c0 c1 c2 c3 c4 c5 c6 c7, l = [c0, c1, c2, c3, c4, c5, c6, c7] := by
  match l, h with
  | [c0, c1, c2, c3, c4, c5, c6, c7], _ => exact ⟨c0, c1, c2, c3, c4, c5, c6, c7, rfl⟩

set_option maxRecDepth 100000 in
theorem ref_row_opened {H : Type} {enc : TypeId × Value → H} {W : World} {n : Nat} {cs : List Value} {y : DataW H × List MemPlace} (h : DataW.trod enc Try.prog W 0 (fun _ => true) true n 95 cs = some y) :
    ∃ r : RefB, cs = r.cells.toList ∧ r.S.size ≤ maxLen ∧ r.A.size ≤ maxLen ∧ r.Pa.size ≤ maxLen ∧ r.Q.size ≤ maxLen ∧ r.F.size ≤ maxLen := by
  obtain ⟨xs, m, _, _, hl, hlen, hf⟩ := DataW.trod_struct Try.underlying95 h
  have c1 : Try.prog.cellsOf 9 = 1 := by kernel_rfl
  have c2 : Try.prog.cellsOf 4 = 1 := by kernel_rfl
  have c3 : Try.prog.cellsOf 95 = 8 := by kernel_rfl
  rw [c3] at hl
  obtain ⟨u0, u1, u2, u3, u4, u5, u6, u7, rfl⟩ := list8 hl
  obtain ⟨y0, y1, y2, y3, y4, y5, y6, y7, rfl⟩ := list8 hlen
  have h0 : DataW.trod enc Try.prog W 0 (fun _ => true) true m 9 [u0] = some y0 := by simpa [c1] using hf 0 _ rfl
  have h1 : DataW.trod enc Try.prog W 0 (fun _ => true) true m 9 [u1] = some y1 := by simpa [c1] using hf 1 _ rfl
  have h2 : DataW.trod enc Try.prog W 0 (fun _ => true) true m 9 [u2] = some y2 := by simpa [c1] using hf 2 _ rfl
  have h3 : DataW.trod enc Try.prog W 0 (fun _ => true) true m 9 [u3] = some y3 := by simpa [c1] using hf 3 _ rfl
  have h4 : DataW.trod enc Try.prog W 0 (fun _ => true) true m 9 [u4] = some y4 := by simpa [c1] using hf 4 _ rfl
  have h5 : DataW.trod enc Try.prog W 0 (fun _ => true) true m 4 [u5] = some y5 := by simpa [c2] using hf 5 _ rfl
  have h6 : DataW.trod enc Try.prog W 0 (fun _ => true) true m 4 [u6] = some y6 := by simpa [c2] using hf 6 _ rfl
  have h7 : DataW.trod enc Try.prog W 0 (fun _ => true) true m 4 [u7] = some y7 := by simpa [c2] using hf 7 _ rfl
  obtain ⟨x0, e0, _, z0⟩ := DataW.trod_string Try.underlying9 h0
  obtain ⟨x1, e1, _, z1⟩ := DataW.trod_string Try.underlying9 h1
  obtain ⟨x2, e2, _, z2⟩ := DataW.trod_string Try.underlying9 h2
  obtain ⟨x3, e3, _, z3⟩ := DataW.trod_string Try.underlying9 h3
  obtain ⟨x4, e4, _, z4⟩ := DataW.trod_string Try.underlying9 h4
  obtain ⟨x5, e5, _⟩ := DataW.trod_bool Try.underlying4 h5
  obtain ⟨x6, e6, _⟩ := DataW.trod_bool Try.underlying4 h6
  obtain ⟨x7, e7, _⟩ := DataW.trod_bool Try.underlying4 h7
  simp at e0 e1 e2 e3 e4 e5 e6 e7
  subst e0 e1 e2 e3 e4 e5 e6 e7
  exact ⟨⟨x0, x1, x2, x3, x4, x5, x6, x7⟩, rfl, z0, z1, z2, z3, z4⟩

set_option maxRecDepth 100000 in
theorem ref_opened {H : Type} {enc : TypeId × Value → H} {W : World} {v : Value} {d : DataW H} {p : List MemPlace} {base : Nat}
    (hok : Value.okWide Try.prog W .any base 95 v) (h : DataW.Trod enc Try.prog W 0 (fun _ => true) true 95 v d p) :
    ∃ r : RefB, v = r.val ∧ r.S.size ≤ maxLen ∧ r.A.size ≤ maxLen ∧ r.Pa.size ≤ maxLen ∧ r.Q.size ≤ maxLen ∧ r.F.size ≤ maxLen := by
  obtain ⟨cs, rfl, _⟩ := okWide_struct Try.underlying95 hok
  obtain ⟨fuel, hf⟩ := h
  obtain ⟨r, hr, hz⟩ := ref_row_opened hf
  have hcs : cs.toList = r.cells.toList := hr
  exact ⟨r, by rw [← Array.toArray_toList (xs := cs), hcs, Array.toArray_toList]; rfl, hz⟩

end Go.Proofs.Ythhpijmkhhdhhaa
