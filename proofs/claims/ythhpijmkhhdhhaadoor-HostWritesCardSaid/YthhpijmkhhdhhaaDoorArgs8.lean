/- An argument of type api.Host, opened. -/
import Derived.Test.YthhpijmkhhdhhaaDoorArgs2
import Derived.Test.YthhpijmkhhdhhaaDoorHost
import Derived.ChangeSame
namespace Go.Proofs.YthhpijmkhhdhhaaDoor
open Go.ChangeShapes Go.WideShapes Go.ChangeAt Go.RowKit
set_option linter.unusedVariables false
set_option linter.unusedSimpArgs false

theorem list3 {α : Type} {l : List α} (h : l.length = 3) : ∃ c0 c1 c2, l = [c0, c1, c2] := by
  match l, h with
  | [c0, c1, c2], _ => exact ⟨c0, c1, c2, rfl⟩

set_option maxRecDepth 100000 in
theorem host_row_opened {H : Type} {enc : TypeId × Value → H} {W : World} {n : Nat} {cs : List Value} {y : DataW H × List MemPlace} (h : DataW.trod enc Tryd.prog W 0 (fun _ => true) true n 69 cs = some y) :
    ∃ r : HostB, cs = r.cells.toList ∧ r.Nm.size ≤ maxLen ∧ -9223372036854775808 ≤ r.Po ∧ r.Po ≤ 9223372036854775807 := by
  obtain ⟨xs, m, _, _, hl, hlen, hf⟩ := DataW.trod_struct Tryd.underlying69 h
  have c1 : Tryd.prog.cellsOf 9 = 1 := by kernel_rfl
  have c2 : Tryd.prog.cellsOf 3 = 1 := by kernel_rfl
  have c4 : Tryd.prog.cellsOf 67 = 1 := by kernel_rfl
  have c3 : Tryd.prog.cellsOf 69 = 3 := by kernel_rfl
  rw [c3] at hl
  obtain ⟨u0, u1, u2, rfl⟩ := list3 hl
  obtain ⟨y0, y1, y2, rfl⟩ := list3 hlen
  have h0 : DataW.trod enc Tryd.prog W 0 (fun _ => true) true m 67 [u0] = some y0 := by simpa [c4] using hf 0 _ rfl
  have h1 : DataW.trod enc Tryd.prog W 0 (fun _ => true) true m 9 [u1] = some y1 := by simpa [c1] using hf 1 _ rfl
  have h2 : DataW.trod enc Tryd.prog W 0 (fun _ => true) true m 3 [u2] = some y2 := by simpa [c2] using hf 2 _ rfl
  obtain ⟨x0, e0, _, _⟩ := DataW.trod_int Tryd.underlying67 h0
  obtain ⟨x1, e1, _, z1⟩ := DataW.trod_string Tryd.underlying9 h1
  obtain ⟨x2, e2, _, z2⟩ := DataW.trod_int Tryd.underlying3 h2
  simp at e0 e1 e2
  subst e0 e1 e2
  exact ⟨⟨x0, x1, x2⟩, rfl, z1, i64_lo z2, i64_hi z2⟩

set_option maxRecDepth 100000 in
theorem host_opened {H : Type} {enc : TypeId × Value → H} {W : World} {v : Value} {d : DataW H} {p : List MemPlace} {base : Nat}
    (hok : Value.okWide Tryd.prog W .any base 69 v) (h : DataW.Trod enc Tryd.prog W 0 (fun _ => true) true 69 v d p) :
    ∃ r : HostB, v = r.val ∧ r.Nm.size ≤ maxLen ∧ -9223372036854775808 ≤ r.Po ∧ r.Po ≤ 9223372036854775807 := by
  obtain ⟨cs, rfl, _⟩ := okWide_struct Tryd.underlying69 hok
  obtain ⟨fuel, hf⟩ := h
  obtain ⟨r, hr, hz⟩ := host_row_opened hf
  have hcs : cs.toList = r.cells.toList := hr
  exact ⟨r, by rw [← Array.toArray_toList (xs := cs), hcs, Array.toArray_toList]; rfl, hz⟩

end Go.Proofs.YthhpijmkhhdhhaaDoor
