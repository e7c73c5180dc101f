/- Rows of swaps. -/
import Derived.Test.YthhpijmkhhdhhaaRefD
import Derived.Test.YthhpijmkhhdhhaaArgs2
import Derived.ChangeSame
import Derived.Deep.RegionHeld3
namespace Go.Proofs.Ythhpijmkhhdhhaa
open Go.ChangeShapes Go.WideShapes Go.ChangeAt Go.RowKit
set_option linter.unusedVariables false
set_option linter.unusedSimpArgs false

abbrev PL := List (List UInt8 × List UInt8)
def bs (l : List UInt8) : ByteArray := ⟨l.toArray⟩
theorem bs_data (l : List UInt8) : (bs l).data.toList = l := rfl
theorem bs_self (t : ByteArray) : bs t.data.toList = t := bytes_extX rfl
theorem bs_size (l : List UInt8) : (bs l).size = l.length := by rw [Lib.size_eq]; rfl
theorem ps_drop (ps : PL) (k : Nat) (h : k < ps.length) : ps.drop k = ps[k] :: ps.drop (k + 1) := List.drop_eq_getElem_cons h

theorem info_par : (Try.prog.info? 90).map (fun i => (i.zero, i.size, i.bytes)) = some (some (.agg #[.string ByteArray.empty, .string ByteArray.empty]), 2, 32) := by kernel_rfl

def pCells (ps : PL) : List Value := ps.flatMap fun p => [.string ⟨p.1.toArray⟩, .string ⟨p.2.toArray⟩]
theorem pCells_snoc (ps : PL) (p : List UInt8 × List UInt8) : pCells (ps ++ [p]) = pCells ps ++ [.string ⟨p.1.toArray⟩, .string ⟨p.2.toArray⟩] := by unfold pCells; rw [List.flatMap_append]; simp

/-- Params in memory. -/
def PsAt (w : World) (a : Option Addr) (ps : PL) : Prop :=
  ps = [] ∨ ∃ b o, a = some ⟨b, o, none⟩ ∧ b < w.heap.size ∧ ∀ j (h : j < ps.length), w.cell? ⟨b, o + j * 2, none⟩ = some (.string (bs ps[j].1)) ∧ w.cell? ⟨b, o + j * 2 + 1, none⟩ = some (.string (bs ps[j].2))

theorem psAt_at {w : World} {a : Option Addr} {ps : PL} (h : PsAt w a ps) (j : Nat) (hj : j < ps.length) : ∃ b o, a = some ⟨b, o, none⟩ ∧ b < w.heap.size ∧ w.cell? ⟨b, o + j * 2, none⟩ = some (.string (bs ps[j].1)) ∧ w.cell? ⟨b, o + j * 2 + 1, none⟩ = some (.string (bs ps[j].2)) := by
  rcases h with rfl | ⟨b, o, ha, hb, hc⟩
  · simp at hj
  · exact ⟨b, o, ha, hb, (hc j hj).1, (hc j hj).2⟩

theorem psAt_below {w w1 : World} {a : Option Addr} {ps : PL} (h : PsAt w a ps) (hf : Below w.heap.size w w1) : PsAt w1 a ps := by
  rcases h with h | ⟨b, o, ha, hb, hc⟩
  · exact .inl h
  · exact .inr ⟨b, o, ha, Nat.lt_of_lt_of_le hb hf.size, fun j hj => by rw [hf.cell (by exact hb), hf.cell (by exact hb)]; exact hc j hj⟩

theorem pCells_at (ps : PL) (j : Nat) (h : j < ps.length) : (pCells ps)[j * 2]? = some (.string (bs ps[j].1)) ∧ (pCells ps)[j * 2 + 1]? = some (.string (bs ps[j].2)) := by
  induction ps generalizing j with
  | nil => simp at h
  | cons p r ih =>
    have e : pCells (p :: r) = .string (bs p.1) :: .string (bs p.2) :: pCells r := rfl
    cases j with
    | zero => rw [e]; exact ⟨rfl, rfl⟩
    | succ j =>
      have := ih j (by simpa using h)
      rw [e, show (j + 1) * 2 = j * 2 + 1 + 1 from by omega]
      exact this

theorem pCells_len (ps : PL) : (pCells ps).length = ps.length * 2 := by
  induction ps with
  | nil => rfl
  | cons p r ih =>
    have e : pCells (p :: r) = .string (bs p.1) :: .string (bs p.2) :: pCells r := rfl
    rw [e]; simp only [List.length_cons]; omega

/-- A row of params of the call's own. -/
theorem psAt_own {w : World} {A : Nat} {v : Value} {ps : PL} (h : w.ownsRow A 90 2 v ps.length (pCells ps)) : ∃ a c, v = .slice a ps.length c ∧ PsAt w a ps ∧ (a = none → c = 0) ∧ ps.length ≤ c := by
  rcases h.2 with ⟨rfl, hz⟩ | ⟨g, cp, cur, rfl, _, hg, hcp, _, _, htk⟩
  · exact ⟨none, 0, by rw [hz], .inl (List.eq_nil_of_length_eq_zero hz), fun _ => rfl, by omega⟩
  · refine ⟨_, _, rfl, .inr ⟨g, 0, rfl, lt_of_block hg, fun j hj => ?_⟩, fun h => (by cases h), hcp⟩
    have h3 := pCells_at ps j hj
    rw [← htk] at h3
    rw [List.getElem?_take, List.getElem?_take] at h3
    rw [Nat.zero_add, cell_of_row w g (j * 2) _ _ _ hg, cell_of_row w g (j * 2 + 1) _ _ _ hg]
    have h4 := h3.1
    have h5 := h3.2
    split at h4
    · split at h5
      · exact ⟨by simpa using h4, by simpa using h5⟩
      · cases h5
    · cases h4

/-- An argument of type []Param. -/
def PsArg (w : World) (a : Option Addr) (len : Nat) (ps : PL) : Prop :=
  ps.length = len ∧ len ≤ maxLen ∧ (∀ p ∈ ps, p.1.length ≤ maxLen ∧ p.2.length ≤ maxLen) ∧ PsAt w a ps

theorem cut_bs (l : List UInt8) (n : Nat) (k : Nat) (h : k = min (bs l).size n) : (bs l).extract 0 k = bs (l.take n) := by
  rw [extract_cutX n (bs l) k h]; rfl

set_option maxRecDepth 100000 in
theorem par_opened {H : Type} {enc : TypeId × Value → H} {W : World} {n : Nat} {cs : List Value} {y : DataW H × List MemPlace} (h : DataW.trod enc Try.prog W 0 (fun _ => true) true n 90 cs = some y) :
    ∃ p : List UInt8 × List UInt8, cs = [.string (bs p.1), .string (bs p.2)] ∧ p.1.length ≤ maxLen ∧ p.2.length ≤ maxLen := by
  obtain ⟨y0, y1, m, _, hl, h0, h1⟩ := trod_struct2 Try.underlying90 h
  have c2 : Try.prog.cellsOf 9 = 1 := by kernel_rfl
  have c3 : Try.prog.cellsOf 90 = 2 := by kernel_rfl
  rw [c3] at hl
  obtain ⟨u0, u1, rfl⟩ : ∃ u0 u1, cs = [u0, u1] := by
    match cs, hl with
    | [u0, u1], _ => exact ⟨u0, u1, rfl⟩
  simp only [c2] at h0 h1
  obtain ⟨x0, e0, _, z0⟩ := DataW.trod_string Try.underlying9 h0
  obtain ⟨x1, e1, _, z1⟩ := DataW.trod_string Try.underlying9 h1
  simp at e0 e1
  subst e0 e1
  exact ⟨(x0.data.toList, x1.data.toList), by simp only [bs_self], by rw [← Lib.size_eq]; exact z0, by rw [← Lib.size_eq]; exact z1⟩

instance : Inhabited (List UInt8 × List UInt8) := ⟨([], [])⟩

set_option maxRecDepth 100000 in
theorem params_opened {H : Type} {enc : TypeId × Value → H} {W : World} {v : Value} {d : DataW H} {p : List MemPlace} {base : Nat}
    (hok : Value.okWide Try.prog W .any base 88 v) (h : DataW.Trod enc Try.prog W 0 (fun _ => true) true 88 v d p) :
    ∃ a len cap ps, v = .slice a len cap ∧ PsArg W a len ps := by
  obtain ⟨a, len, cap, rfl, hm, hr⟩ := slice_cells 2 Try.underlying88 (by kernel_rfl) (by decide) hok h
  rcases hr with rfl | ⟨b, o, ha, hb, hc⟩
  · exact ⟨a, 0, cap, [], rfl, rfl, by decide, by simp, .inl rfl⟩
  · obtain ⟨f, hf⟩ := Deep.choose_lt (α := List UInt8 × List UInt8) (p := fun i p => W.cell? ⟨b, o + i * 2, none⟩ = some (.string (bs p.1)) ∧ W.cell? ⟨b, o + i * 2 + 1, none⟩ = some (.string (bs p.2)) ∧ p.1.length ≤ maxLen ∧ p.2.length ≤ maxLen) (n := len) (fun i hi => by
      obtain ⟨cs, _, hj, n, y, hy⟩ := hc i hi
      obtain ⟨p, rfl, hd⟩ := par_opened hy
      exact ⟨p, by have := hj 0 (by decide); simpa using this, by have := hj 1 (by decide); simpa using this, hd⟩)
    refine ⟨a, len, cap, (List.range len).map f, rfl, by simp, hm, fun d hd => ?_, .inr ⟨b, o, ha, hb, fun j hj => ?_⟩⟩
    · obtain ⟨i, hi, rfl⟩ := List.mem_map.1 hd
      exact (hf i (by simpa using hi)).2.2
    · have hj' : j < len := by simpa using hj
      obtain ⟨x0, x1, _⟩ := hf j hj'
      simp only [List.getElem_map, List.getElem_range]
      exact ⟨x0, x1⟩

end Go.Proofs.Ythhpijmkhhdhhaa
