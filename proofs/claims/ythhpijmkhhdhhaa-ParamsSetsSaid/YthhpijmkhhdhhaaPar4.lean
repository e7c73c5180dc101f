/- Rows of params; the reference's Same. -/
import Derived.Test.YthhpijmkhhdhhaaPar3
import Derived.Test.YthhpijmkhhdhhaaQuote
namespace Go.Proofs.Ythhpijmkhhdhhaa
open Go.RowKit
set_option linter.unusedVariables false
set_option linter.unusedSimpArgs false

def bs (l : List UInt8) : ByteArray := ⟨l.toArray⟩
theorem bs_data (l : List UInt8) : (bs l).data.toList = l := rfl
theorem bs_self (t : ByteArray) : bs t.data.toList = t := mk_self t

/-- Params in memory. -/
def PsAt (w : World) (a : Option Addr) (ps : PL) : Prop :=
  ps = [] ∨ ∃ b o, a = some ⟨b, o, none⟩ ∧ b < w.heap.size ∧ ∀ j (h : j < ps.length), w.cell? ⟨b, o + j * 2, none⟩ = some (.string (bs ps[j].1)) ∧ w.cell? ⟨b, o + j * 2 + 1, none⟩ = some (.string (bs ps[j].2))

theorem psAt_at {w : World} {a : Option Addr} {ps : PL} (h : PsAt w a ps) (j : Nat) (hj : j < ps.length) : ∃ b o, a = some ⟨b, o, none⟩ ∧ b < w.heap.size ∧ w.cell? ⟨b, o + j * 2, none⟩ = some (.string (bs ps[j].1)) ∧ w.cell? ⟨b, o + j * 2 + 1, none⟩ = some (.string (bs ps[j].2)) := by
  rcases h with rfl | ⟨b, o, ha, hb, hc⟩
  · simp at hj
  · exact ⟨b, o, ha, hb, (hc j hj).1, (hc j hj).2⟩

theorem psAt_below {w w1 : World} {a : Option Addr} {ps : PL} (h : PsAt w a ps) (hf : Below w.heap.size w w1) : PsAt w1 a ps := by
  rcases h with h | ⟨b, o, ha, hb, hc⟩
  · exact .inl h
  · exact .inr ⟨b, o, ha, Nat.lt_of_lt_of_le hb hf.size, fun j hj => by rw [hf.cell (by exact hb), hf.cell (by exact hb)]; exact hc j hj⟩

theorem pCells_at (ps : PL) (j : Nat) (h : j < ps.length) : (pCells ps)[j * 2]? = some (.string (bs ps[j].1)) ∧ (pCells ps)[j * 2 + 1]? = some (.string (bs ps[j].2)) := by
  induction ps generalizing j with
  | nil => simp at h
  | cons p r ih =>
    have e : pCells (p :: r) = .string (bs p.1) :: .string (bs p.2) :: pCells r := rfl
    cases j with
    | zero => rw [e]; exact ⟨rfl, rfl⟩
    | succ j =>
      have := ih j (by simpa using h)
      rw [e, show (j + 1) * 2 = j * 2 + 1 + 1 from by omega]
      exact this

theorem pCells_len (ps : PL) : (pCells ps).length = ps.length * 2 := by
  induction ps with
  | nil => rfl
  | cons p r ih =>
    have e : pCells (p :: r) = .string (bs p.1) :: .string (bs p.2) :: pCells r := rfl
    rw [e]; simp only [List.length_cons]; omega

/-- A row of params of the call's own. -/
theorem psAt_own {w : World} {A : Nat} {v : Value} {ps : PL} (h : w.ownsRow A 85 2 v ps.length (pCells ps)) : ∃ a c, v = .slice a ps.length c ∧ PsAt w a ps ∧ (a = none → c = 0) ∧ ps.length ≤ c := by
  rcases h.2 with ⟨rfl, hz⟩ | ⟨g, cp, cur, rfl, _, hg, hcp, _, _, htk⟩
  · exact ⟨none, 0, by rw [hz], .inl (List.eq_nil_of_length_eq_zero hz), fun _ => rfl, by omega⟩
  · refine ⟨_, _, rfl, .inr ⟨g, 0, rfl, lt_of_block hg, fun j hj => ?_⟩, fun h => (by cases h), hcp⟩
    have h3 := pCells_at ps j hj
    rw [← htk] at h3
    rw [List.getElem?_take, List.getElem?_take] at h3
    rw [Nat.zero_add, cell_of_row w g (j * 2) _ _ _ hg, cell_of_row w g (j * 2 + 1) _ _ _ hg]
    have h4 := h3.1
    have h5 := h3.2
    split at h4
    · split at h5
      · exact ⟨by simpa using h4, by simpa using h5⟩
      · cases h5
    · cases h4

set_option maxRecDepth 100000 in
theorem same_true (w : World) (a1 a2 : Option Addr) (n1 n2 c1 c2 : Nat) (ps : PL) (h1 : PsAt w a1 ps) (h2 : PsAt w a2 ps) (hn1 : n1 = ps.length) (hn2 : n2 = ps.length) (hn : ps.length ≤ 1000000) :
    Calls Try.prog 87 #[.slice a1 n1 c1, .slice a2 n2 c2] w fun e w' => e = .returned (.bool true) ∧ Below w.heap.size w w' := by
  subst hn1 hn2
  have h0 : ((ps.length : Int) != (ps.length : Int)) = false := by simp
  have H1 := Lib.hid h1; clear h1
  have H2 := Lib.hid h2; clear h2
  go_enter Try.func87, Try.ntmps87
  go_wp2_with fail
  go_loopw [5] (fun i wr => ∃ k : Nat, k ≤ ps.length ∧ i = .int .i64 k ∧ Below w.heap.size w wr) (fun i _ => ps.length - (intOf i).toNat)
  case atStart => exact ⟨0, Nat.zero_le _, rfl, Below.refl _ _⟩
  case round =>
    obtain ⟨k, hk, rfl, hbl⟩ := hrel
    by_cases hlt : k < ps.length
    · obtain ⟨b1, o1, rfl, _, x0, x1⟩ := psAt_at (psAt_below H1.out hbl) k hlt
      obtain ⟨b2, o2, rfl, _, y0, y1⟩ := psAt_at (psAt_below H2.out hbl) k hlt
      generalize bs ps[k].1 = u1 at x0 y0
      generalize bs ps[k].2 = u2 at x1 y1
      have HB := Lib.hid hbl; clear hbl
      go_wp2_with fail
      go_quiet (fail)
      go_wp2_with fail
      go_roundw
      case rel => exact ⟨k + 1, by omega, by go_num, below_drewN' HB.out _⟩
      case measure => simp [intOf]; omega
    · obtain rfl : k = ps.length := by omega
      go_wp2_with fail
      go_ret
      exact ⟨rfl, hbl⟩

end Go.Proofs.Ythhpijmkhhdhhaa
