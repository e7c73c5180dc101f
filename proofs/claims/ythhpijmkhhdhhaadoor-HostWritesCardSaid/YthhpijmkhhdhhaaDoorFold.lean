/- Contracts: a text folded. -/
import Derived.Test.YthhpijmkhhdhhaaDoorBytes
namespace Go.Proofs.YthhpijmkhhdhhaaDoor
open Go.RowKit
set_option linter.unusedVariables false
set_option linter.unusedSimpArgs false

/-- A store of a byte into a row of bytes. -/
theorem bytesAt_set (w : World) (B o : Nat) (l : List UInt8) (k : Nat) (hk : k < l.length) (h : BytesAt w B o l) (c : UInt8) (v : Int) (hv : v = (c.toNat : Int)) :
    BytesAt (w.setCell ⟨B, o + k, none⟩ (.int .u8 v)) B o (l.set k c) := by
  intro j hj
  have hj' : j < l.length := by simpa using hj
  by_cases hjk : j = k
  · subst hjk
    rw [World.cell?_setCell_same w _ _ (h j hk)]
    simp [hv]
  · have := h j hj'
    rw [World.cell?_setCell_other _ _ _ _ (by simp), List.getElem_set_ne (by omega), this]

theorem free_set (w : World) (B o n : Nat) (h : FreeAt w B o n) (a : Addr) (u : Value) : FreeAt (w.setCell a u) B o n := by
  intro j hj
  rw [← h j hj]
  exact World.frozen?_setCell _ _ _ _

def foldTo (l : List UInt8) (k : Nat) : List UInt8 := (l.take k).map lowB ++ l.drop k

theorem foldTo_at (l : List UInt8) (k : Nat) (hk : k < l.length) : ∃ h : k < (foldTo l k).length, (foldTo l k)[k] = l[k] := by
  have h : k < (foldTo l k).length := by simp [foldTo]; omega
  refine ⟨h, ?_⟩
  have h2 : (foldTo l k)[k]? = some l[k] := by
    unfold foldTo
    rw [List.getElem?_append_right (by simp; omega)]
    have : k - ((l.take k).map lowB).length = 0 := by simp; omega
    rw [this]
    simp
  exact (List.getElem?_eq_some_iff.1 h2).2

theorem foldTo_step (l : List UInt8) (k : Nat) (hk : k < l.length) : (foldTo l k).set k (lowB l[k]) = foldTo l (k + 1) := by
  unfold foldTo
  rw [List.set_append_right _ _ (by simp; omega), List.take_succ_eq_append_getElem hk, List.drop_eq_getElem_cons hk]
  have : k - ((l.take k).map lowB).length = 0 := by simp; omega
  rw [this, List.map_append, List.append_assoc]
  rfl

theorem foldTo_all (l : List UInt8) : foldTo l l.length = foldL l := by simp [foldTo, foldL]

/-- What the round of octet.Fold's loop keeps. -/
def FoldRel (s : ByteArray) (w : World) (k : Nat) (wr : World) : Prop :=
  Below w.heap.size w wr ∧ w.heap.size < wr.heap.size ∧ BytesAt wr w.heap.size 0 (foldTo s.data.toList k) ∧ FreeAt wr w.heap.size 0 s.size

theorem foldRel_cell {s : ByteArray} {w : World} {k : Nat} {wr : World} (h : FoldRel s w k wr) (hk : k < s.size) :
    wr.cell? ⟨w.heap.size, k, none⟩ = some (.int .u8 (s[k].toNat : Int)) ∧ wr.frozen? ⟨w.heap.size, k, none⟩ = false := by
  obtain ⟨_, _, hb, hf⟩ := h
  obtain ⟨hl, he⟩ := foldTo_at s.data.toList k (by simpa using hk)
  have h1 := hb k hl
  have h2 := hf k hk
  rw [Nat.zero_add] at h1 h2
  rw [he] at h1
  exact ⟨h1, h2⟩

theorem foldRel_step {s : ByteArray} {w : World} {k : Nat} {wr : World} (h : FoldRel s w k wr) (hk : k < s.size) :
    FoldRel s w (k + 1) (wr.setCell ⟨w.heap.size, k, none⟩ (.int .u8 (bLow (s[k].toNat : Int)))) := by
  obtain ⟨ha, hz, hb, hf⟩ := h
  have hk' : k < s.data.toList.length := by simpa using hk
  refine ⟨ha.setCell (Nat.le_refl _) _, by simpa using hz, ?_, free_set _ _ _ _ hf _ _⟩
  obtain ⟨hl, he⟩ := foldTo_at s.data.toList k hk'
  have := bytesAt_set wr w.heap.size 0 _ k hl hb (lowB s[k]) _ (lowB_toNat s[k]).symm
  rw [Nat.zero_add] at this
  rw [← foldTo_step _ _ hk']
  exact this

theorem fold_any (s : ByteArray) (w : World) (hs : s.size ≤ maxLen) :
    Calls Tryd.prog 84 #[.string s] w fun e w' => e = .returned (.string ⟨(foldL s.data.toList).toArray⟩) ∧ Below w.heap.size w w' := by
  unfold maxLen at hs
  obtain ⟨C, cap, hconv, hC, hCs, hcap⟩ := bytes_of_string w s
  obtain ⟨hB0, hF0⟩ := bytes_of_string_world w s C hC hCs
  have HR : FoldRel s w 0 (w.alloc (.cells C 5 (C.size, C.size + 1))).drew := ⟨((Below.refl _ _).alloc (Nat.le_refl _) _).drew, by simp, by simpa [foldTo] using hB0, hF0⟩
  clear hC hCs hB0 hF0
  go_enter Tryd.func84, Tryd.ntmps84
  go_wp2
  go_loopw [4, 5, 10] (fun _ _ i wr => ∃ k : Nat, k ≤ s.size ∧ i = .int .i64 k ∧ FoldRel s w k wr) (fun _ _ i _ => s.size - (intOf i).toNat)
  case atStart => exact ⟨0, Nat.zero_le _, rfl, HR⟩
  case round =>
    obtain ⟨k, hk, rfl, hrel⟩ := hrel
    clear HR hconv
    by_cases hlt : k < s.size
    · obtain ⟨hcell, hfree⟩ := foldRel_cell hrel hlt
      have hb1 : ((s[k].toNat : Nat) : Int) ≤ 255 := by have := s[k].toNat_lt; omega
      go_wp2_with ((go_at_call 93; refine (lower_any _ _ (by omega) hb1).mono ?_; rintro e w' ⟨rfl, rfl⟩))
      go_roundw
      case rel => exact ⟨k + 1, by omega, by go_num, foldRel_step hrel hlt⟩
      case measure => simp [intOf]; omega
    · obtain rfl : k = s.size := by omega
      obtain ⟨hbl, _, hby, _⟩ := hrel
      have hs2 : s.size = s.data.toList.length := by simp
      rw [hs2, foldTo_all] at hby
      have hback := string_of_bytes wr w.heap.size 0 cap _ hby
      have hl : (foldL s.data.toList).length = s.size := by simp [foldL]
      rw [hl] at hback
      clear hl hs2 hby
      go_wp2
      go_ret
      exact ⟨rfl, hbl⟩
end Go.Proofs.YthhpijmkhhdhhaaDoor
