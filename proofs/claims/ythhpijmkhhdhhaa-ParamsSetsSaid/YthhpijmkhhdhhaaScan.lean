/- Contracts of package scan, at a scanner in block c. -/
import Derived.Test.YthhpijmkhhdhhaaQuill
namespace Go.Proofs.Ythhpijmkhhdhhaa
open Go.RowKit
set_option linter.unusedVariables false
set_option linter.unusedSimpArgs false

/-- A scanner in block c: its text and its place. -/
def ScanAt (w : World) (c : Nat) (s : ByteArray) (i : Nat) : Prop := w.heap[c]? = some (.cells #[.string s, .int .i64 (i : Int)] 109 (0, 0)) ∧ i ≤ s.size ∧ s.size ≤ 1000000

/-- Only block c has turned. -/
structure FrC (c : Nat) (w w' : World) : Prop where
  os : w'.os = w.os
  tape : w'.tape = w.tape
  output : w'.output = w.output
  size : w.heap.size ≤ w'.heap.size
  block : ∀ k, k < w.heap.size → k ≠ c → w'.heap[k]? = w.heap[k]?

theorem FrC.refl (c : Nat) (w : World) : FrC c w w := ⟨rfl, rfl, rfl, Nat.le_refl _, fun _ _ _ => rfl⟩
theorem FrC.trans {c : Nat} {w w1 w2 : World} (h : FrC c w w1) (k : FrC c w1 w2) : FrC c w w2 :=
  ⟨k.os.trans h.os, k.tape.trans h.tape, k.output.trans h.output, Nat.le_trans h.size k.size, fun i hi hp => by
    rw [k.block i (Nat.lt_of_lt_of_le hi h.size) hp, h.block i hi hp]⟩
theorem FrC.ofBelow {c : Nat} {w w1 : World} (h : Below w.heap.size w w1) : FrC c w w1 := ⟨h.os, h.tape, h.output, h.size, fun k hk _ => h.block k hk⟩
theorem FrC.below {c B : Nat} {w w1 : World} (h : FrC c w w1) (hB : B ≤ c) (hw : B ≤ w.heap.size) : Below B w w1 := ⟨h.os, h.tape, h.output, h.size, fun k hk => h.block k (by omega) (by omega)⟩
theorem FrC.setCell {c : Nat} {w w1 : World} (h : FrC c w w1) (o : Nat) (u : Value) : FrC c w (w1.setCell ⟨c, o, none⟩ u) :=
  h.trans ⟨rfl, rfl, rfl, by simp, fun k hk hp => Below.heap_setCell _ _ _ _ hp⟩
theorem FrC.drewN {c : Nat} {w w1 : World} (h : FrC c w w1) (n : Nat) : FrC c w (w1.drewN n) := ⟨h.os, h.tape, h.output, h.size, h.block⟩

theorem scan_cells {w : World} {c : Nat} {s : ByteArray} {i : Nat} (h : ScanAt w c s i) :
    w.cell? ⟨c, 0, none⟩ = some (.string s) ∧ w.cell? ⟨c, 1, none⟩ = some (.int .i64 (i : Int)) ∧ w.frozen? ⟨c, 1, none⟩ = false ∧ c < w.heap.size := by
  obtain ⟨h, _⟩ := h
  exact ⟨by rw [cell_of_row w c 0 _ _ _ h]; rfl, by rw [cell_of_row w c 1 _ _ _ h]; rfl, frozen_of_row w c 1 _ _ h, lt_of_block h⟩

theorem scanAt_set {w : World} {c : Nat} {s : ByteArray} {i : Nat} (h : ScanAt w c s i) (j : Nat) (x : Int) (hx : x = (j : Int)) (hj : j ≤ s.size) : ScanAt (w.setCell ⟨c, 1, none⟩ (.int .i64 x)) c s j := by
  subst hx
  exact ⟨heap_setCell_at h.1 1 _, hj, h.2.2⟩

theorem scan_new (s : ByteArray) (w : World) :
    Calls Try.prog 63 #[.string s] w fun e w' => e = .returned (.pointer (some ⟨w.heap.size, 0, none⟩)) ∧ w.alloc (.cells #[.string s, .int .i64 0] 109) = w' := by
  go_enter Try.func63, Try.ntmps63
  go_wp2
  go_ret
  exact ⟨rfl, rfl⟩
theorem scanAt_new (s : ByteArray) (w : World) (h : s.size ≤ 1000000) : ScanAt (w.alloc (.cells #[.string s, .int .i64 0] 109)) w.heap.size s 0 := ⟨heap_alloc_new w _, Nat.zero_le _, h⟩

theorem scan_at (w : World) (c : Nat) (s : ByteArray) (i : Nat) (h : ScanAt w c s i) :
    Calls Try.prog 66 #[.pointer (some ⟨c, 0, none⟩)] w fun e w' => e = .returned (.int .i64 (i : Int)) ∧ w = w' := by
  obtain ⟨c0, c1, _, _⟩ := scan_cells h
  go_enter Try.func66, Try.ntmps66
  go_wp2
  go_ret
  exact ⟨rfl, rfl⟩

theorem scan_rest (w : World) (c : Nat) (s : ByteArray) (i : Nat) (h : ScanAt w c s i) :
    Calls Try.prog 67 #[.pointer (some ⟨c, 0, none⟩)] w fun e w' => e = .returned (.string (s.extract i s.size)) ∧ ∃ n, w' = w.drewN n := by
  obtain ⟨c0, c1, _, _⟩ := scan_cells h
  have hi := h.2.1
  have hs := h.2.2
  clear h
  have hi2 : (i : Int) ≤ s.size := by omega
  go_enter Try.func67, Try.ntmps67
  go_wp2
  go_quiet (fail)
  go_wp2
  go_ret
  exact ⟨rfl, _, rfl⟩

theorem extract_empty (s : ByteArray) (i : Nat) : (s.extract i s.size).toList.isEmpty = decide (s.size ≤ i) := by
  have e := Lib.size_eq s
  rw [Lib.toList_data, Lib.extract_data, Bool.eq_iff_iff, List.isEmpty_iff, decide_eq_true_eq]
  constructor
  · intro h
    have := congrArg List.length h
    rw [List.length_take, List.length_drop, List.length_nil] at this
    omega
  · intro h
    rw [List.drop_of_length_le (by omega), List.take_nil]

theorem drewN_drewN (w : World) (n m : Nat) : (w.drewN n).drewN m = w.drewN (n + m) := by
  unfold World.drewN
  rw [Nat.add_assoc]

theorem scan_end (w : World) (c : Nat) (s : ByteArray) (i : Nat) (h : ScanAt w c s i) :
    Calls Try.prog 69 #[.pointer (some ⟨c, 0, none⟩)] w fun e w' => e = .returned (.bool (decide (s.size ≤ i))) ∧ ∃ n, w' = w.drewN n := by
  have R := Lib.hid (scan_rest w c s i h)
  clear h
  go_enter Try.func69, Try.ntmps69
  go_wp2_with fail
  refine R.out.mono ?_
  rintro e w' ⟨rfl, n, rfl⟩
  go_wp2_with fail
  go_ret
  exact ⟨ret_bool (extract_empty s i), n, rfl⟩

theorem ret_pk {a c : Int} {b d : Bool} (h : a = c) (h2 : b = d) : Ending.returned (.tuple #[.int .u8 a, .bool b]) = .returned (.tuple #[.int .u8 c, .bool d]) := by rw [h, h2]

theorem scan_peek_yes (w : World) (c : Nat) (s : ByteArray) (i : Nat) (h : ScanAt w c s i) (hi : i < s.size) :
    Calls Try.prog 110 #[.pointer (some ⟨c, 0, none⟩)] w fun e w' => e = .returned (.tuple #[.int .u8 (s[i].toNat : Int), .bool true]) ∧ ∃ n, w' = w.drewN n := by
  have R := Lib.hid (scan_end w c s i h)
  obtain ⟨c0, c1, _, _⟩ := scan_cells h
  have hs := h.2.2
  clear h
  have hd : decide (s.size ≤ i) = false := by simp; omega
  go_enter Try.func110, Try.ntmps110
  go_wp2_with fail
  refine R.out.mono ?_
  rintro e w' ⟨rfl, n, rfl⟩
  go_wp2_with fail
  go_quiet (fail)
  go_wp2
  go_ret2
  exact ⟨rfl, _, drewN_drewN _ _ _⟩

theorem scan_peek_no (w : World) (c : Nat) (s : ByteArray) (i : Nat) (h : ScanAt w c s i) (hi : s.size ≤ i) :
    Calls Try.prog 110 #[.pointer (some ⟨c, 0, none⟩)] w fun e w' => e = .returned (.tuple #[.int .u8 0, .bool false]) ∧ ∃ n, w' = w.drewN n := by
  have R := Lib.hid (scan_end w c s i h)
  clear h
  have hd : decide (s.size ≤ i) = true := by simp; omega
  go_enter Try.func110, Try.ntmps110
  go_wp2_with fail
  refine R.out.mono ?_
  rintro e w' ⟨rfl, n, rfl⟩
  go_wp2_with fail
  go_ret2
  exact ⟨rfl, n, rfl⟩

/-- Is the next byte this one? -/
def nextIs (s : ByteArray) (i : Nat) (b : Int) : Bool := match s.data.toList[i]? with | some x => (x.toNat : Int) == b | none => false

def BytePost (w : World) (c : Nat) (s : ByteArray) (i : Nat) (b : Int) (e : Ending) (w' : World) : Prop :=
  e = .returned (.bool (nextIs s i b)) ∧ ScanAt w' c s (if nextIs s i b then i + 1 else i) ∧ FrC c w w'

theorem scan_byte (w : World) (c : Nat) (s : ByteArray) (i : Nat) (b : Int) (h : ScanAt w c s i) :
    Calls Try.prog 109 #[.pointer (some ⟨c, 0, none⟩), .int .u8 b] w (BytePost w c s i b) := by
  by_cases hi : i < s.size
  · have P := Lib.hid (scan_peek_yes w c s i h hi)
    have hx : s.data.toList[i]? = some s[i] := by rw [List.getElem?_eq_getElem (by simpa using hi)]; rfl
    obtain ⟨c0, c1, c2, _⟩ := scan_cells h
    have hs := h.2.2
    by_cases hb : ((s[i].toNat : Int) == b) = true
    · have hn : nextIs s i b = true := by unfold nextIs; rw [hx]; exact hb
      have hb2 : ((s[i].toNat : Int) != b) = false := by simp at hb; simp [hb]
      have H := Lib.hid h; clear h
      have HN := Lib.hid hn; clear hn hx
      have HB := Lib.hid hb; clear hb
      go_enter Try.func109, Try.ntmps109
      go_wp2_with fail
      refine P.out.mono ?_
      rintro e w' ⟨rfl, n, rfl⟩
      go_wp2_with fail
      go_ret
      refine ⟨ret_bool HN.out.symm, ?_, ((FrC.refl _ _).drewN _).setCell _ _⟩
      rw [if_pos HN.out]
      exact scanAt_set (w := w.drewN n) H.out (i + 1) _ (by omega) (by omega)
    · rw [Bool.not_eq_true] at hb
      have hn : nextIs s i b = false := by unfold nextIs; rw [hx]; exact hb
      have hb2 : ((s[i].toNat : Int) != b) = true := by simp at hb; simp [hb]
      have H := Lib.hid h; clear h
      have HN := Lib.hid hn; clear hn hx
      have HB := Lib.hid hb; clear hb
      go_enter Try.func109, Try.ntmps109
      go_wp2_with fail
      refine P.out.mono ?_
      rintro e w' ⟨rfl, n, rfl⟩
      go_wp2_with fail
      go_ret
      refine ⟨ret_bool HN.out.symm, ?_, (FrC.refl _ _).drewN _⟩
      rw [if_neg (by rw [HN.out]; simp)]
      exact H.out
  · have P := Lib.hid (scan_peek_no w c s i h (by omega))
    have hn : nextIs s i b = false := by unfold nextIs; rw [List.getElem?_eq_none (by rw [← Lib.size_eq]; omega)]
    have H := Lib.hid h; clear h
    have HN := Lib.hid hn; clear hn
    go_enter Try.func109, Try.ntmps109
    go_wp2_with fail
    refine P.out.mono ?_
    rintro e w' ⟨rfl, n, rfl⟩
    go_wp2_with fail
    go_ret
    refine ⟨ret_bool HN.out.symm, ?_, (FrC.refl _ _).drewN _⟩
    rw [if_neg (by rw [HN.out]; simp)]
    exact H.out

end Go.Proofs.Ythhpijmkhhdhhaa
