/- The law's own do, of layer 2. -/
import Derived.Test.YthhpijmkhhdhhaaScan4
import Derived.Test.YthhpijmkhhdhhaaLaw2
import Derived.Deep.RegionHeld3
namespace Go.Proofs.Ythhpijmkhhdhhaa
open Go.RowKit
set_option linter.unusedVariables false
set_option linter.unusedSimpArgs false

def DoPost (w : World) (c : Nat) (s : ByteArray) (e : Ending) (w' : World) : Prop :=
  ∃ j : Nat, e = .returned (.tuple #[.agg #[.string s, .int .i64 (j : Int)], .int .i64 0]) ∧ ScanAt w' c s j ∧ FrC c w w'

/-- What do holds of its own: the scan, the deed, the answer's place. -/
def Loc (w : World) (B : Nat) (s : ByteArray) (i : Nat) (kd : Int) (t : ByteArray) (n : Int) : Prop :=
  w.heap[B]? = some (.cells #[.string s, .int .i64 (i : Int)] 57 (0, 0)) ∧
  w.heap[B + 1]? = some (.cells #[.int .u8 kd, .string t, .int .i64 n] 61 (0, 0)) ∧
  w.heap[B + 1 + 1]? = some (.cells #[.string ⟨#[]⟩, .int .i64 0] 57 (0, 0))

theorem loc_new (w : World) (s : ByteArray) (i : Nat) (kd : Int) (t : ByteArray) (n : Int) :
    Loc (((w.alloc (.cells #[.string s, .int .i64 (i : Int)] 57)).alloc (.cells #[.int .u8 kd, .string t, .int .i64 n] 61)).alloc (.cells #[.string ⟨#[]⟩, .int .i64 0] 57)) w.heap.size s i kd t n := by
  have e1 : (w.alloc (.cells #[.string s, .int .i64 (i : Int)] 57)).heap.size = w.heap.size + 1 := by simp
  have a1 := heap_alloc_new w (.cells #[.string s, .int .i64 (i : Int)] 57)
  generalize w.alloc (.cells #[.string s, .int .i64 (i : Int)] 57) = w1 at e1 a1
  have e2 : (w1.alloc (.cells #[.int .u8 kd, .string t, .int .i64 n] 61)).heap.size = w.heap.size + 1 + 1 := by simp [e1]
  have a2 := heap_alloc_new w1 (.cells #[.int .u8 kd, .string t, .int .i64 n] 61)
  have a1 := (Below.heap_alloc w1 (.cells #[.int .u8 kd, .string t, .int .i64 n] 61) w.heap.size (by omega)).trans a1
  rw [e1] at a2
  generalize w1.alloc (.cells #[.int .u8 kd, .string t, .int .i64 n] 61) = w2 at e2 a1 a2
  have a3 := heap_alloc_new w2 (.cells #[.string ⟨#[]⟩, .int .i64 0] 57)
  rw [e2] at a3
  exact ⟨(Below.heap_alloc w2 _ _ (by omega)).trans a1, (Below.heap_alloc w2 _ _ (by omega)).trans a2, a3⟩

theorem loc_cells {w : World} {B : Nat} {s : ByteArray} {i : Nat} {kd : Int} {t : ByteArray} {n : Int} (h : Loc w B s i kd t n) :
    w.cell? ⟨B, 0, none⟩ = some (.string s) ∧ w.cell? ⟨B, 1, none⟩ = some (.int .i64 (i : Int)) ∧ w.cell? ⟨B + 1, 0, none⟩ = some (.int .u8 kd) ∧ w.cell? ⟨B + 1, 1, none⟩ = some (.string t) ∧ w.cell? ⟨B + 1, 2, none⟩ = some (.int .i64 n) ∧
    w.frozen? ⟨B, 0, none⟩ = false ∧ w.frozen? ⟨B, 1, none⟩ = false ∧ w.frozen? ⟨B + 1 + 1, 0, none⟩ = false ∧ w.frozen? ⟨B + 1 + 1, 1, none⟩ = false ∧ w.cell? ⟨B + 1 + 1, 0, none⟩ = some (.string ⟨#[]⟩) ∧ w.cell? ⟨B + 1 + 1, 1, none⟩ = some (.int .i64 0) ∧ B + 1 + 1 < w.heap.size := by
  obtain ⟨h1, h2, h3⟩ := h
  exact ⟨by rw [cell_of_row w B 0 _ _ _ h1]; rfl, by rw [cell_of_row w B 1 _ _ _ h1]; rfl, by rw [cell_of_row w (B + 1) 0 _ _ _ h2]; rfl, by rw [cell_of_row w (B + 1) 1 _ _ _ h2]; rfl, by rw [cell_of_row w (B + 1) 2 _ _ _ h2]; rfl,
    frozen_of_row w B 0 _ _ h1, frozen_of_row w B 1 _ _ h1, frozen_of_row w (B + 1 + 1) 0 _ _ h3, frozen_of_row w (B + 1 + 1) 1 _ _ h3, by rw [cell_of_row w (B + 1 + 1) 0 _ _ _ h3]; rfl, by rw [cell_of_row w (B + 1 + 1) 1 _ _ _ h3]; rfl, lt_of_block h3⟩

theorem loc_frC {w w' : World} {B c : Nat} {s : ByteArray} {i : Nat} {kd : Int} {t : ByteArray} {n : Int} (h : Loc w B s i kd t n) (hf : FrC c w w') (hc : c < B) : Loc w' B s i kd t n := by
  obtain ⟨h1, h2, h3⟩ := h
  exact ⟨(hf.block _ (lt_of_block h1) (by omega)).trans h1, (hf.block _ (lt_of_block h2) (by omega)).trans h2, (hf.block _ (lt_of_block h3) (by omega)).trans h3⟩

theorem scanAt_below {w w' : World} {c : Nat} {s : ByteArray} {i : Nat} (h : ScanAt w c s i) (hb : Below w.heap.size w w') : ScanAt w' c s i := ⟨(hb.block _ (lt_of_block h.1)).trans h.1, h.2⟩

/-- The worlds of do: only block c, and blocks of its own, have turned. -/
theorem frC_own {w w1 w2 : World} {c : Nat} (h : FrC c w w1) (hb : Below w.heap.size w1 w2) : FrC c w w2 :=
  ⟨hb.os.trans h.os, hb.tape.trans h.tape, hb.output.trans h.output, Nat.le_trans h.size hb.size, fun k hk hp => (hb.block k hk).trans (h.block k hk hp)⟩

theorem scanAt_other {w : World} {c : Nat} {s : ByteArray} {i : Nat} (h : ScanAt w c s i) (b o : Nat) (v : Value) (hb : c ≠ b) : ScanAt (w.setCell ⟨b, o, none⟩ v) c s i :=
  ⟨(Below.heap_setCell _ _ _ _ hb).trans h.1, h.2⟩
theorem scanAt_alloc {w : World} {c : Nat} {s : ByteArray} {i : Nat} (h : ScanAt w c s i) (o : Obj) : ScanAt (w.alloc o) c s i := scanAt_below h ((Below.refl _ _).alloc (Nat.le_refl _) o)
theorem frC_set {w w' : World} {c : Nat} (h : FrC c w w') (b o : Nat) (v : Value) (hb : w.heap.size ≤ b) : FrC c w (w'.setCell ⟨b, o, none⟩ v) :=
  frC_own h ((Below.refl _ _).setCell hb _)
theorem frC_alloc {w w' : World} {c : Nat} (h : FrC c w w') (o : Obj) : FrC c w (w'.alloc o) := frC_own h ((Below.refl _ _).alloc h.size o)

theorem do_fin2 {w w2 : World} {c : Nat} {s : ByteArray} {j : Nat} (HS : ScanAt w2 c s j) (HF : FrC c w w2) (hc : c < w.heap.size) (v1 v2 : Value) :
    ScanAt ((w2.setCell ⟨w.heap.size + 1 + 1, 0, none⟩ v1).setCell ⟨w.heap.size + 1 + 1, 1, none⟩ v2) c s j ∧ FrC c w ((w2.setCell ⟨w.heap.size + 1 + 1, 0, none⟩ v1).setCell ⟨w.heap.size + 1 + 1, 1, none⟩ v2) :=
  ⟨scanAt_other (scanAt_other HS _ _ _ (by omega)) _ _ _ (by omega), frC_set (frC_set HF _ _ _ (by omega)) _ _ _ (by omega)⟩
theorem do_fin3 {w w2 : World} {c : Nat} {s : ByteArray} {j : Nat} (HS : ScanAt w2 c s j) (HF : FrC c w w2) (hc : c < w.heap.size) (v0 v1 v2 : Value) :
    ScanAt (((w2.setCell ⟨w.heap.size, 1, none⟩ v0).setCell ⟨w.heap.size + 1 + 1, 0, none⟩ v1).setCell ⟨w.heap.size + 1 + 1, 1, none⟩ v2) c s j ∧ FrC c w (((w2.setCell ⟨w.heap.size, 1, none⟩ v0).setCell ⟨w.heap.size + 1 + 1, 0, none⟩ v1).setCell ⟨w.heap.size + 1 + 1, 1, none⟩ v2) :=
  do_fin2 (scanAt_other HS _ _ _ (by omega)) (frC_set HF _ _ _ (by omega)) hc _ _
theorem do_fin4 {w w2 : World} {c : Nat} {s : ByteArray} {j : Nat} (HS : ScanAt w2 c s j) (HF : FrC c w w2) (hc : c < w.heap.size) (v0 v1 v2 v3 : Value) :
    ScanAt ((((w2.setCell ⟨w.heap.size, 0, none⟩ v0).setCell ⟨w.heap.size, 1, none⟩ v1).setCell ⟨w.heap.size + 1 + 1, 0, none⟩ v2).setCell ⟨w.heap.size + 1 + 1, 1, none⟩ v3) c s j ∧
    FrC c w ((((w2.setCell ⟨w.heap.size, 0, none⟩ v0).setCell ⟨w.heap.size, 1, none⟩ v1).setCell ⟨w.heap.size + 1 + 1, 0, none⟩ v2).setCell ⟨w.heap.size + 1 + 1, 1, none⟩ v3) :=
  do_fin3 (scanAt_other HS w.heap.size 0 v0 (by omega)) (frC_set HF w.heap.size 0 v0 (by omega)) hc v1 v2 v3
theorem do_fin5 {w w2 : World} {c : Nat} {s : ByteArray} {j : Nat} (HS : ScanAt w2 c s j) (HF : FrC c w w2) (hc : c < w.heap.size) (v0 v1 v2 v3 : Value) (o : Obj) :
    ScanAt (((((w2.setCell ⟨w.heap.size, 0, none⟩ v0).setCell ⟨w.heap.size, 1, none⟩ v1).setCell ⟨w.heap.size + 1 + 1, 0, none⟩ v2).setCell ⟨w.heap.size + 1 + 1, 1, none⟩ v3).alloc o) c s j ∧
    FrC c w (((((w2.setCell ⟨w.heap.size, 0, none⟩ v0).setCell ⟨w.heap.size, 1, none⟩ v1).setCell ⟨w.heap.size + 1 + 1, 0, none⟩ v2).setCell ⟨w.heap.size + 1 + 1, 1, none⟩ v3).alloc o) :=
  let h := do_fin3 (scanAt_other HS w.heap.size 0 v0 (by omega)) (frC_set HF w.heap.size 0 v0 (by omega)) hc v1 v2 v3
  ⟨scanAt_alloc h.1 o, frC_alloc h.2 o⟩

/-! The kinds. -/
set_option maxRecDepth 100000 in
theorem do_0 (w : World) (c : Nat) (s : ByteArray) (i : Nat) (kd n : Int) (t : ByteArray) (h : ScanAt w c s i) (h0 : 0 ≤ kd) (h1 : kd ≤ 255) (hn0 : -9223372036854775808 ≤ n) (hn1 : n ≤ 9223372036854775807) (ht : t.size ≤ maxLen) (hk : kd.tmod 8 = 0) :
    Calls Try.prog 68 #[.pointer (some ⟨c, 0, none⟩), .agg #[.string s, .int .i64 (i : Int)], .agg #[.int .u8 kd, .string t, .int .i64 n]] w (DoPost w c s) := by
  unfold maxLen at ht
  obtain ⟨u, hU⟩ : ∃ u, t.extract 0 (min (t.size : Int) 20).toNat = u := ⟨_, rfl⟩
  have hus : u.size ≤ 20 := by rw [← hU, Lib.size_eq, Lib.extract_data, List.length_take]; omega
  have hcw := (scan_cells h).2.2.2
  have hs := h.2.2
  have hi := h.2.1
  have hL := loc_new w s i kd u n
  have hB : Below w.heap.size w (((w.alloc (.cells #[.string s, .int .i64 (i : Int)] 57)).alloc (.cells #[.int .u8 kd, .string u, .int .i64 n] 61)).alloc (.cells #[.string ⟨#[]⟩, .int .i64 0] 57)) :=
    (((Below.refl _ _).alloc (Nat.le_refl _) _).alloc (by simp) _).alloc (by simp; omega) _
  have hs0 := scanAt_below h hB
  have H := Lib.hid h
  have HL := Lib.hid hL
  have HF := Lib.hid (FrC.ofBelow (c := c) hB)
  clear hL hB h
  have TK := Lib.hid (scan_token _ _ _ _ hs0)
  clear hs0
  go_enter Try.func68, Try.ntmps68
  go_wp2_with fail
  refine TK.out.mono ?_
  rintro e w1 ⟨rfl, hs1, hf1⟩
  have L1 := loc_frC HL.out hf1 hcw
  obtain ⟨p0, p1, p2, p3, p4, q0, q1, q2, q3, r0, r1, hl1⟩ := loc_cells L1
  have HF1 := Lib.hid (HF.out.trans hf1)
  have HS1 := Lib.hid hs1
  have HL1 := Lib.hid L1
  clear hs1 hf1 L1 HF HL
  have RW := Lib.hid (rWhile_any s i 0 (.inl rfl) w1 hi hs)
  go_wp2_with fail
  refine RW.out.mono ?_
  rintro e w2 ⟨rfl, hb2⟩
  rw [show clsOf 0 = bTok from rfl]
  have L2 := loc_frC HL1.out (FrC.ofBelow (c := c) hb2) hcw
  clear p0 p1 p2 p3 p4 q0 q1 q2 q3 r0 r1
  obtain ⟨p0, p1, p2, p3, p4, q0, q1, q2, q3, r0, r1, hl2⟩ := loc_cells L2
  have hl0 : w.heap.size < w2.heap.size := by omega
  have hl1 : w.heap.size + 1 < w2.heap.size := by omega
  have hne0 : ¬ w.heap.size = w2.heap.size := by omega
  have hne1 : ¬ w.heap.size + 1 = w2.heap.size := by omega
  have hne2 : ¬ w.heap.size + 1 + 1 = w2.heap.size := by omega
  have HS2 := Lib.hid (scanAt_below HS1.out hb2)
  have HF2 := Lib.hid (HF1.out.trans (FrC.ofBelow (c := c) hb2))
  clear hb2 L2 HL1 HS1 HF1
  have hq : (decide (0 < takeN bTok (ahead s i)) == !(s.extract i (i + takeN bTok (ahead s i))).toList.isEmpty) = true := by
    rw [extract_size0 s i _ HS2.out.2.1]; by_cases hz : takeN bTok (ahead s i) = 0
    · simp [hz]
    · simp [hz]; omega
  go_wp2_with fail
  (try simp only [Exit.inBlock, Exit.then])
  refine bodyPost_ret (v := .tuple #[.agg #[.string s, .int .i64 ((i : Int) + (takeN bTok (ahead s i) : Int))], .int .i64 0]) (by rw [results_cell_tmp rfl]; go_simp) rfl ⟨i + takeN bTok (ahead s i), ?_, do_fin5 HS2.out HF2.out hcw _ _ _ _ _⟩
  first | rfl | (refine congrArg Ending.returned ?_; push_cast; rfl)

set_option maxRecDepth 100000 in
theorem do_1 (w : World) (c : Nat) (s : ByteArray) (i : Nat) (kd n : Int) (t : ByteArray) (h : ScanAt w c s i) (h0 : 0 ≤ kd) (h1 : kd ≤ 255) (hn0 : -9223372036854775808 ≤ n) (hn1 : n ≤ 9223372036854775807) (ht : t.size ≤ maxLen) (hk : kd.tmod 8 = 1) :
    Calls Try.prog 68 #[.pointer (some ⟨c, 0, none⟩), .agg #[.string s, .int .i64 (i : Int)], .agg #[.int .u8 kd, .string t, .int .i64 n]] w (DoPost w c s) := by
  unfold maxLen at ht
  obtain ⟨u, hU⟩ : ∃ u, t.extract 0 (min (t.size : Int) 20).toNat = u := ⟨_, rfl⟩
  have hus : u.size ≤ 20 := by rw [← hU, Lib.size_eq, Lib.extract_data, List.length_take]; omega
  have hcw := (scan_cells h).2.2.2
  have hs := h.2.2
  have hi := h.2.1
  have hL := loc_new w s i kd u n
  have hB : Below w.heap.size w (((w.alloc (.cells #[.string s, .int .i64 (i : Int)] 57)).alloc (.cells #[.int .u8 kd, .string u, .int .i64 n] 61)).alloc (.cells #[.string ⟨#[]⟩, .int .i64 0] 57)) :=
    (((Below.refl _ _).alloc (Nat.le_refl _) _).alloc (by simp) _).alloc (by simp; omega) _
  have hs0 := scanAt_below h hB
  have H := Lib.hid h
  have HL := Lib.hid hL
  have HF := Lib.hid (FrC.ofBelow (c := c) hB)
  clear hL hB h
  have TK := Lib.hid (scan_blanks _ _ _ _ hs0)
  clear hs0
  go_enter Try.func68, Try.ntmps68
  go_wp2_with fail
  refine TK.out.mono ?_
  rintro e w1 ⟨rfl, hs1, hf1⟩
  have L1 := loc_frC HL.out hf1 hcw
  obtain ⟨p0, p1, p2, p3, p4, q0, q1, q2, q3, r0, r1, hl1⟩ := loc_cells L1
  have HF1 := Lib.hid (HF.out.trans hf1)
  have HS1 := Lib.hid hs1
  have HL1 := Lib.hid L1
  clear hs1 hf1 L1 HF HL
  have RW := Lib.hid (rWhile_any s i 1 (.inr (.inl rfl)) w1 hi hs)
  go_wp2_with fail
  refine RW.out.mono ?_
  rintro e w2 ⟨rfl, hb2⟩
  rw [show clsOf 1 = bBlank from rfl]
  have L2 := loc_frC HL1.out (FrC.ofBelow (c := c) hb2) hcw
  clear p0 p1 p2 p3 p4 q0 q1 q2 q3 r0 r1
  obtain ⟨p0, p1, p2, p3, p4, q0, q1, q2, q3, r0, r1, hl2⟩ := loc_cells L2
  have hl0 : w.heap.size < w2.heap.size := by omega
  have hl1 : w.heap.size + 1 < w2.heap.size := by omega
  have hne0 : ¬ w.heap.size = w2.heap.size := by omega
  have hne1 : ¬ w.heap.size + 1 = w2.heap.size := by omega
  have hne2 : ¬ w.heap.size + 1 + 1 = w2.heap.size := by omega
  have HS2 := Lib.hid (scanAt_below HS1.out hb2)
  have HF2 := Lib.hid (HF1.out.trans (FrC.ofBelow (c := c) hb2))
  clear hb2 L2 HL1 HS1 HF1
  have hq : ((s.extract i (i + takeN bBlank (ahead s i))).toList == (s.extract i (i + takeN bBlank (ahead s i))).toList) = true := by simp
  go_wp2_with fail
  (try simp only [Exit.inBlock, Exit.then])
  refine bodyPost_ret (v := .tuple #[.agg #[.string s, .int .i64 ((i : Int) + (takeN bBlank (ahead s i) : Int))], .int .i64 0]) (by rw [results_cell_tmp rfl]; go_simp) rfl ⟨i + takeN bBlank (ahead s i), ?_, do_fin5 HS2.out HF2.out hcw _ _ _ _ _⟩
  first | rfl | (refine congrArg Ending.returned ?_; push_cast; rfl)

set_option maxRecDepth 100000 in
theorem do_2 (w : World) (c : Nat) (s : ByteArray) (i : Nat) (kd n : Int) (t : ByteArray) (h : ScanAt w c s i) (h0 : 0 ≤ kd) (h1 : kd ≤ 255) (hn0 : -9223372036854775808 ≤ n) (hn1 : n ≤ 9223372036854775807) (ht : t.size ≤ maxLen) (hk : kd.tmod 8 = 2) :
    Calls Try.prog 68 #[.pointer (some ⟨c, 0, none⟩), .agg #[.string s, .int .i64 (i : Int)], .agg #[.int .u8 kd, .string t, .int .i64 n]] w (DoPost w c s) := by
  unfold maxLen at ht
  obtain ⟨u, hU⟩ : ∃ u, t.extract 0 (min (t.size : Int) 20).toNat = u := ⟨_, rfl⟩
  have hus : u.size ≤ 20 := by rw [← hU, Lib.size_eq, Lib.extract_data, List.length_take]; omega
  have hcw := (scan_cells h).2.2.2
  have hs := h.2.2
  have hi := h.2.1
  have hL := loc_new w s i kd u n
  have hB : Below w.heap.size w (((w.alloc (.cells #[.string s, .int .i64 (i : Int)] 57)).alloc (.cells #[.int .u8 kd, .string u, .int .i64 n] 61)).alloc (.cells #[.string ⟨#[]⟩, .int .i64 0] 57)) :=
    (((Below.refl _ _).alloc (Nat.le_refl _) _).alloc (by simp) _).alloc (by simp; omega) _
  have hs0 := scanAt_below h hB
  have H := Lib.hid h
  have HL := Lib.hid hL
  have HF := Lib.hid (FrC.ofBelow (c := c) hB)
  clear hL hB h
  have TK := Lib.hid (scan_digits _ _ _ _ hs0)
  clear hs0
  go_enter Try.func68, Try.ntmps68
  go_wp2_with fail
  refine TK.out.mono ?_
  rintro e w1 ⟨rfl, hs1, hf1⟩
  have L1 := loc_frC HL.out hf1 hcw
  obtain ⟨p0, p1, p2, p3, p4, q0, q1, q2, q3, r0, r1, hl1⟩ := loc_cells L1
  have HF1 := Lib.hid (HF.out.trans hf1)
  have HS1 := Lib.hid hs1
  have HL1 := Lib.hid L1
  clear hs1 hf1 L1 HF HL
  have RW := Lib.hid (rWhile_any s i 2 (.inr (.inr rfl)) w1 hi hs)
  go_wp2_with fail
  refine RW.out.mono ?_
  rintro e w2 ⟨rfl, hb2⟩
  rw [show clsOf 2 = bDigit from rfl]
  have L2 := loc_frC HL1.out (FrC.ofBelow (c := c) hb2) hcw
  clear p0 p1 p2 p3 p4 q0 q1 q2 q3 r0 r1
  obtain ⟨p0, p1, p2, p3, p4, q0, q1, q2, q3, r0, r1, hl2⟩ := loc_cells L2
  have hl0 : w.heap.size < w2.heap.size := by omega
  have hl1 : w.heap.size + 1 < w2.heap.size := by omega
  have hne0 : ¬ w.heap.size = w2.heap.size := by omega
  have hne1 : ¬ w.heap.size + 1 = w2.heap.size := by omega
  have hne2 : ¬ w.heap.size + 1 + 1 = w2.heap.size := by omega
  have HS2 := Lib.hid (scanAt_below HS1.out hb2)
  have HF2 := Lib.hid (HF1.out.trans (FrC.ofBelow (c := c) hb2))
  clear hb2 L2 HL1 HS1 HF1
  have hq : ((s.extract i (i + takeN bDigit (ahead s i))).toList == (s.extract i (i + takeN bDigit (ahead s i))).toList) = true := by simp
  go_wp2_with fail
  (try simp only [Exit.inBlock, Exit.then])
  refine bodyPost_ret (v := .tuple #[.agg #[.string s, .int .i64 ((i : Int) + (takeN bDigit (ahead s i) : Int))], .int .i64 0]) (by rw [results_cell_tmp rfl]; go_simp) rfl ⟨i + takeN bDigit (ahead s i), ?_, do_fin5 HS2.out HF2.out hcw _ _ _ _ _⟩
  first | rfl | (refine congrArg Ending.returned ?_; push_cast; rfl)

theorem nextIs_text (s : ByteArray) (i : Nat) (u : ByteArray) (hu : 0 < u.size) : nextIs s i (u[0].toNat : Int) = nextText s i (u.extract 0 1) := by
  have e : (u.extract 0 1).data.toList = [u[0]] := by
    rw [Lib.extract_data, List.drop_zero]
    exact take_snoc u 0 hu
  unfold nextText nextIs Lib.hasPrefix
  rw [e]
  unfold ahead
  have h2 : (s.data.toList.drop i).head? = s.data.toList[i]? := by rw [List.head?_drop]
  cases hd : s.data.toList.drop i with
  | nil => rw [hd] at h2; rw [← h2]; rfl
  | cons x r =>
    rw [hd] at h2
    rw [← h2, List.head?_cons]
    show ((x.toNat : Int) == (u[0].toNat : Int)) = [u[0]].isPrefixOf (x :: r)
    rw [List.isPrefixOf_cons_cons, List.isPrefixOf_nil_left, Bool.and_true, Bool.eq_iff_iff, beq_iff_eq, beq_iff_eq]
    constructor
    · intro h; exact (UInt8.toNat_inj.1 (by omega)).symm
    · intro h; rw [h]

theorem below_alloc_drew {w1 w2 : World} {o : Obj} (h : Below (w1.alloc o).drew.heap.size (w1.alloc o).drew w2) : Below w1.heap.size w1 w2 :=
  (((Below.refl w1.heap.size w1).alloc (Nat.le_refl _) o).drew).trans (h.mono (by simp))

theorem below_of_drew {w1 w2 : World} (h : Below w1.drew.heap.size w1.drew w2) : Below w1.heap.size w1 w2 := ((Below.refl w1.heap.size w1).drew).trans h

theorem cell_setCell_ne (w : World) (b o b' : Nat) (v : Value) {o' : Nat} (h : b' ≠ b) : (w.setCell ⟨b, o, none⟩ v).cell? ⟨b', o', none⟩ = w.cell? ⟨b', o', none⟩ := by
  have e := Below.heap_setCell w ⟨b, o, none⟩ v b' (by exact h)
  unfold World.cell?
  simp only [e]

theorem rTake_j (s : ByteArray) (i : Nat) (t : ByteArray) (w : World) (hi : i ≤ s.size) (hs : s.size ≤ 1000000) (ht : t.size ≤ maxLen) (b : Bool) (hb : nextText s i t = b) (j : Nat) (hj : (if nextText s i t = true then i + t.size else i) = j) :
    Calls Try.prog 112 #[.agg #[.string s, .int .i64 (i : Int)], .string t] w fun e w' => e = .returned (.tuple #[.agg #[.string s, .int .i64 (j : Int)], .bool b]) ∧ Below w.heap.size w w' := by
  subst hb hj
  exact rTake_any s i t w hi hs ht

theorem three_alloc (w : World) (o1 o2 o3 : Obj) : Below w.heap.size w (((w.alloc o1).alloc o2).alloc o3) := (((Below.refl _ _).alloc (Nat.le_refl _) _).alloc (by simp) _).alloc (by simp; omega) _

set_option maxRecDepth 100000 in
theorem do_3 (w : World) (c : Nat) (s : ByteArray) (i : Nat) (kd n : Int) (t : ByteArray) (h : ScanAt w c s i) (h0 : 0 ≤ kd) (h1 : kd ≤ 255) (hn0 : -9223372036854775808 ≤ n) (hn1 : n ≤ 9223372036854775807) (ht : t.size ≤ maxLen) (hk : kd.tmod 8 = 3) :
    Calls Try.prog 68 #[.pointer (some ⟨c, 0, none⟩), .agg #[.string s, .int .i64 (i : Int)], .agg #[.int .u8 kd, .string t, .int .i64 n]] w (DoPost w c s) := by
  unfold maxLen at ht
  obtain ⟨u, hU⟩ : ∃ u, t.extract 0 (min (t.size : Int) 20).toNat = u := ⟨_, rfl⟩
  have hus : u.size ≤ 20 := by rw [← hU, Lib.size_eq, Lib.extract_data, List.length_take]; omega
  have hcw := (scan_cells h).2.2.2
  have hs := h.2.2
  have hi := h.2.1
  have hL := loc_new w s i kd u n
  have hB : Below w.heap.size w (((w.alloc (.cells #[.string s, .int .i64 (i : Int)] 57)).alloc (.cells #[.int .u8 kd, .string u, .int .i64 n] 61)).alloc (.cells #[.string ⟨#[]⟩, .int .i64 0] 57)) :=
    (((Below.refl _ _).alloc (Nat.le_refl _) _).alloc (by simp) _).alloc (by simp; omega) _
  have hs0 := scanAt_below h hB
  have H := Lib.hid h
  have HL := Lib.hid hL
  have HF := Lib.hid (FrC.ofBelow (c := c) hB)
  clear hL hB h
  by_cases hz : u.size = 0
  · have hz2 : u.toList.isEmpty = true := by rw [Lib.toList_data, List.isEmpty_iff_length_eq_zero, ← Lib.size_eq]; exact hz
    have HZ := Lib.hid hz; clear hz
    have L1 := HL.out
    obtain ⟨p0, p1, p2, p3, p4, q0, q1, q2, q3, r0, r1, hl1⟩ := loc_cells L1
    clear L1
    have HS2 := Lib.hid hs0
    clear hs0
    go_enter Try.func68, Try.ntmps68
    go_wp2_with fail
    (try simp only [Exit.inBlock, Exit.then])
    have hb3 := three_alloc w (.cells #[.string s, .int .i64 (i : Int)] 57) (.cells #[.int .u8 kd, .string u, .int .i64 n] 61) (.cells #[.string s, .int .i64 (i : Int)] 57)
    have hs3 := scanAt_below H.out hb3
    refine bodyPost_ret (v := .tuple #[.agg #[.string s, .int .i64 ((i : Int))], .int .i64 0]) (by rw [results_cell_tmp rfl]; go_simp) rfl ⟨i, rfl, hs3, FrC.ofBelow hb3⟩
  · have hz2 : u.toList.isEmpty = false := by rw [Bool.eq_false_iff]; intro e; rw [Lib.toList_data, List.isEmpty_iff_length_eq_zero, ← Lib.size_eq] at e; exact hz e
    have hu : 0 < u.size := by omega
    have hu2 : (0 : Int) < u.size := by omega
    have hu3 : (1 : Int) ≤ u.size := by omega
    have TE := Lib.hid (nextIs_text s i u hu)
    have TK := Lib.hid (scan_byte _ _ _ _ (u[0].toNat : Int) hs0)
    have hx : (u.extract 0 1).size ≤ maxLen := by rw [Lib.size_eq, Lib.extract_data, List.length_take]; unfold maxLen; omega
    obtain ⟨b, hb⟩ : ∃ b, nextText s i (u.extract 0 1) = b := ⟨_, rfl⟩
    obtain ⟨j, hj⟩ : ∃ j, (if nextText s i (u.extract 0 1) = true then i + (u.extract 0 1).size else i) = j := ⟨_, rfl⟩
    have TT := Lib.hid (fun w1 => rTake_j s i (u.extract 0 1) w1 hi hs hx b hb j hj)
    have HB := Lib.hid hb; clear hb
    have HJ := Lib.hid hj; clear hj
    clear hx hs0
    go_enter Try.func68, Try.ntmps68
    go_wp2_with fail
    refine TK.out.mono ?_
    rintro e w1 ⟨rfl, hs1, hf1⟩
    rw [TE.out] at hs1
    rw [TE.out, HB.out]
    have hbyt : (if nextText s i (u.extract 0 1) = true then i + 1 else i) = (if nextText s i (u.extract 0 1) = true then i + (u.extract 0 1).size else i) := by
      have : (u.extract 0 1).size = 1 := by rw [Lib.size_eq, Lib.extract_data, List.length_take, List.length_drop, ← Lib.size_eq]; omega
      rw [this]
    rw [hbyt, HJ.out] at hs1
    have L1 := loc_frC HL.out hf1 hcw
    obtain ⟨p0, p1, p2, p3, p4, q0, q1, q2, q3, r0, r1, hl1⟩ := loc_cells L1
    have HF1 := Lib.hid (HF.out.trans hf1)
    have HS1 := Lib.hid hs1
    have HL1 := Lib.hid L1
    clear hs1 hf1 L1 HF HL
    clear hbyt
    go_wp2_with fail
    go_region_held3 (fun w' => w'.cell? ⟨w.heap.size, 0, none⟩ = some (.string s) ∧ w'.cell? ⟨w.heap.size, 1, none⟩ = some (.int .i64 (i : Int)) ∧ w'.cell? ⟨w.heap.size + 1, 1, none⟩ = some (.string u)) (first | go_keep | (refine ⟨?_, ?_, ?_⟩ <;> first | go_keep | (rw [cell_setCell_ne _ _ _ _ _ (by omega), cell_setCell_ne _ _ _ _ _ (by omega)]; assumption))) ((
      go_at_call 112
      refine (TT.out _).mono ?_
      rintro e w2 ⟨rfl, hb2⟩
      have hf2 : FrC c w1 w2 := by first | exact FrC.ofBelow (below_of_drew hb2) | exact FrC.ofBelow (below_alloc_drew hb2)
      have L2 := loc_frC HL1.out hf2 hcw
      obtain ⟨p0, p1, p2, p3, p4, q0, q1, q2, q3, r0, r1, hl2⟩ := loc_cells L2
      have hl0 : w.heap.size < w2.heap.size := by omega
      have hl1 : w.heap.size + 1 < w2.heap.size := by omega
      have hne0 : ¬ w.heap.size = w2.heap.size := by omega
      have hne1 : ¬ w.heap.size + 1 = w2.heap.size := by omega
      have hne2 : ¬ w.heap.size + 1 + 1 = w2.heap.size := by omega
      have hz1 : ¬ w.heap.size = w1.heap.size := by omega
      have hz2 : ¬ w.heap.size + 1 = w1.heap.size := by omega
      have hz3 : ¬ w.heap.size + 1 + 1 = w1.heap.size := by omega
      have hz4 : ¬ w1.heap.size = w.heap.size := by omega
      have hz5 : ¬ w1.heap.size = w.heap.size + 1 := by omega
      have hz6 : ¬ w1.heap.size = w.heap.size + 1 + 1 := by omega
      try (have z1 : w2.heap[w1.heap.size]? = some (.cells #[.string ⟨#[]⟩, .int .i64 0] 57 (0, 0)) := (hb2.block _ (by simp)).trans (heap_alloc_new w1 _)
           have z2 : w2.cell? ⟨w1.heap.size, 0, none⟩ = some (.string ⟨#[]⟩) := by rw [cell_of_row w2 w1.heap.size 0 _ _ _ z1]; rfl
           have z3 : w2.cell? ⟨w1.heap.size, 1, none⟩ = some (.int .i64 0) := by rw [cell_of_row w2 w1.heap.size 1 _ _ _ z1]; rfl
           have z4 := frozen_of_row w2 w1.heap.size 0 _ _ z1
           have z5 := frozen_of_row w2 w1.heap.size 1 _ _ z1
           clear z1)
      have HF2 := Lib.hid (HF1.out.trans hf2)
      have hs2 : ScanAt w2 c s j := by first | exact scanAt_below HS1.out (below_of_drew hb2) | exact scanAt_below HS1.out (below_alloc_drew hb2)
      have HS2 := Lib.hid hs2
      clear hf2 L2 hb2 hs2))
    all_goals have hbb : (b == b) = true := by simp
    all_goals have hcn : c ≠ w1.heap.size := by omega
    all_goals have hwn : w.heap.size ≤ w1.heap.size := by omega
    · go_wp2_with fail
      (try simp only [Exit.inBlock, Exit.then])
      refine bodyPost_ret (v := .tuple #[.agg #[.string s, .int .i64 ((j : Int))], .int .i64 0]) (by rw [results_cell_tmp rfl]; go_simp) rfl ⟨j, ?_, do_fin5 HS2.out HF2.out hcw _ _ _ _ _⟩
      first | rfl | (refine congrArg Ending.returned ?_; push_cast; rfl)

    · go_wp2_with fail
      (try simp only [Exit.inBlock, Exit.then])
      refine bodyPost_ret (v := .tuple #[.agg #[.string s, .int .i64 ((j : Int))], .int .i64 0]) (by rw [results_cell_tmp rfl]; go_simp) rfl ⟨j, ?_, do_fin4 (scanAt_other (scanAt_other HS2.out _ _ _ hcn) _ _ _ hcn) (frC_set (frC_set HF2.out _ _ _ hwn) _ _ _ hwn) hcw _ _ _ _⟩
      first | rfl | (refine congrArg Ending.returned ?_; push_cast; rfl)

set_option maxRecDepth 100000 in
theorem do_4 (w : World) (c : Nat) (s : ByteArray) (i : Nat) (kd n : Int) (t : ByteArray) (h : ScanAt w c s i) (h0 : 0 ≤ kd) (h1 : kd ≤ 255) (hn0 : -9223372036854775808 ≤ n) (hn1 : n ≤ 9223372036854775807) (ht : t.size ≤ maxLen) (hk : kd.tmod 8 = 4) :
    Calls Try.prog 68 #[.pointer (some ⟨c, 0, none⟩), .agg #[.string s, .int .i64 (i : Int)], .agg #[.int .u8 kd, .string t, .int .i64 n]] w (DoPost w c s) := by
  unfold maxLen at ht
  obtain ⟨u, hU⟩ : ∃ u, t.extract 0 (min (t.size : Int) 20).toNat = u := ⟨_, rfl⟩
  have hus : u.size ≤ 20 := by rw [← hU, Lib.size_eq, Lib.extract_data, List.length_take]; omega
  have hcw := (scan_cells h).2.2.2
  have hs := h.2.2
  have hi := h.2.1
  have hL := loc_new w s i kd u n
  have hB : Below w.heap.size w (((w.alloc (.cells #[.string s, .int .i64 (i : Int)] 57)).alloc (.cells #[.int .u8 kd, .string u, .int .i64 n] 61)).alloc (.cells #[.string ⟨#[]⟩, .int .i64 0] 57)) :=
    (((Below.refl _ _).alloc (Nat.le_refl _) _).alloc (by simp) _).alloc (by simp; omega) _
  have hs0 := scanAt_below h hB
  have H := Lib.hid h
  have HL := Lib.hid hL
  have HF := Lib.hid (FrC.ofBelow (c := c) hB)
  clear hL hB h
  have hx : u.size ≤ maxLen := by unfold maxLen; omega
  have TK := Lib.hid (scan_text _ _ _ _ u hs0)
  obtain ⟨b, hb⟩ : ∃ b, nextText s i u = b := ⟨_, rfl⟩
  obtain ⟨j, hj⟩ : ∃ j, (if nextText s i u = true then i + u.size else i) = j := ⟨_, rfl⟩
  have TT := Lib.hid (fun w1 => rTake_j s i u w1 hi hs hx b hb j hj)
  have HB := Lib.hid hb; clear hb
  have HJ := Lib.hid hj; clear hj
  clear hx hs0
  go_enter Try.func68, Try.ntmps68
  go_wp2_with fail
  refine TK.out.mono ?_
  rintro e w1 ⟨rfl, hs1, hf1⟩
  rw [HJ.out] at hs1
  rw [HB.out]
  have L1 := loc_frC HL.out hf1 hcw
  obtain ⟨p0, p1, p2, p3, p4, q0, q1, q2, q3, r0, r1, hl1⟩ := loc_cells L1
  have HF1 := Lib.hid (HF.out.trans hf1)
  have HS1 := Lib.hid hs1
  have HL1 := Lib.hid L1
  clear hs1 hf1 L1 HF HL
  go_wp2_with fail
  refine (TT.out _).mono ?_
  rintro e w2 ⟨rfl, hb2⟩
  have L2 := loc_frC HL1.out (FrC.ofBelow (c := c) hb2) hcw
  clear p0 p1 p2 p3 p4 q0 q1 q2 q3 r0 r1
  obtain ⟨p0, p1, p2, p3, p4, q0, q1, q2, q3, r0, r1, hl2⟩ := loc_cells L2
  have hl0 : w.heap.size < w2.heap.size := by omega
  have hl1 : w.heap.size + 1 < w2.heap.size := by omega
  have hne0 : ¬ w.heap.size = w2.heap.size := by omega
  have hne1 : ¬ w.heap.size + 1 = w2.heap.size := by omega
  have hne2 : ¬ w.heap.size + 1 + 1 = w2.heap.size := by omega
  have HS2 := Lib.hid (scanAt_below HS1.out hb2)
  have HF2 := Lib.hid (HF1.out.trans (FrC.ofBelow (c := c) hb2))
  clear hb2 L2 HL1 HS1 HF1
  have hbb : (b == b) = true := by simp
  go_wp2_with fail
  (try simp only [Exit.inBlock, Exit.then])
  refine bodyPost_ret (v := .tuple #[.agg #[.string s, .int .i64 ((j : Int))], .int .i64 0]) (by rw [results_cell_tmp rfl]; go_simp) rfl ⟨j, ?_, do_fin5 HS2.out HF2.out hcw _ _ _ _ _⟩
  first | rfl | (refine congrArg Ending.returned ?_; push_cast; rfl)

set_option maxRecDepth 100000 in
theorem do_5 (w : World) (c : Nat) (s : ByteArray) (i : Nat) (kd n : Int) (t : ByteArray) (h : ScanAt w c s i) (h0 : 0 ≤ kd) (h1 : kd ≤ 255) (hn0 : -9223372036854775808 ≤ n) (hn1 : n ≤ 9223372036854775807) (ht : t.size ≤ maxLen) (hk : kd.tmod 8 = 5) :
    Calls Try.prog 68 #[.pointer (some ⟨c, 0, none⟩), .agg #[.string s, .int .i64 (i : Int)], .agg #[.int .u8 kd, .string t, .int .i64 n]] w (DoPost w c s) := by
  unfold maxLen at ht
  obtain ⟨u, hU⟩ : ∃ u, t.extract 0 (min (t.size : Int) 20).toNat = u := ⟨_, rfl⟩
  have hus : u.size ≤ 20 := by rw [← hU, Lib.size_eq, Lib.extract_data, List.length_take]; omega
  have hcw := (scan_cells h).2.2.2
  have hs := h.2.2
  have hi := h.2.1
  have hL := loc_new w s i kd u n
  have hB : Below w.heap.size w (((w.alloc (.cells #[.string s, .int .i64 (i : Int)] 57)).alloc (.cells #[.int .u8 kd, .string u, .int .i64 n] 61)).alloc (.cells #[.string ⟨#[]⟩, .int .i64 0] 57)) :=
    (((Below.refl _ _).alloc (Nat.le_refl _) _).alloc (by simp) _).alloc (by simp; omega) _
  have hs0 := scanAt_below h hB
  have H := Lib.hid h
  have HL := Lib.hid hL
  have HF := Lib.hid (FrC.ofBelow (c := c) hB)
  clear hL hB h
  have TK := Lib.hid (scan_back _ _ _ _ n hs0)
  clear hs0
  by_cases hn : 0 ≤ n ∧ n ≤ i
  · have hd : decide (0 ≤ n ∧ n ≤ (i : Int)) = true := decide_eq_true hn
    obtain ⟨hn2, hn3⟩ := hn
    have hd2 : decide (0 ≤ n) = true := by simp; omega
    have hd3 : decide (n ≤ (i : Int)) = true := by simp; omega
    have HD := Lib.hid hd; clear hd
    go_enter Try.func68, Try.ntmps68
    go_wp2_with fail
    refine TK.out.mono ?_
    rintro e w1 ⟨rfl, hs1, hf1⟩
    rw [if_pos ⟨hn2, hn3⟩] at hs1
    rw [HD.out]
    have L1 := loc_frC HL.out hf1 hcw
    obtain ⟨p0, p1, p2, p3, p4, q0, q1, q2, q3, r0, r1, hl1⟩ := loc_cells L1
    have HF1 := Lib.hid (HF.out.trans hf1)
    have HS1 := Lib.hid hs1
    have HL1 := Lib.hid L1
    clear hs1 hf1 L1 HF HL
    go_wp2_with fail
    (try simp only [Exit.inBlock, Exit.then])
    refine bodyPost_ret (v := .tuple #[.agg #[.string s, .int .i64 (n)], .int .i64 0]) (by rw [results_cell_tmp rfl]; go_simp) rfl ⟨n.toNat, ?_, do_fin3 HS1.out HF1.out hcw _ _ _⟩
    first | exact congrArg (fun x => Ending.returned (.tuple #[.agg #[.string s, .int .i64 x], .int .i64 0])) (show n = (n.toNat : Int) by omega) | rfl | (refine congrArg Ending.returned ?_; push_cast; rfl)

  · have hd : decide (0 ≤ n ∧ n ≤ (i : Int)) = false := decide_eq_false hn
    have HD := Lib.hid hd; clear hd
    have HN := Lib.hid hn; clear hn
    by_cases hn2 : 0 ≤ n
    · have hd2 : decide (0 ≤ n) = true := by simp; omega
      have hn3 : ¬ n ≤ (i : Int) := fun e => HN.out ⟨hn2, e⟩
      have hd3 : decide (n ≤ (i : Int)) = false := by simp; omega
      go_enter Try.func68, Try.ntmps68
      go_wp2_with fail
      refine TK.out.mono ?_
      rintro e w1 ⟨rfl, hs1, hf1⟩
      rw [if_neg HN.out] at hs1
      rw [HD.out]
      have L1 := loc_frC HL.out hf1 hcw
      obtain ⟨p0, p1, p2, p3, p4, q0, q1, q2, q3, r0, r1, hl1⟩ := loc_cells L1
      have HF1 := Lib.hid (HF.out.trans hf1)
      have HS1 := Lib.hid hs1
      have HL1 := Lib.hid L1
      clear hs1 hf1 L1 HF HL
      go_wp2_with fail
      (try simp only [Exit.inBlock, Exit.then])
      refine bodyPost_ret (v := .tuple #[.agg #[.string s, .int .i64 ((i : Int))], .int .i64 0]) (by rw [results_cell_tmp rfl]; go_simp) rfl ⟨i, ?_, do_fin2 HS1.out HF1.out hcw _ _⟩
      first | rfl | (refine congrArg Ending.returned ?_; push_cast; rfl)

    · have hd2 : decide (0 ≤ n) = false := by simp; omega
      go_enter Try.func68, Try.ntmps68
      go_wp2_with fail
      refine TK.out.mono ?_
      rintro e w1 ⟨rfl, hs1, hf1⟩
      rw [if_neg HN.out] at hs1
      rw [HD.out]
      have L1 := loc_frC HL.out hf1 hcw
      obtain ⟨p0, p1, p2, p3, p4, q0, q1, q2, q3, r0, r1, hl1⟩ := loc_cells L1
      have HF1 := Lib.hid (HF.out.trans hf1)
      have HS1 := Lib.hid hs1
      have HL1 := Lib.hid L1
      clear hs1 hf1 L1 HF HL
      go_wp2_with fail
      (try simp only [Exit.inBlock, Exit.then])
      refine bodyPost_ret (v := .tuple #[.agg #[.string s, .int .i64 ((i : Int))], .int .i64 0]) (by rw [results_cell_tmp rfl]; go_simp) rfl ⟨i, ?_, do_fin2 HS1.out HF1.out hcw _ _⟩
      first | rfl | (refine congrArg Ending.returned ?_; push_cast; rfl)

theorem scan_peek_yesF (w : World) (c : Nat) (s : ByteArray) (i : Nat) (h : ScanAt w c s i) (hi : i < s.size) :
    Calls Try.prog 110 #[.pointer (some ⟨c, 0, none⟩)] w fun e w' => e = .returned (.tuple #[.int .u8 (s[i].toNat : Int), .bool true]) ∧ ScanAt w' c s i ∧ FrC c w w' :=
  (scan_peek_yes w c s i h hi).mono fun _ _ ⟨he, n, hw⟩ => ⟨he, by subst hw; exact h, by subst hw; exact (FrC.refl c w).drewN n⟩
theorem scan_peek_noF (w : World) (c : Nat) (s : ByteArray) (i : Nat) (h : ScanAt w c s i) (hi : s.size ≤ i) :
    Calls Try.prog 110 #[.pointer (some ⟨c, 0, none⟩)] w fun e w' => e = .returned (.tuple #[.int .u8 0, .bool false]) ∧ ScanAt w' c s i ∧ FrC c w w' :=
  (scan_peek_no w c s i h hi).mono fun _ _ ⟨he, n, hw⟩ => ⟨he, by subst hw; exact h, by subst hw; exact (FrC.refl c w).drewN n⟩
theorem scanAt_drewN {w : World} {c : Nat} {s : ByteArray} {i : Nat} (h : ScanAt w c s i) (n : Nat) : ScanAt (w.drewN n) c s i := h
theorem scan_end_q (w : World) (c : Nat) (s : ByteArray) (i n : Nat) (h : ScanAt w c s i) :
    Calls Try.prog 69 #[.pointer (some ⟨c, 0, none⟩)] (w.drewN n) fun e w' => e = .returned (.bool (decide (s.size ≤ i))) ∧ ∃ m, w' = w.drewN m :=
  (scan_end (w.drewN n) c s i h).mono fun _ _ ⟨he, m, hm⟩ => ⟨he, n + m, by rw [hm, drewN_drewN]⟩

set_option maxRecDepth 100000 in
theorem do_6 (w : World) (c : Nat) (s : ByteArray) (i : Nat) (kd n : Int) (t : ByteArray) (h : ScanAt w c s i) (h0 : 0 ≤ kd) (h1 : kd ≤ 255) (hn0 : -9223372036854775808 ≤ n) (hn1 : n ≤ 9223372036854775807) (ht : t.size ≤ maxLen) (hk : kd.tmod 8 = 6) :
    Calls Try.prog 68 #[.pointer (some ⟨c, 0, none⟩), .agg #[.string s, .int .i64 (i : Int)], .agg #[.int .u8 kd, .string t, .int .i64 n]] w (DoPost w c s) := by
  unfold maxLen at ht
  obtain ⟨u, hU⟩ : ∃ u, t.extract 0 (min (t.size : Int) 20).toNat = u := ⟨_, rfl⟩
  have hus : u.size ≤ 20 := by rw [← hU, Lib.size_eq, Lib.extract_data, List.length_take]; omega
  have hcw := (scan_cells h).2.2.2
  have hs := h.2.2
  have hi := h.2.1
  have hL := loc_new w s i kd u n
  have hB : Below w.heap.size w (((w.alloc (.cells #[.string s, .int .i64 (i : Int)] 57)).alloc (.cells #[.int .u8 kd, .string u, .int .i64 n] 61)).alloc (.cells #[.string ⟨#[]⟩, .int .i64 0] 57)) :=
    (((Below.refl _ _).alloc (Nat.le_refl _) _).alloc (by simp) _).alloc (by simp; omega) _
  have hs0 := scanAt_below h hB
  have H := Lib.hid h
  have HL := Lib.hid hL
  have HF := Lib.hid (FrC.ofBelow (c := c) hB)
  clear hL hB h
  by_cases hlt : i < s.size
  · have TK := Lib.hid (scan_peek_yesF _ _ _ _ hs0 hlt)
    have hd : decide ((i : Int) < s.size) = true := by simp; omega
    clear hs0
    go_enter Try.func68, Try.ntmps68
    go_wp2_with fail
    refine TK.out.mono ?_
    rintro e w1 ⟨rfl, hs1, hf1⟩
    have L1 := loc_frC HL.out hf1 hcw
    obtain ⟨p0, p1, p2, p3, p4, q0, q1, q2, q3, r0, r1, hl1⟩ := loc_cells L1
    have HF1 := Lib.hid (HF.out.trans hf1)
    have HS1 := Lib.hid hs1
    have HL1 := Lib.hid L1
    clear hs1 hf1 L1 HF HL
    go_wp2_with fail
    (try simp only [Exit.inBlock, Exit.then])
    refine bodyPost_ret (v := .tuple #[.agg #[.string s, .int .i64 ((i : Int))], .int .i64 0]) (by rw [results_cell_tmp rfl]; go_simp) rfl ⟨i, ?_, do_fin2 HS1.out HF1.out hcw _ _⟩
    first | rfl | (refine congrArg Ending.returned ?_; push_cast; rfl)

  · have TK := Lib.hid (scan_peek_noF _ _ _ _ hs0 (by omega))
    have hd : decide ((i : Int) < s.size) = false := by simp; omega
    clear hs0
    go_enter Try.func68, Try.ntmps68
    go_wp2_with fail
    refine TK.out.mono ?_
    rintro e w1 ⟨rfl, hs1, hf1⟩
    have L1 := loc_frC HL.out hf1 hcw
    obtain ⟨p0, p1, p2, p3, p4, q0, q1, q2, q3, r0, r1, hl1⟩ := loc_cells L1
    have HF1 := Lib.hid (HF.out.trans hf1)
    have HS1 := Lib.hid hs1
    have HL1 := Lib.hid L1
    clear hs1 hf1 L1 HF HL
    go_wp2_with fail
    (try simp only [Exit.inBlock, Exit.then])
    refine bodyPost_ret (v := .tuple #[.agg #[.string s, .int .i64 ((i : Int))], .int .i64 0]) (by rw [results_cell_tmp rfl]; go_simp) rfl ⟨i, ?_, do_fin2 HS1.out HF1.out hcw _ _⟩
    first | rfl | (refine congrArg Ending.returned ?_; push_cast; rfl)

set_option maxRecDepth 100000 in
theorem do_7 (w : World) (c : Nat) (s : ByteArray) (i : Nat) (kd n : Int) (t : ByteArray) (h : ScanAt w c s i) (h0 : 0 ≤ kd) (h1 : kd ≤ 255) (hn0 : -9223372036854775808 ≤ n) (hn1 : n ≤ 9223372036854775807) (ht : t.size ≤ maxLen) (hk : kd.tmod 8 = 7) :
    Calls Try.prog 68 #[.pointer (some ⟨c, 0, none⟩), .agg #[.string s, .int .i64 (i : Int)], .agg #[.int .u8 kd, .string t, .int .i64 n]] w (DoPost w c s) := by
  unfold maxLen at ht
  obtain ⟨u, hU⟩ : ∃ u, t.extract 0 (min (t.size : Int) 20).toNat = u := ⟨_, rfl⟩
  have hus : u.size ≤ 20 := by rw [← hU, Lib.size_eq, Lib.extract_data, List.length_take]; omega
  have hcw := (scan_cells h).2.2.2
  have hs := h.2.2
  have hi := h.2.1
  have hL := loc_new w s i kd u n
  have hB : Below w.heap.size w (((w.alloc (.cells #[.string s, .int .i64 (i : Int)] 57)).alloc (.cells #[.int .u8 kd, .string u, .int .i64 n] 61)).alloc (.cells #[.string ⟨#[]⟩, .int .i64 0] 57)) :=
    (((Below.refl _ _).alloc (Nat.le_refl _) _).alloc (by simp) _).alloc (by simp; omega) _
  have hs0 := scanAt_below h hB
  have H := Lib.hid h
  have HL := Lib.hid hL
  have HF := Lib.hid (FrC.ofBelow (c := c) hB)
  clear hL hB h
  have EN := Lib.hid (fun n => scan_end_q _ c s i n hs0)
  have hd : (decide (s.size ≤ i) == ((i : Int) == (s.size : Int))) = true := by
    rw [beq_iff_eq, Bool.eq_iff_iff]; simp; omega
  have HS0 := Lib.hid hs0
  clear hs0
  go_enter Try.func68, Try.ntmps68
  go_wp2_with fail
  go_quiet ((go_at_call 69; exact EN.out _))
  go_wp2_with fail
  (try simp only [Exit.inBlock, Exit.then])
  refine bodyPost_ret (v := .tuple #[.agg #[.string s, .int .i64 ((i : Int))], .int .i64 0]) (by rw [results_cell_tmp rfl]; go_simp) rfl ⟨i, ?_, do_fin2 (scanAt_drewN HS0.out nq) (HF.out.drewN nq) hcw _ _⟩
  first | rfl | (refine congrArg Ending.returned ?_; push_cast; rfl)

theorem do_any (w : World) (c : Nat) (s : ByteArray) (i : Nat) (kd n : Int) (t : ByteArray) (h : ScanAt w c s i) (h0 : 0 ≤ kd) (h1 : kd ≤ 255) (hn0 : -9223372036854775808 ≤ n) (hn1 : n ≤ 9223372036854775807) (ht : t.size ≤ maxLen) :
    Calls Try.prog 68 #[.pointer (some ⟨c, 0, none⟩), .agg #[.string s, .int .i64 (i : Int)], .agg #[.int .u8 kd, .string t, .int .i64 n]] w (DoPost w c s) := by
  have hm : kd.tmod 8 = 0 ∨ kd.tmod 8 = 1 ∨ kd.tmod 8 = 2 ∨ kd.tmod 8 = 3 ∨ kd.tmod 8 = 4 ∨ kd.tmod 8 = 5 ∨ kd.tmod 8 = 6 ∨ kd.tmod 8 = 7 := by
    rw [Int.tmod_eq_emod_of_nonneg h0]; omega
  rcases hm with hk | hk | hk | hk | hk | hk | hk | hk
  · exact do_0 w c s i kd n t h h0 h1 hn0 hn1 ht hk
  · exact do_1 w c s i kd n t h h0 h1 hn0 hn1 ht hk
  · exact do_2 w c s i kd n t h h0 h1 hn0 hn1 ht hk
  · exact do_3 w c s i kd n t h h0 h1 hn0 hn1 ht hk
  · exact do_4 w c s i kd n t h h0 h1 hn0 hn1 ht hk
  · exact do_5 w c s i kd n t h h0 h1 hn0 hn1 ht hk
  · exact do_6 w c s i kd n t h h0 h1 hn0 hn1 ht hk
  · exact do_7 w c s i kd n t h h0 h1 hn0 hn1 ht hk

end Go.Proofs.Ythhpijmkhhdhhaa
