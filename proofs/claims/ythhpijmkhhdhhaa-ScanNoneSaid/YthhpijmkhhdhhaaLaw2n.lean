/- The law's own do of layer 2, at a nil scanner. -/
import Derived.Test.YthhpijmkhhdhhaaLaw2d
namespace Go.Proofs.Ythhpijmkhhdhhaa
open Go.RowKit
set_option linter.unusedVariables false
set_option linter.unusedSimpArgs false

def DoNil (w : World) (e : Ending) (w' : World) : Prop := e = .returned (.tuple #[.agg #[.string ⟨#[]⟩, .int .i64 0], .int .i64 0]) ∧ Below w.heap.size w w'

theorem rWhile_nil (k : Int) (hk : k = 0 ∨ k = 1 ∨ k = 2) (w : World) :
    Calls Try.prog 111 #[.agg #[.string ⟨#[]⟩, .int .i64 0], .int .i64 k] w fun e w' => e = .returned (.tuple #[.agg #[.string ⟨#[]⟩, .int .i64 0], .string ⟨#[]⟩]) ∧ Below w.heap.size w w' :=
  (rWhile_any ⟨#[]⟩ 0 k hk w (Nat.zero_le _) (by decide)).mono fun _ _ ⟨he, hb⟩ => ⟨by rw [he]; rfl, hb⟩

theorem nextText_nil (t : ByteArray) : nextText ⟨#[]⟩ 0 t = decide (t.size = 0) := by
  unfold nextText
  rw [show ahead ⟨#[]⟩ 0 = [] from rfl, Lib.size_eq]; cases t.data.toList <;> simp [Lib.hasPrefix]

theorem rTake_nil (t : ByteArray) (w : World) (ht : t.size ≤ maxLen) (b : Bool) (hb : decide (t.size = 0) = b) :
    Calls Try.prog 112 #[.agg #[.string ⟨#[]⟩, .int .i64 0], .string t] w fun e w' => e = .returned (.tuple #[.agg #[.string ⟨#[]⟩, .int .i64 0], .bool b]) ∧ Below w.heap.size w w' := by
  subst hb
  refine (rTake_any ⟨#[]⟩ 0 t w (Nat.zero_le _) (by decide) ht).mono ?_
  rintro e w' ⟨rfl, hb⟩
  rw [nextText_nil]
  refine ⟨?_, hb⟩
  by_cases hz : t.size = 0
  · rw [decide_eq_true hz, if_pos rfl, hz]; rfl
  · rw [decide_eq_false hz, if_neg (by simp)]; rfl

theorem nil_end_q (w : World) (n : Nat) : Calls Try.prog 69 #[.pointer none] (w.drewN n) fun e w' => e = .returned (.bool true) ∧ ∃ m, w' = w.drewN m :=
  (nil_end (w.drewN n)).mono fun _ _ ⟨he, hm⟩ => ⟨he, n, hm.symm⟩

theorem loc_cells0 {w : World} {B : Nat} {kd : Int} {t : ByteArray} {n : Int} (h : Loc w B ⟨#[]⟩ 0 kd t n) :
    w.cell? ⟨B, 0, none⟩ = some (.string ⟨#[]⟩) ∧ w.cell? ⟨B, 1, none⟩ = some (.int .i64 0) ∧ w.cell? ⟨B + 1, 0, none⟩ = some (.int .u8 kd) ∧ w.cell? ⟨B + 1, 1, none⟩ = some (.string t) ∧ w.cell? ⟨B + 1, 2, none⟩ = some (.int .i64 n) ∧
    w.frozen? ⟨B, 0, none⟩ = false ∧ w.frozen? ⟨B, 1, none⟩ = false ∧ w.frozen? ⟨B + 1 + 1, 0, none⟩ = false ∧ w.frozen? ⟨B + 1 + 1, 1, none⟩ = false ∧ w.cell? ⟨B + 1 + 1, 0, none⟩ = some (.string ⟨#[]⟩) ∧ w.cell? ⟨B + 1 + 1, 1, none⟩ = some (.int .i64 0) ∧ B + 1 + 1 < w.heap.size := loc_cells h

theorem loc_below {w w' : World} {B : Nat} {s : ByteArray} {i : Nat} {kd : Int} {t : ByteArray} {n : Int} (h : Loc w B s i kd t n) (hb : Below w.heap.size w w') : Loc w' B s i kd t n := by
  obtain ⟨h1, h2, h3⟩ := h
  exact ⟨(hb.block _ (lt_of_block h1)).trans h1, (hb.block _ (lt_of_block h2)).trans h2, (hb.block _ (lt_of_block h3)).trans h3⟩

theorem don_fin2 {w w2 : World} (HF : Below w.heap.size w w2) (v1 v2 : Value) :
    Below w.heap.size w ((w2.setCell ⟨w.heap.size + 1 + 1, 0, none⟩ v1).setCell ⟨w.heap.size + 1 + 1, 1, none⟩ v2) :=
  (HF.setCell (by simp; omega) _).setCell (by simp; omega) _
theorem don_fin3 {w w2 : World} (HF : Below w.heap.size w w2) (v0 v1 v2 : Value) :
    Below w.heap.size w (((w2.setCell ⟨w.heap.size, 1, none⟩ v0).setCell ⟨w.heap.size + 1 + 1, 0, none⟩ v1).setCell ⟨w.heap.size + 1 + 1, 1, none⟩ v2) :=
  don_fin2 (HF.setCell (by simp) _) _ _
theorem don_fin4 {w w2 : World} (HF : Below w.heap.size w w2) (v0 v1 v2 v3 : Value) :
    Below w.heap.size w ((((w2.setCell ⟨w.heap.size, 0, none⟩ v0).setCell ⟨w.heap.size, 1, none⟩ v1).setCell ⟨w.heap.size + 1 + 1, 0, none⟩ v2).setCell ⟨w.heap.size + 1 + 1, 1, none⟩ v3) :=
  don_fin3 (HF.setCell (by simp) _) _ _ _
theorem don_fin5 {w w2 : World} (HF : Below w.heap.size w w2) (v0 v1 v2 v3 : Value) (o : Obj) :
    Below w.heap.size w (((((w2.setCell ⟨w.heap.size, 0, none⟩ v0).setCell ⟨w.heap.size, 1, none⟩ v1).setCell ⟨w.heap.size + 1 + 1, 0, none⟩ v2).setCell ⟨w.heap.size + 1 + 1, 1, none⟩ v3).alloc o) :=
  (don_fin4 HF v0 v1 v2 v3).alloc (don_fin4 HF v0 v1 v2 v3).size o

set_option maxRecDepth 100000 in
theorem don_0 (w : World) (kd n : Int) (t : ByteArray) (h0 : 0 ≤ kd) (h1 : kd ≤ 255) (hn0 : -9223372036854775808 ≤ n) (hn1 : n ≤ 9223372036854775807) (ht : t.size ≤ maxLen) (hk : kd.tmod 8 = 0) :
    Calls Try.prog 68 #[.pointer none, .agg #[.string ⟨#[]⟩, .int .i64 0], .agg #[.int .u8 kd, .string t, .int .i64 n]] w (DoNil w) := by
  unfold maxLen at ht
  obtain ⟨u, hU⟩ : ∃ u, t.extract 0 (min (t.size : Int) 20).toNat = u := ⟨_, rfl⟩
  have hus : u.size ≤ 20 := by rw [← hU, Lib.size_eq, Lib.extract_data, List.length_take]; omega
  have hL : Loc (((w.alloc (.cells #[.string ⟨#[]⟩, .int .i64 0] 57)).alloc (.cells #[.int .u8 kd, .string u, .int .i64 n] 61)).alloc (.cells #[.string ⟨#[]⟩, .int .i64 0] 57)) w.heap.size ⟨#[]⟩ 0 kd u n := loc_new w ⟨#[]⟩ 0 kd u n
  have hB : Below w.heap.size w (((w.alloc (.cells #[.string ⟨#[]⟩, .int .i64 0] 57)).alloc (.cells #[.int .u8 kd, .string u, .int .i64 n] 61)).alloc (.cells #[.string ⟨#[]⟩, .int .i64 0] 57)) :=
    (((Below.refl _ _).alloc (Nat.le_refl _) _).alloc (by simp) _).alloc (by simp; omega) _
  have HL := Lib.hid hL
  have HF := Lib.hid hB
  clear hL hB
  go_enter Try.func68, Try.ntmps68
  go_wp2_with fail
  refine (nil_token _).mono ?_
  rintro e w1 ⟨rfl, hw1⟩
  have L1 := HL.out
  have HF1 := Lib.hid HF.out
  rw [hw1] at L1
  rw [hw1] at HF1
  clear hw1
  obtain ⟨p0, p1, p2, p3, p4, q0, q1, q2, q3, r0, r1, hl1⟩ := loc_cells0 L1
  have HL1 := Lib.hid L1
  clear L1 HF HL
  go_wp2_with fail
  refine (rWhile_nil 0 (by omega) w1).mono ?_
  rintro e w2 ⟨rfl, hb2⟩
  have L2 := loc_below HL1.out hb2
  clear p0 p1 p2 p3 p4 q0 q1 q2 q3 r0 r1
  obtain ⟨p0, p1, p2, p3, p4, q0, q1, q2, q3, r0, r1, hl2⟩ := loc_cells0 L2
  have hl0 : w.heap.size < w2.heap.size := by omega
  have hl1 : w.heap.size + 1 < w2.heap.size := by omega
  have hne0 : ¬ w.heap.size = w2.heap.size := by omega
  have hne1 : ¬ w.heap.size + 1 = w2.heap.size := by omega
  have hne2 : ¬ w.heap.size + 1 + 1 = w2.heap.size := by omega
  have HF2 := Lib.hid (HF1.out.trans (hb2.mono (by omega)))
  clear hb2 L2 HL1 HF1
  go_wp2_with fail
  (try simp only [Exit.inBlock, Exit.then])
  refine bodyPost_ret (v := .tuple #[.agg #[.string ⟨#[]⟩, .int .i64 0], .int .i64 0]) (by rw [results_cell_tmp rfl]; go_simp) rfl ⟨rfl, don_fin5 HF2.out _ _ _ _ _⟩

set_option maxRecDepth 100000 in
theorem don_1 (w : World) (kd n : Int) (t : ByteArray) (h0 : 0 ≤ kd) (h1 : kd ≤ 255) (hn0 : -9223372036854775808 ≤ n) (hn1 : n ≤ 9223372036854775807) (ht : t.size ≤ maxLen) (hk : kd.tmod 8 = 1) :
    Calls Try.prog 68 #[.pointer none, .agg #[.string ⟨#[]⟩, .int .i64 0], .agg #[.int .u8 kd, .string t, .int .i64 n]] w (DoNil w) := by
  unfold maxLen at ht
  obtain ⟨u, hU⟩ : ∃ u, t.extract 0 (min (t.size : Int) 20).toNat = u := ⟨_, rfl⟩
  have hus : u.size ≤ 20 := by rw [← hU, Lib.size_eq, Lib.extract_data, List.length_take]; omega
  have hL : Loc (((w.alloc (.cells #[.string ⟨#[]⟩, .int .i64 0] 57)).alloc (.cells #[.int .u8 kd, .string u, .int .i64 n] 61)).alloc (.cells #[.string ⟨#[]⟩, .int .i64 0] 57)) w.heap.size ⟨#[]⟩ 0 kd u n := loc_new w ⟨#[]⟩ 0 kd u n
  have hB : Below w.heap.size w (((w.alloc (.cells #[.string ⟨#[]⟩, .int .i64 0] 57)).alloc (.cells #[.int .u8 kd, .string u, .int .i64 n] 61)).alloc (.cells #[.string ⟨#[]⟩, .int .i64 0] 57)) :=
    (((Below.refl _ _).alloc (Nat.le_refl _) _).alloc (by simp) _).alloc (by simp; omega) _
  have HL := Lib.hid hL
  have HF := Lib.hid hB
  clear hL hB
  go_enter Try.func68, Try.ntmps68
  go_wp2_with fail
  refine (nil_blanks _).mono ?_
  rintro e w1 ⟨rfl, hw1⟩
  have L1 := HL.out
  have HF1 := Lib.hid HF.out
  rw [hw1] at L1
  rw [hw1] at HF1
  clear hw1
  obtain ⟨p0, p1, p2, p3, p4, q0, q1, q2, q3, r0, r1, hl1⟩ := loc_cells0 L1
  have HL1 := Lib.hid L1
  clear L1 HF HL
  go_wp2_with fail
  refine (rWhile_nil 1 (by omega) w1).mono ?_
  rintro e w2 ⟨rfl, hb2⟩
  have L2 := loc_below HL1.out hb2
  clear p0 p1 p2 p3 p4 q0 q1 q2 q3 r0 r1
  obtain ⟨p0, p1, p2, p3, p4, q0, q1, q2, q3, r0, r1, hl2⟩ := loc_cells0 L2
  have hl0 : w.heap.size < w2.heap.size := by omega
  have hl1 : w.heap.size + 1 < w2.heap.size := by omega
  have hne0 : ¬ w.heap.size = w2.heap.size := by omega
  have hne1 : ¬ w.heap.size + 1 = w2.heap.size := by omega
  have hne2 : ¬ w.heap.size + 1 + 1 = w2.heap.size := by omega
  have HF2 := Lib.hid (HF1.out.trans (hb2.mono (by omega)))
  clear hb2 L2 HL1 HF1
  go_wp2_with fail
  (try simp only [Exit.inBlock, Exit.then])
  refine bodyPost_ret (v := .tuple #[.agg #[.string ⟨#[]⟩, .int .i64 0], .int .i64 0]) (by rw [results_cell_tmp rfl]; go_simp) rfl ⟨rfl, don_fin5 HF2.out _ _ _ _ _⟩

set_option maxRecDepth 100000 in
theorem don_2 (w : World) (kd n : Int) (t : ByteArray) (h0 : 0 ≤ kd) (h1 : kd ≤ 255) (hn0 : -9223372036854775808 ≤ n) (hn1 : n ≤ 9223372036854775807) (ht : t.size ≤ maxLen) (hk : kd.tmod 8 = 2) :
    Calls Try.prog 68 #[.pointer none, .agg #[.string ⟨#[]⟩, .int .i64 0], .agg #[.int .u8 kd, .string t, .int .i64 n]] w (DoNil w) := by
  unfold maxLen at ht
  obtain ⟨u, hU⟩ : ∃ u, t.extract 0 (min (t.size : Int) 20).toNat = u := ⟨_, rfl⟩
  have hus : u.size ≤ 20 := by rw [← hU, Lib.size_eq, Lib.extract_data, List.length_take]; omega
  have hL : Loc (((w.alloc (.cells #[.string ⟨#[]⟩, .int .i64 0] 57)).alloc (.cells #[.int .u8 kd, .string u, .int .i64 n] 61)).alloc (.cells #[.string ⟨#[]⟩, .int .i64 0] 57)) w.heap.size ⟨#[]⟩ 0 kd u n := loc_new w ⟨#[]⟩ 0 kd u n
  have hB : Below w.heap.size w (((w.alloc (.cells #[.string ⟨#[]⟩, .int .i64 0] 57)).alloc (.cells #[.int .u8 kd, .string u, .int .i64 n] 61)).alloc (.cells #[.string ⟨#[]⟩, .int .i64 0] 57)) :=
    (((Below.refl _ _).alloc (Nat.le_refl _) _).alloc (by simp) _).alloc (by simp; omega) _
  have HL := Lib.hid hL
  have HF := Lib.hid hB
  clear hL hB
  go_enter Try.func68, Try.ntmps68
  go_wp2_with fail
  refine (nil_while _ _).mono ?_
  rintro e w1 ⟨rfl, hw1⟩
  have L1 := HL.out
  have HF1 := Lib.hid HF.out
  rw [hw1] at L1
  rw [hw1] at HF1
  clear hw1
  obtain ⟨p0, p1, p2, p3, p4, q0, q1, q2, q3, r0, r1, hl1⟩ := loc_cells0 L1
  have HL1 := Lib.hid L1
  clear L1 HF HL
  go_wp2_with fail
  refine (rWhile_nil 2 (by omega) w1).mono ?_
  rintro e w2 ⟨rfl, hb2⟩
  have L2 := loc_below HL1.out hb2
  clear p0 p1 p2 p3 p4 q0 q1 q2 q3 r0 r1
  obtain ⟨p0, p1, p2, p3, p4, q0, q1, q2, q3, r0, r1, hl2⟩ := loc_cells0 L2
  have hl0 : w.heap.size < w2.heap.size := by omega
  have hl1 : w.heap.size + 1 < w2.heap.size := by omega
  have hne0 : ¬ w.heap.size = w2.heap.size := by omega
  have hne1 : ¬ w.heap.size + 1 = w2.heap.size := by omega
  have hne2 : ¬ w.heap.size + 1 + 1 = w2.heap.size := by omega
  have HF2 := Lib.hid (HF1.out.trans (hb2.mono (by omega)))
  clear hb2 L2 HL1 HF1
  go_wp2_with fail
  (try simp only [Exit.inBlock, Exit.then])
  refine bodyPost_ret (v := .tuple #[.agg #[.string ⟨#[]⟩, .int .i64 0], .int .i64 0]) (by rw [results_cell_tmp rfl]; go_simp) rfl ⟨rfl, don_fin5 HF2.out _ _ _ _ _⟩

set_option maxRecDepth 100000 in
theorem don_3 (w : World) (kd n : Int) (t : ByteArray) (h0 : 0 ≤ kd) (h1 : kd ≤ 255) (hn0 : -9223372036854775808 ≤ n) (hn1 : n ≤ 9223372036854775807) (ht : t.size ≤ maxLen) (hk : kd.tmod 8 = 3) :
    Calls Try.prog 68 #[.pointer none, .agg #[.string ⟨#[]⟩, .int .i64 0], .agg #[.int .u8 kd, .string t, .int .i64 n]] w (DoNil w) := by
  unfold maxLen at ht
  obtain ⟨u, hU⟩ : ∃ u, t.extract 0 (min (t.size : Int) 20).toNat = u := ⟨_, rfl⟩
  have hus : u.size ≤ 20 := by rw [← hU, Lib.size_eq, Lib.extract_data, List.length_take]; omega
  have hL : Loc (((w.alloc (.cells #[.string ⟨#[]⟩, .int .i64 0] 57)).alloc (.cells #[.int .u8 kd, .string u, .int .i64 n] 61)).alloc (.cells #[.string ⟨#[]⟩, .int .i64 0] 57)) w.heap.size ⟨#[]⟩ 0 kd u n := loc_new w ⟨#[]⟩ 0 kd u n
  have hB : Below w.heap.size w (((w.alloc (.cells #[.string ⟨#[]⟩, .int .i64 0] 57)).alloc (.cells #[.int .u8 kd, .string u, .int .i64 n] 61)).alloc (.cells #[.string ⟨#[]⟩, .int .i64 0] 57)) :=
    (((Below.refl _ _).alloc (Nat.le_refl _) _).alloc (by simp) _).alloc (by simp; omega) _
  have HL := Lib.hid hL
  have HF := Lib.hid hB
  clear hL hB
  by_cases hz : u.size = 0
  · have hz2 : u.toList.isEmpty = true := by rw [Lib.toList_data, List.isEmpty_iff_length_eq_zero, ← Lib.size_eq]; exact hz
    have HZ := Lib.hid hz; clear hz
    have L1 := HL.out
    obtain ⟨p0, p1, p2, p3, p4, q0, q1, q2, q3, r0, r1, hl1⟩ := loc_cells0 L1
    clear L1
    go_enter Try.func68, Try.ntmps68
    go_wp2_with fail
    (try simp only [Exit.inBlock, Exit.then])
    have hb3 := three_alloc w (.cells #[.string ⟨#[]⟩, .int .i64 0] 57) (.cells #[.int .u8 kd, .string u, .int .i64 n] 61) (.cells #[.string ⟨#[]⟩, .int .i64 0] 57)
    refine bodyPost_ret (v := .tuple #[.agg #[.string ⟨#[]⟩, .int .i64 0], .int .i64 0]) (by rw [results_cell_tmp rfl]; go_simp) rfl ⟨rfl, hb3⟩
  · have hz2 : u.toList.isEmpty = false := by rw [Bool.eq_false_iff]; intro e; rw [Lib.toList_data, List.isEmpty_iff_length_eq_zero, ← Lib.size_eq] at e; exact hz e
    have hu : 0 < u.size := by omega
    have hu2 : (0 : Int) < u.size := by omega
    have hu3 : (1 : Int) ≤ u.size := by omega
    have hx : (u.extract 0 1).size ≤ maxLen := by rw [Lib.size_eq, Lib.extract_data, List.length_take]; unfold maxLen; omega
    have hx1 : decide ((u.extract 0 1).size = 0) = false := by
      have : (u.extract 0 1).size = 1 := by rw [Lib.size_eq, Lib.extract_data, List.length_take, List.length_drop, ← Lib.size_eq]; omega
      rw [this]; rfl
    have TT := Lib.hid (fun w1 => rTake_nil (u.extract 0 1) w1 hx false hx1)
    clear hx hx1
    go_enter Try.func68, Try.ntmps68
    go_wp2_with fail
    refine (nil_byte _ _).mono ?_
    rintro e w1 ⟨rfl, hw1⟩
    have L1 := HL.out
    have HF1 := Lib.hid HF.out
    rw [hw1] at L1
    rw [hw1] at HF1
    clear hw1
    obtain ⟨p0, p1, p2, p3, p4, q0, q1, q2, q3, r0, r1, hl1⟩ := loc_cells0 L1
    have HL1 := Lib.hid L1
    clear L1 HF HL
    go_wp2_with fail
    go_region_held3 (fun w' => w'.cell? ⟨w.heap.size, 0, none⟩ = some (.string ⟨#[]⟩) ∧ w'.cell? ⟨w.heap.size, 1, none⟩ = some (.int .i64 0) ∧ w'.cell? ⟨w.heap.size + 1, 1, none⟩ = some (.string u)) (first | go_keep | (refine ⟨?_, ?_, ?_⟩ <;> first | go_keep | (rw [cell_setCell_ne _ _ _ _ _ (by omega), cell_setCell_ne _ _ _ _ _ (by omega)]; assumption))) ((
      go_at_call 112
      refine (TT.out _).mono ?_
      rintro e w2 ⟨rfl, hb2⟩
      have hf2 : Below w1.heap.size w1 w2 := by first | exact below_of_drew hb2 | exact below_alloc_drew hb2
      have L2 := loc_below HL1.out hf2
      obtain ⟨p0, p1, p2, p3, p4, q0, q1, q2, q3, r0, r1, hl2⟩ := loc_cells0 L2
      have hl0 : w.heap.size < w2.heap.size := by omega
      have hl1 : w.heap.size + 1 < w2.heap.size := by omega
      have hne0 : ¬ w.heap.size = w2.heap.size := by omega
      have hne1 : ¬ w.heap.size + 1 = w2.heap.size := by omega
      have hne2 : ¬ w.heap.size + 1 + 1 = w2.heap.size := by omega
      have hz1 : ¬ w.heap.size = w1.heap.size := by omega
      have hz2 : ¬ w.heap.size + 1 = w1.heap.size := by omega
      have hz3 : ¬ w.heap.size + 1 + 1 = w1.heap.size := by omega
      have hz4 : ¬ w1.heap.size = w.heap.size := by omega
      have hz5 : ¬ w1.heap.size = w.heap.size + 1 := by omega
      have hz6 : ¬ w1.heap.size = w.heap.size + 1 + 1 := by omega
      try (have z1 : w2.heap[w1.heap.size]? = some (.cells #[.string ⟨#[]⟩, .int .i64 0] 57 (0, 0)) := (hb2.block _ (by simp)).trans (heap_alloc_new w1 _)
           have z2 : w2.cell? ⟨w1.heap.size, 0, none⟩ = some (.string ⟨#[]⟩) := by rw [cell_of_row w2 w1.heap.size 0 _ _ _ z1]; rfl
           have z3 : w2.cell? ⟨w1.heap.size, 1, none⟩ = some (.int .i64 0) := by rw [cell_of_row w2 w1.heap.size 1 _ _ _ z1]; rfl
           have z4 := frozen_of_row w2 w1.heap.size 0 _ _ z1
           have z5 := frozen_of_row w2 w1.heap.size 1 _ _ z1
           clear z1)
      have HF2 := Lib.hid (HF1.out.trans (hf2.mono (by omega)))
      clear hf2 L2 hb2))
    all_goals have hwn : w.heap.size ≤ w1.heap.size := by omega
    · go_wp2_with fail
      (try simp only [Exit.inBlock, Exit.then])
      refine bodyPost_ret (v := .tuple #[.agg #[.string ⟨#[]⟩, .int .i64 0], .int .i64 0]) (by rw [results_cell_tmp rfl]; go_simp) rfl ⟨rfl, don_fin5 HF2.out _ _ _ _ _⟩

    · go_wp2_with fail
      (try simp only [Exit.inBlock, Exit.then])
      refine bodyPost_ret (v := .tuple #[.agg #[.string ⟨#[]⟩, .int .i64 0], .int .i64 0]) (by rw [results_cell_tmp rfl]; go_simp) rfl ⟨rfl, don_fin4 ((HF2.out.setCell hwn _).setCell hwn _) _ _ _ _⟩

set_option maxRecDepth 100000 in
theorem don_4 (w : World) (kd n : Int) (t : ByteArray) (h0 : 0 ≤ kd) (h1 : kd ≤ 255) (hn0 : -9223372036854775808 ≤ n) (hn1 : n ≤ 9223372036854775807) (ht : t.size ≤ maxLen) (hk : kd.tmod 8 = 4) :
    Calls Try.prog 68 #[.pointer none, .agg #[.string ⟨#[]⟩, .int .i64 0], .agg #[.int .u8 kd, .string t, .int .i64 n]] w (DoNil w) := by
  unfold maxLen at ht
  obtain ⟨u, hU⟩ : ∃ u, t.extract 0 (min (t.size : Int) 20).toNat = u := ⟨_, rfl⟩
  have hus : u.size ≤ 20 := by rw [← hU, Lib.size_eq, Lib.extract_data, List.length_take]; omega
  have hL : Loc (((w.alloc (.cells #[.string ⟨#[]⟩, .int .i64 0] 57)).alloc (.cells #[.int .u8 kd, .string u, .int .i64 n] 61)).alloc (.cells #[.string ⟨#[]⟩, .int .i64 0] 57)) w.heap.size ⟨#[]⟩ 0 kd u n := loc_new w ⟨#[]⟩ 0 kd u n
  have hB : Below w.heap.size w (((w.alloc (.cells #[.string ⟨#[]⟩, .int .i64 0] 57)).alloc (.cells #[.int .u8 kd, .string u, .int .i64 n] 61)).alloc (.cells #[.string ⟨#[]⟩, .int .i64 0] 57)) :=
    (((Below.refl _ _).alloc (Nat.le_refl _) _).alloc (by simp) _).alloc (by simp; omega) _
  have HL := Lib.hid hL
  have HF := Lib.hid hB
  clear hL hB
  have hx : u.size ≤ maxLen := by unfold maxLen; omega
  obtain ⟨b, hb⟩ : ∃ b, decide (u.size = 0) = b := ⟨_, rfl⟩
  have TT := Lib.hid (fun w1 => rTake_nil u w1 hx b hb)
  have HB := Lib.hid hb; clear hb hx
  go_enter Try.func68, Try.ntmps68
  go_wp2_with fail
  refine (nil_text _ _).mono ?_
  rintro e w1 ⟨rfl, hw1⟩
  rw [HB.out]
  have L1 := HL.out
  have HF1 := Lib.hid HF.out
  rw [hw1] at L1
  rw [hw1] at HF1
  clear hw1
  obtain ⟨p0, p1, p2, p3, p4, q0, q1, q2, q3, r0, r1, hl1⟩ := loc_cells0 L1
  have HL1 := Lib.hid L1
  clear L1 HF HL
  go_wp2_with fail
  refine (TT.out _).mono ?_
  rintro e w2 ⟨rfl, hb2⟩
  have L2 := loc_below HL1.out hb2
  clear p0 p1 p2 p3 p4 q0 q1 q2 q3 r0 r1
  obtain ⟨p0, p1, p2, p3, p4, q0, q1, q2, q3, r0, r1, hl2⟩ := loc_cells0 L2
  have hl0 : w.heap.size < w2.heap.size := by omega
  have hl1 : w.heap.size + 1 < w2.heap.size := by omega
  have hne0 : ¬ w.heap.size = w2.heap.size := by omega
  have hne1 : ¬ w.heap.size + 1 = w2.heap.size := by omega
  have hne2 : ¬ w.heap.size + 1 + 1 = w2.heap.size := by omega
  have HF2 := Lib.hid (HF1.out.trans (hb2.mono (by omega)))
  clear hb2 L2 HL1 HF1
  have hbb : (b == b) = true := by simp
  go_wp2_with fail
  (try simp only [Exit.inBlock, Exit.then])
  refine bodyPost_ret (v := .tuple #[.agg #[.string ⟨#[]⟩, .int .i64 0], .int .i64 0]) (by rw [results_cell_tmp rfl]; go_simp) rfl ⟨rfl, don_fin5 HF2.out _ _ _ _ _⟩

set_option maxRecDepth 100000 in
theorem don_5 (w : World) (kd n : Int) (t : ByteArray) (h0 : 0 ≤ kd) (h1 : kd ≤ 255) (hn0 : -9223372036854775808 ≤ n) (hn1 : n ≤ 9223372036854775807) (ht : t.size ≤ maxLen) (hk : kd.tmod 8 = 5) :
    Calls Try.prog 68 #[.pointer none, .agg #[.string ⟨#[]⟩, .int .i64 0], .agg #[.int .u8 kd, .string t, .int .i64 n]] w (DoNil w) := by
  unfold maxLen at ht
  obtain ⟨u, hU⟩ : ∃ u, t.extract 0 (min (t.size : Int) 20).toNat = u := ⟨_, rfl⟩
  have hus : u.size ≤ 20 := by rw [← hU, Lib.size_eq, Lib.extract_data, List.length_take]; omega
  have hL : Loc (((w.alloc (.cells #[.string ⟨#[]⟩, .int .i64 0] 57)).alloc (.cells #[.int .u8 kd, .string u, .int .i64 n] 61)).alloc (.cells #[.string ⟨#[]⟩, .int .i64 0] 57)) w.heap.size ⟨#[]⟩ 0 kd u n := loc_new w ⟨#[]⟩ 0 kd u n
  have hB : Below w.heap.size w (((w.alloc (.cells #[.string ⟨#[]⟩, .int .i64 0] 57)).alloc (.cells #[.int .u8 kd, .string u, .int .i64 n] 61)).alloc (.cells #[.string ⟨#[]⟩, .int .i64 0] 57)) :=
    (((Below.refl _ _).alloc (Nat.le_refl _) _).alloc (by simp) _).alloc (by simp; omega) _
  have HL := Lib.hid hL
  have HF := Lib.hid hB
  clear hL hB
  by_cases hn : n = 0
  · subst hn
    go_enter Try.func68, Try.ntmps68
    go_wp2_with fail
    refine (nil_back _ _).mono ?_
    rintro e w1 ⟨rfl, hw1⟩
    rw [show decide ((0 : Int) = 0) = true from rfl]
    have L1 := HL.out
    have HF1 := Lib.hid HF.out
    rw [hw1] at L1
    rw [hw1] at HF1
    clear hw1
    obtain ⟨p0, p1, p2, p3, p4, q0, q1, q2, q3, r0, r1, hl1⟩ := loc_cells0 L1
    have HL1 := Lib.hid L1
    clear L1 HF HL
    go_wp2_with fail
    (try simp only [Exit.inBlock, Exit.then])
    refine bodyPost_ret (v := .tuple #[.agg #[.string ⟨#[]⟩, .int .i64 0], .int .i64 0]) (by rw [results_cell_tmp rfl]; go_simp) rfl ⟨rfl, don_fin3 HF1.out _ _ _⟩
  · have HD : Hid (decide (n = 0) = false) := Lib.hid (decide_eq_false hn)
    by_cases hn2 : 0 ≤ n
    · have hd2 : decide (0 ≤ n) = true := by simp; omega
      have hn3 : ¬ n ≤ 0 := by omega
      have hd3 : decide (n ≤ 0) = false := by simp; omega
      go_enter Try.func68, Try.ntmps68
      go_wp2_with fail
      refine (nil_back _ _).mono ?_
      rintro e w1 ⟨rfl, hw1⟩
      rw [HD.out]
      have L1 := HL.out
      have HF1 := Lib.hid HF.out
      rw [hw1] at L1
      rw [hw1] at HF1
      clear hw1
      obtain ⟨p0, p1, p2, p3, p4, q0, q1, q2, q3, r0, r1, hl1⟩ := loc_cells0 L1
      have HL1 := Lib.hid L1
      clear L1 HF HL
      go_wp2_with fail
      (try simp only [Exit.inBlock, Exit.then])
      refine bodyPost_ret (v := .tuple #[.agg #[.string ⟨#[]⟩, .int .i64 0], .int .i64 0]) (by rw [results_cell_tmp rfl]; go_simp) rfl ⟨rfl, don_fin2 HF1.out _ _⟩
    · have hd2 : decide (0 ≤ n) = false := by simp; omega
      go_enter Try.func68, Try.ntmps68
      go_wp2_with fail
      refine (nil_back _ _).mono ?_
      rintro e w1 ⟨rfl, hw1⟩
      rw [HD.out]
      have L1 := HL.out
      have HF1 := Lib.hid HF.out
      rw [hw1] at L1
      rw [hw1] at HF1
      clear hw1
      obtain ⟨p0, p1, p2, p3, p4, q0, q1, q2, q3, r0, r1, hl1⟩ := loc_cells0 L1
      have HL1 := Lib.hid L1
      clear L1 HF HL
      go_wp2_with fail
      (try simp only [Exit.inBlock, Exit.then])
      refine bodyPost_ret (v := .tuple #[.agg #[.string ⟨#[]⟩, .int .i64 0], .int .i64 0]) (by rw [results_cell_tmp rfl]; go_simp) rfl ⟨rfl, don_fin2 HF1.out _ _⟩

set_option maxRecDepth 100000 in
theorem don_6 (w : World) (kd n : Int) (t : ByteArray) (h0 : 0 ≤ kd) (h1 : kd ≤ 255) (hn0 : -9223372036854775808 ≤ n) (hn1 : n ≤ 9223372036854775807) (ht : t.size ≤ maxLen) (hk : kd.tmod 8 = 6) :
    Calls Try.prog 68 #[.pointer none, .agg #[.string ⟨#[]⟩, .int .i64 0], .agg #[.int .u8 kd, .string t, .int .i64 n]] w (DoNil w) := by
  unfold maxLen at ht
  obtain ⟨u, hU⟩ : ∃ u, t.extract 0 (min (t.size : Int) 20).toNat = u := ⟨_, rfl⟩
  have hus : u.size ≤ 20 := by rw [← hU, Lib.size_eq, Lib.extract_data, List.length_take]; omega
  have hL : Loc (((w.alloc (.cells #[.string ⟨#[]⟩, .int .i64 0] 57)).alloc (.cells #[.int .u8 kd, .string u, .int .i64 n] 61)).alloc (.cells #[.string ⟨#[]⟩, .int .i64 0] 57)) w.heap.size ⟨#[]⟩ 0 kd u n := loc_new w ⟨#[]⟩ 0 kd u n
  have hB : Below w.heap.size w (((w.alloc (.cells #[.string ⟨#[]⟩, .int .i64 0] 57)).alloc (.cells #[.int .u8 kd, .string u, .int .i64 n] 61)).alloc (.cells #[.string ⟨#[]⟩, .int .i64 0] 57)) :=
    (((Below.refl _ _).alloc (Nat.le_refl _) _).alloc (by simp) _).alloc (by simp; omega) _
  have HL := Lib.hid hL
  have HF := Lib.hid hB
  clear hL hB
  go_enter Try.func68, Try.ntmps68
  go_wp2_with fail
  refine (nil_peek _).mono ?_
  rintro e w1 ⟨rfl, hw1⟩
  have L1 := HL.out
  have HF1 := Lib.hid HF.out
  rw [hw1] at L1
  rw [hw1] at HF1
  clear hw1
  obtain ⟨p0, p1, p2, p3, p4, q0, q1, q2, q3, r0, r1, hl1⟩ := loc_cells0 L1
  have HL1 := Lib.hid L1
  clear L1 HF HL
  go_wp2_with fail
  (try simp only [Exit.inBlock, Exit.then])
  refine bodyPost_ret (v := .tuple #[.agg #[.string ⟨#[]⟩, .int .i64 0], .int .i64 0]) (by rw [results_cell_tmp rfl]; go_simp) rfl ⟨rfl, don_fin2 HF1.out _ _⟩

set_option maxRecDepth 100000 in
theorem don_7 (w : World) (kd n : Int) (t : ByteArray) (h0 : 0 ≤ kd) (h1 : kd ≤ 255) (hn0 : -9223372036854775808 ≤ n) (hn1 : n ≤ 9223372036854775807) (ht : t.size ≤ maxLen) (hk : kd.tmod 8 = 7) :
    Calls Try.prog 68 #[.pointer none, .agg #[.string ⟨#[]⟩, .int .i64 0], .agg #[.int .u8 kd, .string t, .int .i64 n]] w (DoNil w) := by
  unfold maxLen at ht
  obtain ⟨u, hU⟩ : ∃ u, t.extract 0 (min (t.size : Int) 20).toNat = u := ⟨_, rfl⟩
  have hus : u.size ≤ 20 := by rw [← hU, Lib.size_eq, Lib.extract_data, List.length_take]; omega
  have hL : Loc (((w.alloc (.cells #[.string ⟨#[]⟩, .int .i64 0] 57)).alloc (.cells #[.int .u8 kd, .string u, .int .i64 n] 61)).alloc (.cells #[.string ⟨#[]⟩, .int .i64 0] 57)) w.heap.size ⟨#[]⟩ 0 kd u n := loc_new w ⟨#[]⟩ 0 kd u n
  have hB : Below w.heap.size w (((w.alloc (.cells #[.string ⟨#[]⟩, .int .i64 0] 57)).alloc (.cells #[.int .u8 kd, .string u, .int .i64 n] 61)).alloc (.cells #[.string ⟨#[]⟩, .int .i64 0] 57)) :=
    (((Below.refl _ _).alloc (Nat.le_refl _) _).alloc (by simp) _).alloc (by simp; omega) _
  have HL := Lib.hid hL
  have HF := Lib.hid hB
  clear hL hB
  have EN := Lib.hid (nil_end_q (((w.alloc (.cells #[.string ⟨#[]⟩, .int .i64 0] 57)).alloc (.cells #[.int .u8 kd, .string u, .int .i64 n] 61)).alloc (.cells #[.string ⟨#[]⟩, .int .i64 0] 57)))
  go_enter Try.func68, Try.ntmps68
  go_wp2_with fail
  go_quiet ((go_at_call 69; exact EN.out _))
  go_wp2_with fail
  (try simp only [Exit.inBlock, Exit.then])
  refine bodyPost_ret (v := .tuple #[.agg #[.string ⟨#[]⟩, .int .i64 0], .int .i64 0]) (by rw [results_cell_tmp rfl]; go_simp) rfl ⟨rfl, don_fin2 (below_drewN HF.out nq) _ _⟩

theorem don_any (w : World) (kd n : Int) (t : ByteArray) (h0 : 0 ≤ kd) (h1 : kd ≤ 255) (hn0 : -9223372036854775808 ≤ n) (hn1 : n ≤ 9223372036854775807) (ht : t.size ≤ maxLen) :
    Calls Try.prog 68 #[.pointer none, .agg #[.string ⟨#[]⟩, .int .i64 0], .agg #[.int .u8 kd, .string t, .int .i64 n]] w (DoNil w) := by
  have hm : kd.tmod 8 = 0 ∨ kd.tmod 8 = 1 ∨ kd.tmod 8 = 2 ∨ kd.tmod 8 = 3 ∨ kd.tmod 8 = 4 ∨ kd.tmod 8 = 5 ∨ kd.tmod 8 = 6 ∨ kd.tmod 8 = 7 := by
    rw [Int.tmod_eq_emod_of_nonneg h0]; omega
  rcases hm with hk | hk | hk | hk | hk | hk | hk | hk
  · exact don_0 w kd n t h0 h1 hn0 hn1 ht hk
  · exact don_1 w kd n t h0 h1 hn0 hn1 ht hk
  · exact don_2 w kd n t h0 h1 hn0 hn1 ht hk
  · exact don_3 w kd n t h0 h1 hn0 hn1 ht hk
  · exact don_4 w kd n t h0 h1 hn0 hn1 ht hk
  · exact don_5 w kd n t h0 h1 hn0 hn1 ht hk
  · exact don_6 w kd n t h0 h1 hn0 hn1 ht hk
  · exact don_7 w kd n t h0 h1 hn0 hn1 ht hk

end Go.Proofs.Ythhpijmkhhdhhaa
