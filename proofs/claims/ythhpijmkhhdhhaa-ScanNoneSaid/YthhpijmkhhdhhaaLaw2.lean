/- The law ScanWhile's walk; awake. -/
import Derived.Test.YthhpijmkhhdhhaaScan3
import Derived.IntWalk
namespace Go.Proofs.Ythhpijmkhhdhhaa
open Go.RowKit
set_option linter.unusedVariables false
set_option linter.unusedSimpArgs false

theorem awake2_any (w : World) :
    Calls Try.prog 62 #[] w fun e w' => e = .returned (.bool true) ∧ Below w.heap.size w w' := by
  have hn := scanAt_new ⟨#[97, 49, 32, 61, 98]⟩ w (by decide)
  have hal : Below w.heap.size w (w.alloc (.cells #[.string ⟨#[97, 49, 32, 61, 98]⟩, .int .i64 0] 109)) := (Below.refl _ _).alloc (Nat.le_refl _) _
  have T := Lib.hid (scan_token _ _ _ _ hn)
  have HAL := Lib.hid hal; clear hal hn
  have e1 : takeN bTok (ahead ⟨#[97, 49, 32, 61, 98]⟩ 0) = 2 := by decide +kernel
  have e2 : takeN bBlank (ahead ⟨#[97, 49, 32, 61, 98]⟩ 2) = 1 := by decide +kernel
  have e3 : nextIs ⟨#[97, 49, 32, 61, 98]⟩ 3 61 = true := by decide +kernel
  have E1 := Lib.hid e1; clear e1
  have E2 := Lib.hid e2; clear e2
  have E3 := Lib.hid e3; clear e3
  go_enter Try.func62, Try.ntmps62
  go_wp2_with fail
  (refine (scan_new _ _).mono ?_; rintro e w' ⟨rfl, rfl⟩; go_wp2_with fail)
  refine T.out.mono ?_
  rintro e w1 ⟨h1, h2, h3⟩
  rw [E1.out] at h1 h2
  have h1' : e = .returned (.tuple #[.string ⟨#[97, 49]⟩, .bool true]) := h1
  subst h1'
  have BL := Lib.hid (scan_blanks _ _ _ _ h2)
  have F1 := Lib.hid h3
  clear h1 h2 h3
  go_wp2_with fail
  refine BL.out.mono ?_
  rintro e w2 ⟨h1, h2, h3⟩
  rw [E2.out] at h1 h2
  have h1' : e = .returned (.string ⟨#[32]⟩) := h1
  subst h1'
  have BY := Lib.hid (scan_byte _ _ _ _ 61 h2)
  have F2 := Lib.hid h3
  clear h1 h2 h3
  go_wp2_with fail
  refine BY.out.mono ?_
  rintro e w3 ⟨rfl, h2, h3⟩
  rw [if_pos E3.out] at h2
  rw [E3.out]
  have RE := Lib.hid (scan_rest _ _ _ _ h2)
  have H2 := Lib.hid h2
  have F3 := Lib.hid h3
  clear h2 h3
  go_wp2_with fail
  refine RE.out.mono ?_
  rintro e w4 ⟨h1, n, rfl⟩
  have h1' : e = .returned (.string ⟨#[98]⟩) := h1
  subst h1'
  have AT := Lib.hid (scan_at (w3.drewN n) _ _ _ H2.out)
  clear h1
  go_wp2_with fail
  refine AT.out.mono ?_
  rintro e w5 ⟨rfl, rfl⟩
  go_wp2_with fail
  go_ret
  exact ⟨rfl, HAL.out.trans ((((F1.out.trans F2.out).trans F3.out).drewN n).below (Nat.le_refl _) (by simp))⟩

/-- ScanWhile's count in block b, and its byte in block m. -/
def CntAt (b m : Nat) (n : Nat) (most : Int) (w : World) : Prop :=
  w.heap[b]? = some (.cells #[.int .i64 (n : Int)] 3 (0, 0)) ∧ w.heap[m]? = some (.cells #[.int .u8 most] 5 (0, 0))

theorem cntAt_cells {b m n : Nat} {most : Int} {w : World} (h : CntAt b m n most w) :
    w.cell? ⟨b, 0, none⟩ = some (.int .i64 (n : Int)) ∧ w.frozen? ⟨b, 0, none⟩ = false ∧ w.cell? ⟨m, 0, none⟩ = some (.int .u8 most) ∧ b < w.heap.size ∧ m < w.heap.size := by
  obtain ⟨h1, h2⟩ := h
  exact ⟨by rw [cell_of_row w b 0 _ _ _ h1]; rfl, frozen_of_row w b 0 _ _ h1, by rw [cell_of_row w m 0 _ _ _ h2]; rfl, lt_of_block h1, lt_of_block h2⟩

theorem cnt_call (b m n : Nat) (most x : Int) (w : World) (hbm : b ≠ m) (h : CntAt b m n most w) (hn : n ≤ 1000000) (h0 : 0 ≤ most) (h1 : most ≤ 255) :
    Calls Try.prog 65 #[.int .u8 x, .pointer (some ⟨b, 0, none⟩), .pointer (some ⟨m, 0, none⟩)] w fun e w' => e = .returned (.bool (decide ((n : Int) + 1 ≤ most))) ∧ w' = w.setCell ⟨b, 0, none⟩ (.int .i64 ((n : Int) + 1)) := by
  obtain ⟨c0, c1, c2, _, _⟩ := cntAt_cells h
  have hmb : ¬ m = b := fun e => hbm e.symm
  clear h
  go_enter Try.func65, Try.ntmps65
  go_wp2_with fail
  go_ret
  exact ⟨rfl, rfl⟩

theorem cntAt_set {b m n : Nat} {most : Int} {w : World} (hbm : b ≠ m) (h : CntAt b m n most w) : CntAt b m (n + 1) most (w.setCell ⟨b, 0, none⟩ (.int .i64 ((n : Int) + 1))) := by
  refine ⟨heap_setCell_at h.1 0 _, ?_⟩
  rw [Below.heap_setCell _ _ _ _ (fun e => hbm e.symm)]
  exact h.2

def CntPost (W : World) (c b m : Nat) (t : ByteArray) (most : Int) (k n : Nat) (e : Ending) (w' : World) : Prop :=
  e = .returned (.string (t.extract 0 k)) ∧ ScanAt w' c t k ∧ CntAt b m n most w' ∧ Below W.heap.size W w'

theorem seen_run2 (most : Int) (h0 : 0 ≤ most) (l : List UInt8) : ∀ seen : List UInt8, (seen.length : Int) ≤ most →
    allRun (fun l => decide ((l.length : Int) ≤ most)) seen l = (decide (((seen ++ l).length : Int) ≤ most), (seen ++ l).take (most.toNat + 1)) := by
  induction l with
  | nil => intro seen h; simp [allRun, h]; rw [List.take_of_length_le (by omega)]
  | cons c r ih =>
    intro seen h
    simp only [allRun]
    by_cases hc : (((seen ++ [c]).length : Nat) : Int) ≤ most
    · rw [if_pos (by simpa using hc), ih _ hc]
      simp
    · rw [if_neg (by simpa using hc)]
      simp only [List.length_append, List.length_cons, List.length_nil] at hc
      refine Prod.ext ?_ ?_
      · simp; omega
      · show seen ++ [c] = _
        have e : most.toNat + 1 = (seen ++ [c]).length := by simp; omega
        rw [e, show seen ++ c :: r = (seen ++ [c]) ++ r from by simp, List.take_left]

theorem cnt_while (W w : World) (c b m : Nat) (t : ByteArray) (most : Int) (h0 : 0 ≤ most) (h1 : most ≤ 255) (hs : ScanAt w c t 0) (hc : CntAt b m 0 most w) (hB : Below W.heap.size W w)
    (hbm : b ≠ m) (hcb : c ≠ b) (hcm : c ≠ m) (hbW : W.heap.size ≤ b) (hcW : W.heap.size ≤ c) (k n : Nat) (hk : k = min t.size most.toNat) (hn : n = min t.size (most.toNat + 1)) :
    Calls Try.prog 64 #[.pointer (some ⟨c, 0, none⟩), .func (.func 65) #[] #[.pointer (some ⟨b, 0, none⟩), .pointer (some ⟨m, 0, none⟩)]] w (CntPost W c b m t most k n) := by
  have hen := enter_of_name Try.func65 (by kernel_rfl) (by kernel_rfl)
  have ht := hs.2.2
  have hah : ahead t 0 = t.data.toList := by unfold ahead; rw [List.drop_zero]
  refine (while_gen 65 #[] #[.pointer (some ⟨b, 0, none⟩), .pointer (some ⟨m, 0, none⟩)] c t 0 (fun l => decide ((l.length : Int) ≤ most))
    (fun seen w' => CntAt b m seen.length most w' ∧ Below W.heap.size W w') w hen hs ?_ ?_ ⟨hc, hB⟩).mono ?_
  · rintro seen w1 w2 ⟨hc1, hb1⟩ hf
    obtain ⟨_, _, _, l1, l2⟩ := cntAt_cells hc1
    refine ⟨⟨by rw [hf.block b l1 (fun e => hcb e.symm)]; exact hc1.1, by rw [hf.block m l2 (fun e => hcm e.symm)]; exact hc1.2⟩, hb1.trans (hf.below hcW hb1.size)⟩
  · rintro seen x w1 ⟨r, hr⟩ ⟨hc1, hb1⟩
    have hl : seen.length ≤ 1000000 := by
      have := congrArg List.length hr
      rw [ahead_len, List.length_append] at this
      omega
    have h2 := cnt_call b m seen.length most (x.toNat : Int) w1 hbm hc1 hl h0 h1
    refine Calls.mono (by simpa using h2) ?_
    rintro e w2 ⟨rfl, rfl⟩
    refine ⟨ret_bool (by simp), ⟨by simpa using cntAt_set hbm hc1, hb1.setCell hbW _⟩, ?_⟩
    exact Below.heap_setCell _ _ _ _ hcb
  · rintro e w' ⟨he, hs', hc', hb'⟩
    have hr := seen_run2 most h0 (ahead t 0) [] (by simpa using h0)
    rw [List.nil_append] at hr
    have hkk : whileN (fun l => decide ((l.length : Int) ≤ most)) (ahead t 0) = k := by
      unfold whileN
      rw [hr]
      have hlen : (ahead t 0).length = t.size := by rw [ahead_len]; omega
      simp only [List.length_take, decide_eq_true_eq, hlen]
      split <;> omega
    rw [hkk, Nat.zero_add] at he hs'
    rw [hr] at hc'
    have hnn : ((ahead t 0).take (most.toNat + 1)).length = n := by rw [List.length_take, ahead_len]; omega
    simp only [hnn] at hc'
    exact ⟨he, hs', hc', hb'⟩

theorem cnt_new (W w1 : World) (t : ByteArray) (most : Int) (h0 : 0 ≤ most) (h1 : most ≤ 255) (ht : t.size ≤ 1000000) (hm : w1.heap[W.heap.size]? = some (.cells #[.int .u8 most] 5 (0, 0))) (hB : Below W.heap.size W w1) :
    Calls Try.prog 64 #[.pointer (some ⟨w1.heap.size, 0, none⟩), .func (.func 65) #[] #[.pointer (some ⟨w1.heap.size + 1, 0, none⟩), .pointer (some ⟨W.heap.size, 0, none⟩)]]
      ((w1.alloc (.cells #[.string t, .int .i64 0] 109)).alloc (.cells #[.int .i64 0] 3)) (CntPost W w1.heap.size (w1.heap.size + 1) W.heap.size t most (min t.size most.toNat) (min t.size (most.toNat + 1))) := by
  have hl : W.heap.size < w1.heap.size := lt_of_block hm
  have e1 : (w1.alloc (.cells #[.string t, .int .i64 0] 109)).heap.size = w1.heap.size + 1 := by simp
  have s1 := scanAt_new t w1 ht
  have hm1 := (Below.heap_alloc w1 (.cells #[.string t, .int .i64 0] 109) _ hl).trans hm
  have hb1 : Below W.heap.size W (w1.alloc (.cells #[.string t, .int .i64 0] 109)) := hB.alloc (by omega) _
  generalize w1.alloc (.cells #[.string t, .int .i64 0] 109) = w2 at e1 s1 hm1 hb1
  have hm2 := (Below.heap_alloc w2 (.cells #[.int .i64 0] 3) _ (by omega)).trans hm1
  have hn2 : (w2.alloc (.cells #[.int .i64 0] 3)).heap[w2.heap.size]? = some (.cells #[.int .i64 0] 3 (0, 0)) := heap_alloc_new w2 _
  have s2 : ScanAt (w2.alloc (.cells #[.int .i64 0] 3)) w1.heap.size t 0 := ⟨(Below.heap_alloc w2 _ _ (by omega)).trans s1.1, s1.2⟩
  rw [e1] at hn2
  exact cnt_while W _ w1.heap.size (w1.heap.size + 1) W.heap.size t most h0 h1 s2 ⟨hn2, hm2⟩ (hb1.alloc (by omega) _) (by omega) (by omega) (by omega) (by omega) (by omega) _ _ rfl rfl

/-- The same contracts in a quiet region's form. -/
theorem scan_at_q (w : World) (c : Nat) (s : ByteArray) (i n : Nat) (h : ScanAt w c s i) :
    Calls Try.prog 66 #[.pointer (some ⟨c, 0, none⟩)] (w.drewN n) fun e w' => e = .returned (.int .i64 (i : Int)) ∧ ∃ m, w' = w.drewN m :=
  (scan_at (w.drewN n) c s i h).mono fun _ _ ⟨he, hm⟩ => ⟨he, n, hm.symm⟩
theorem scan_rest_q (w : World) (c : Nat) (s : ByteArray) (i n : Nat) (h : ScanAt w c s i) :
    Calls Try.prog 67 #[.pointer (some ⟨c, 0, none⟩)] (w.drewN n) fun e w' => e = .returned (.string (s.extract i s.size)) ∧ ∃ m, w' = w.drewN m :=
  (scan_rest (w.drewN n) c s i h).mono fun _ _ ⟨he, m, hm⟩ => ⟨he, n + m, by rw [hm, drewN_drewN]⟩

theorem scanWhile_walk (s : ByteArray) (most : Int) (W : World) (hs : s.size ≤ maxLen) (h0 : 0 ≤ most) (h1 : most ≤ 255) :
    Calls Try.prog 8 #[.string s, .int .u8 most] W fun e w' => e = .returned (.bool true) ∧ Below W.heap.size W w' := by
  unfold maxLen at hs
  have hal : Below W.heap.size W (W.alloc (.cells #[.int .u8 most] 5)) := (Below.refl _ _).alloc (Nat.le_refl _) _
  have c0 : (W.alloc (.cells #[.int .u8 most] 5)).heap[W.heap.size]? = some (.cells #[.int .u8 most] 5 (0, 0)) := heap_alloc_new W _
  have A := Lib.hid (awake2_any (W.alloc (.cells #[.int .u8 most] 5)))
  have HA := Lib.hid hal; clear hal
  have C0 := Lib.hid c0; clear c0
  go_enter Try.func8, Try.ntmps8
  go_wp2_with fail
  refine A.out.mono ?_
  rintro e w1 ⟨rfl, hb⟩
  have c1 : w1.heap[W.heap.size]? = some (.cells #[.int .u8 most] 5 (0, 0)) := by rw [hb.block _ (by simp)]; exact C0.out
  have hb1 : Below W.heap.size W w1 := HA.out.trans (hb.mono (by simp))
  have hW1 : W.heap.size < w1.heap.size := lt_of_block c1
  have HW1 := Lib.hid hW1; clear hW1
  have HB := Lib.hid hb1; clear hb hb1 A HA C0
  have C1 := Lib.hid c1; clear c1
  go_wp2_with fail
  rw [extract_cutS 300 s _ (by omega)]
  have ht : (cutS 300 s).size ≤ 300 := by rw [cutS_size]; omega
  generalize cutS 300 s = t at ht
  have ht2 : (t.size : Int) ≤ 300 := by omega
  have WH := Lib.hid (cnt_new W w1 t most h0 h1 (by omega) C1.out HB.out)
  go_wp2_with fail
  (refine (scan_new t w1).mono ?_; rintro e w' ⟨rfl, rfl⟩; go_wp2_with fail)
  refine WH.out.mono ?_
  rintro e w4 ⟨rfl, hs4, hc4, hb4⟩
  have hk : min (t.size : Int) most = ((min t.size most.toNat : Nat) : Int) := by omega
  have hn : min (t.size : Int) (most + 1) = ((min t.size (most.toNat + 1) : Nat) : Int) := by omega
  have hkt : ((min t.size most.toNat : Nat) : Int) ≤ t.size := by omega
  have hsum : IntKind.i64.wrap (most + 1) = most + 1 := IntWalk.i64_in _ (by omega)
  have hm0 : IntKind.i64.wrap most = most := IntWalk.i64_in _ (by omega)
  generalize min t.size most.toNat = k at *
  generalize min t.size (most.toNat + 1) = n at *
  have hq1 : ((t.extract 0 k).toList == (t.extract 0 k).toList) = true := by simp
  have hq2 : ((t.extract k t.size).toList == (t.extract k t.size).toList) = true := by simp
  have AT := Lib.hid (fun n => scan_at_q w4 _ _ _ n hs4)
  have RE := Lib.hid (fun n => scan_rest_q w4 _ _ _ n hs4)
  obtain ⟨d0, d1, d2, _⟩ := cntAt_cells hc4
  have HB4 := Lib.hid hb4; clear hb4 hs4 hc4 WH HB C1
  go_wp2_with fail
  go_quiet (first | (go_at_call 66; exact AT.out _) | (go_at_call 67; exact RE.out _))
  go_wp2_with fail
  go_ret
  exact ⟨rfl, below_drewN HB4.out _⟩

end Go.Proofs.Ythhpijmkhhdhhaa
