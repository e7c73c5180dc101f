/- strconv.FormatInt at base 16 and at base 10; numeral.Text, HexText. -/
import Derived.Test.YthhpijmkhhdhhaaDoorFmt
import Derived.Test.YthhpijmkhhdhhaaDoorRef3r
import Derived.Sort.Grow
namespace Go.Proofs.YthhpijmkhhdhhaaDoor
open Go.RowKit
set_option linter.unusedVariables false
set_option linter.unusedSimpArgs false

theorem and15 (U : Nat) (h : U ≤ 9223372036854775807) : bits BinOp.and IntKind.u64 (U : Int) 15 = ((U % 16 : Nat) : Int) := by
  have h1 := bits_and_u64_nat U 15 (by omega) (by omega)
  rw [show (15 : Nat) = 2 ^ 4 - 1 from rfl, Nat.and_two_pow_sub_one_eq_mod] at h1
  exact h1

/-- The array of formatBits: from k on it holds the bytes W. -/
def ArrAt (w : World) (B k : Nat) (W : List UInt8) : Prop :=
  ∃ cs, w.heap[B]? = some (.cells cs 133 (0, 0)) ∧ cs.size = 65 ∧ k + W.length = 65 ∧ ∀ j (h : j < W.length), cs[k + j]? = some (.int .u8 (W[j].toNat : Int))

theorem arrAt_set {w : World} {B k : Nat} {W : List UInt8} (h : ArrAt w B (k + 1) W) (c : UInt8) (v : Int) (hv : v = (c.toNat : Int)) : ArrAt (w.setCell ⟨B, k, none⟩ (.int .u8 v)) B k (c :: W) := by
  obtain ⟨cs, h1, h2, h3, h4⟩ := h
  subst hv
  refine ⟨cs.setIfInBounds k (.int .u8 (c.toNat : Int)), heap_setCell_at h1 k _, by simpa using h2, by simp; omega, fun j hj => ?_⟩
  cases j with
  | zero => rw [Nat.add_zero, Array.getElem?_setIfInBounds]; simp; omega
  | succ j =>
    rw [Array.getElem?_setIfInBounds, if_neg (by omega)]
    have := h4 j (by simpa using hj)
    rw [show k + (j + 1) = k + 1 + j by omega, this]
    rfl
theorem arrAt_cell {w : World} {B k : Nat} {W : List UInt8} (h : ArrAt w B (k + 1) W) : ∃ v, w.cell? ⟨B, k, none⟩ = some v ∧ w.frozen? ⟨B, k, none⟩ = false := by
  obtain ⟨cs, h1, h2, h3, h4⟩ := h
  have hk : k < cs.size := by omega
  exact ⟨cs[k], by rw [cell_of_row w B k _ _ _ h1]; exact Array.getElem?_eq_getElem hk, frozen_of_row w B k _ _ h1⟩
theorem arrAt_str {w : World} {B k : Nat} {W : List UInt8} (h : ArrAt w B k W) (cap : Nat) : (convert 104 9 (.slice (some ⟨B, k, none⟩) W.length cap)).run Tryd.prog w = .ok (.string ⟨W.toArray⟩) w := by
  obtain ⟨cs, h1, h2, h3, h4⟩ := h
  refine string_of_bytes w B k cap W ?_
  intro j hj
  rw [cell_of_row w B (k + j) _ _ _ h1]
  exact h4 j hj

theorem dig36 : ∀ r : Fin 16, ((⟨#[48, 49, 50, 51, 52, 53, 54, 55, 56, 57, 97, 98, 99, 100, 101, 102, 103, 104, 105, 106, 107, 108, 109, 110, 111, 112, 113, 114, 115, 116, 117, 118, 119, 120, 121, 122]⟩ : ByteArray)[r.val]'(by have := r.isLt; show r.val < 36; omega)).toNat = (dgB r.val).toNat := by decide +kernel

set_option maxRecDepth 100000 in
set_option maxHeartbeats 2000000 in
theorem formatBits16 (N : Nat) (w : World) (hN : N ≤ 9223372036854775807) (h : w.cell? ⟨5, 15, none⟩ = some (.int .u8 4)) (hg : 5 < w.heap.size) :
    Calls Tryd.prog 123 #[.slice none 0 0, .int .u64 N, .int .i64 16, .bool false, .bool false] w fun e w' => e = .returned (.tuple #[.slice none 0 0, .string ⟨(digL 16 N).toArray⟩]) ∧ Below w.heap.size w w' := by
  go_enter Tryd.func123, Tryd.ntmps123
  go_wp2_with fail
  (refine (pow2_16 _).mono ?_; rintro e w' ⟨rfl, rfl⟩; go_wp2_with fail)
  obtain ⟨w1, hw1⟩ : ∃ w1, w.alloc (.cells Tryd.zeroCells133 133) = w1 := ⟨_, rfl⟩
  have hb1 : Below w.heap.size w w1 := by rw [← hw1]; exact (Below.refl _ _).alloc (Nat.le_refl _) _
  have hk1 : w1.heap[w.heap.size]? = some (.cells Tryd.zeroCells133 133 (0, 0)) := by rw [← hw1]; exact heap_alloc_new w _
  have hT : w1.cell? ⟨5, 15, none⟩ = some (.int .u8 4) := by rw [hb1.cell (by exact hg)]; exact h
  rw [hw1]
  have TZ := Lib.hid (tz_16 w1 hT)
  have HB := Lib.hid hb1; clear hb1 hw1 hT h hg
  obtain ⟨B, hBB⟩ : ∃ B, w.heap.size = B := ⟨_, rfl⟩
  have HI : Hid (ArrAt w1 B 65 []) := Lib.hid ⟨_, by rw [← hBB]; exact hk1, by kernel_rfl, rfl, by simp⟩
  rw [hBB]
  have HBB := Lib.hid hBB; clear hBB hk1
  have h16 : (9223372036854775807 : Nat) < 16 ^ 16 := by decide
  have HLEN : Hid ((digL 16 N).length ≤ 16) := Lib.hid (digL_len (by omega) 16 N (by omega) (Nat.lt_of_le_of_lt hN h16))
  clear h16
  go_wp2_with fail
  (refine (TZ.out).mono ?_; rintro e w' ⟨rfl, rfl⟩; go_wp2_with fail)
  go_loopw [1, 13] (fun u i wr => ∃ (U k : Nat) (W : List UInt8), u = .int .u64 U ∧ i = .int .i64 k ∧ U ≤ N ∧ 40 ≤ k ∧ k ≤ 65 ∧ Hid (ArrAt wr B k W) ∧ Hid (digL 16 N = digL 16 U ++ W) ∧ Hid (Below w.heap.size w wr)) (fun u _ _ => (intOf u).toNat)
  case atStart => exact ⟨N, 65, [], rfl, rfl, Nat.le_refl _, by omega, Nat.le_refl _, HI.out, Lib.hid (by simp), HB.out⟩
  case round =>
    obtain ⟨U, k, W, rfl, rfl, hU, hk0, hk1, harr, hdig, hbl⟩ := hrel
    obtain ⟨k, rfl⟩ : ∃ k', k = k' + 1 := ⟨k - 1, by omega⟩
    obtain ⟨v, hc, hf⟩ := arrAt_cell harr.out
    by_cases hge : 16 ≤ U
    · have a1 := and15 U (by omega)
      obtain ⟨r, hr⟩ : ∃ r, U % 16 = r := ⟨_, rfl⟩
      have hr16 : r < 16 := by omega
      rw [hr] at a1
      have hlen2 : 1 ≤ (digL 16 (U / 16)).length := digL_pos _ _
      have hdig2 : digL 16 N = digL 16 (U / 16) ++ (dgB r :: W) := by rw [hdig.out, digL_step (by omega) hge, hr, List.append_assoc]; rfl
      have hWl : k + 1 + W.length = 65 := by obtain ⟨_, _, _, h, _⟩ := harr.out; exact h
      have hk40 : 40 ≤ k := by
        have h1 := HLEN.out
        rw [hdig2, List.length_append, List.length_cons] at h1
        omega
      have HD2 := Lib.hid hdig2; clear hdig2 hlen2
      have hdg := dig36 ⟨r, hr16⟩
      have HDG := Lib.hid hdg; clear hdg
      have harr2 := arrAt_set harr.out (dgB r) _ rfl
      have hbl2 : Below w.heap.size w (wr.setCell ⟨B, k, none⟩ (.int .u8 ((dgB r).toNat : Int))) := hbl.out.setCell (by show w.heap.size ≤ B; rw [HBB.out]; exact Nat.le_refl _) _
      have HA2 := Lib.hid harr2; clear harr2
      have HB2 := Lib.hid hbl2; clear hbl2
      have hU16 : ((U / 16 : Nat) : Int) = (U : Int) / 16 := by omega
      have HU := Lib.hid hU16; clear hU16
      go_wp2_with fail
      go_roundw
      case rel => exact ⟨U / 16, k, dgB r :: W, by rw [HU.out], rfl, by omega, hk40, by omega, Lib.hid (by have h := HA2.out; rw [show (dgB r).toNat = _ from HDG.out.symm] at h; exact h), HD2.out, Lib.hid (by have h := HB2.out; rw [show (dgB r).toNat = _ from HDG.out.symm] at h; exact h)⟩
      case measure => simp [intOf]; omega
    · have hU16 : U < 16 := by omega
      have hWl : k + 1 + W.length = 65 := by obtain ⟨_, _, _, h, _⟩ := harr.out; exact h
      have hdg := dig36 ⟨U, hU16⟩
      simp only [Fin.val_mk] at hdg
      obtain ⟨d, hd⟩ : ∃ d, (dgB U).toNat = d := ⟨_, rfl⟩
      rw [hd] at hdg
      obtain ⟨w3, hw3⟩ : ∃ w3, wr.setCell ⟨B, k, none⟩ (.int .u8 (d : Int)) = w3 := ⟨_, rfl⟩
      have harr3 := arrAt_set harr.out (dgB U) (d : Int) (by rw [hd])
      rw [hw3] at harr3
      have hbl3 : Below w.heap.size w w3 := by rw [← hw3]; exact hbl.out.setCell (by show w.heap.size ≤ B; rw [HBB.out]; exact Nat.le_refl _) _
      have HB3 := Lib.hid hbl3; clear hbl3
      have hcv := arrAt_str harr3 (65 - k)
      have hlen3 : (dgB U :: W).length = 65 - k := by rw [List.length_cons]; omega
      rw [hlen3] at hcv
      have HR : Hid (digL 16 N = dgB U :: W) := Lib.hid (by rw [hdig.out, digL_small hU16]; rfl)
      have g1 : ¬ (16 : Int) ≤ U := by omega
      have g2 : (k : Int) ≤ 65 := by omega
      clear harr3 hd hlen3
      go_wp2_with fail
      go_ret2
      rw [HR.out]
      exact ⟨rfl, HB3.out⟩

theorem grow_below (w : World) (k : Nat) (os : Array Obj) : Below w.heap.size w (Go.Sort.grow (w.drewN k) os) :=
  ⟨rfl, rfl, rfl, by simp [Go.Sort.grow, World.drewN], fun j hj => by
    show (w.heap ++ os)[j]? = w.heap[j]?
    exact Array.getElem?_append_left hj⟩

theorem decDigits_digL (n : Nat) : Lib.decDigits n = digL 10 n := by
  induction n using Nat.strongRecOn with
  | ind n ih =>
    have h10 : ∀ k : Fin 10, UInt8.ofNat (48 + k.val) = dgB k.val := by decide +kernel
    rw [Lib.decDigits]
    by_cases h : n < 10
    · rw [dif_pos h, digL_small h, h10 ⟨n, h⟩]
    · rw [dif_neg h, digL_step (by omega) (by omega), ih (n / 10) (by omega), h10 ⟨n % 10, by omega⟩]

/-- What the numbers' texts read of the library's tables. -/
def PowAt (w : World) : Prop := Lib.TabIs Tryd.prog w "internal/strconv.uint64pow10" .u64 Lib.pow10Tab ∧ 1 < w.heap.size
theorem powGlob : Tryd.prog.globalNamed "internal/strconv.uint64pow10" = some 1 := by kernel_rfl
theorem powAt_below {w w1 : World} (h : PowAt w) (hb : Below w.heap.size w w1) : PowAt w1 := by
  refine ⟨?_, Nat.lt_of_lt_of_le h.2 hb.size⟩
  have h1 := h.1
  unfold Lib.TabIs at h1 ⊢
  rw [← h1]
  unfold World.var?
  rw [powGlob]
  simp only [Option.bind_some]
  rw [hb.block _ h.2]

theorem text10_any (n : Int) (w : World) (h0 : -9223372036854775808 ≤ n) (h1 : n ≤ 9223372036854775807) (hP : PowAt w) :
    Calls Tryd.prog 66 #[.int .i64 n, .int .i64 10] w fun e w' => e = .returned (.string ⟨(textB 10 n).toArray⟩) ∧ Below w.heap.size w w' := by
  by_cases h : n < 0
  · have HV : Hid (textB 10 n = []) := Lib.hid (by unfold textB; rw [if_pos h])
    go_enter Tryd.func66, Tryd.ntmps66
    go_wp2_with fail
    go_ret
    rw [HV.out]
    exact ⟨rfl, Below.refl _ _⟩
  · have HV : Hid (textB 10 n = Lib.itoa n) := Lib.hid (by unfold textB Lib.itoa; rw [if_neg h, if_neg h, decDigits_digL])
    have F := Lib.hid (Tryd.strconv_FormatInt_10 n h0 h1 w hP.1)
    clear hP
    go_enter Tryd.func66, Tryd.ntmps66
    go_wp2_with fail
    refine F.out.mono ?_
    rintro e w1 ⟨rfl, k, os, hw⟩
    have hb : Below w.heap.size w w1 := by rw [hw]; exact grow_below w k os
    have HB := Lib.hid hb; clear hb hw F
    go_wp2_with fail
    go_ret
    rw [HV.out]
    exact ⟨rfl, HB.out⟩

theorem numText_any (n : Int) (w : World) (h0 : -9223372036854775808 ≤ n) (h1 : n ≤ 9223372036854775807) (hP : PowAt w) :
    Calls Tryd.prog 20 #[.int .i64 n] w fun e w' => e = .returned (.string ⟨(textB 10 n).toArray⟩) ∧ Below w.heap.size w w' := by
  have F := Lib.hid (text10_any n w h0 h1 hP)
  clear hP
  go_enter Tryd.func20, Tryd.ntmps20
  go_wp2_with fail
  (refine (F.out).mono ?_; rintro e w1 ⟨rfl, h1⟩; have H1 := Lib.hid h1; clear h1; go_wp2_with fail)
  go_ret
  exact ⟨rfl, H1.out⟩

theorem hexText_any (n : Int) (w : World) (h1 : n ≤ 9223372036854775807) (h : TabAt w) : Calls Tryd.prog 21 #[.int .i64 n] w fun e w' => e = .returned (.string ⟨(textB 16 n).toArray⟩) ∧ Below w.heap.size w w' := by
  by_cases hn : n < 0
  · have HV : Hid (textB 16 n = []) := Lib.hid (by unfold textB; rw [if_pos hn])
    have F3 : Hid (Calls Tryd.prog 66 #[.int .i64 n, .int .i64 16] w fun e w' => e = .returned (.string ⟨#[]⟩) ∧ Below w.heap.size w w') := Lib.hid (by
      go_enter Tryd.func66, Tryd.ntmps66
      go_wp2_with fail
      go_ret
      exact ⟨rfl, Below.refl _ _⟩)
    go_enter Tryd.func21, Tryd.ntmps21
    go_wp2_with fail
    (refine (F3.out).mono ?_; rintro e w1 ⟨rfl, h1⟩; have H1 := Lib.hid h1; clear h1; go_wp2_with fail)
    go_ret
    rw [HV.out]
    exact ⟨rfl, H1.out⟩
  · obtain ⟨m, rfl⟩ : ∃ m : Nat, n = m := ⟨n.toNat, by omega⟩
    have HV : Hid (textB 16 m = digL 16 m) := Lib.hid (by unfold textB; rw [if_neg hn]; rfl)
    have F := Lib.hid (formatBits16 m w (by omega) h.1 h.2)
    clear h
    have g1 : IntKind.u64.wrap (m : Int) = m := IntWalk.u64_in _ (by omega)
    have F1 : Hid (Calls Tryd.prog 110 #[.int .i64 m, .int .i64 16] w fun e w' => e = .returned (.string ⟨(digL 16 m).toArray⟩) ∧ Below w.heap.size w w') := Lib.hid (by
      go_enter Tryd.func110, Tryd.ntmps110
      go_wp2_with fail
      (refine (F.out).mono ?_; rintro e w1 ⟨rfl, h1⟩; have H1 := Lib.hid h1; clear h1; go_wp2_with fail)
      go_ret
      exact ⟨rfl, H1.out⟩)
    have F2 : Hid (Calls Tryd.prog 94 #[.int .i64 m, .int .i64 16] w fun e w' => e = .returned (.string ⟨(digL 16 m).toArray⟩) ∧ Below w.heap.size w w') := Lib.hid (by
      go_enter Tryd.func94, Tryd.ntmps94
      go_wp2_with fail
      (refine (F1.out).mono ?_; rintro e w1 ⟨rfl, h1⟩; have H1 := Lib.hid h1; clear h1; go_wp2_with fail)
      go_ret
      exact ⟨rfl, H1.out⟩)
    have F3 : Hid (Calls Tryd.prog 66 #[.int .i64 m, .int .i64 16] w fun e w' => e = .returned (.string ⟨(digL 16 m).toArray⟩) ∧ Below w.heap.size w w') := Lib.hid (by
      go_enter Tryd.func66, Tryd.ntmps66
      go_wp2_with fail
      (refine (F2.out).mono ?_; rintro e w1 ⟨rfl, h1⟩; have H1 := Lib.hid h1; clear h1; go_wp2_with fail)
      go_ret
      exact ⟨rfl, H1.out⟩)
    go_enter Tryd.func21, Tryd.ntmps21
    go_wp2_with fail
    (refine (F3.out).mono ?_; rintro e w1 ⟨rfl, h1⟩; have H1 := Lib.hid h1; clear h1; go_wp2_with fail)
    go_ret
    rw [HV.out]
    exact ⟨rfl, H1.out⟩

end Go.Proofs.YthhpijmkhhdhhaaDoor
