/- Contracts of package events and of the reference's: Check, Text. -/
import Derived.Test.YthhpijmkhhdhhaaDoorEvPure
import Derived.Test.YthhpijmkhhdhhaaDoorFmt16
import Derived.Test.YthhpijmkhhdhhaaDoorPathq
import Derived.Test.YthhpijmkhhdhhaaDoorTool
namespace Go.Proofs.YthhpijmkhhdhhaaDoor
open Go.RowKit
set_option linter.unusedVariables false
set_option linter.unusedSimpArgs false

def evV (k n : Int) : Value := .agg #[.int .i64 k, .int .i64 n]
def evE (k n : Int) : Int := if evOk k n then 0 else 1

theorem evE_13 (k n : Int) (hk : k = 1 ∨ k = 3) : evE k n = if 0 ≤ n ∧ n ≤ 1048576 then 0 else 1 := by
  unfold evE evOk
  rcases hk with rfl | rfl <;> by_cases h : 0 ≤ n ∧ n ≤ 1048576 <;> simp [h] <;> omega
theorem evE_24 (k n : Int) (hk : k = 2 ∨ k = 4) : evE k n = if n = 0 then 0 else 1 := by
  unfold evE evOk
  rcases hk with rfl | rfl <;> by_cases h : n = 0 <;> simp [h]
theorem evE_no (k n : Int) (h1 : k ≠ 1) (h2 : k ≠ 2) (h3 : k ≠ 3) (h4 : k ≠ 4) : evE k n = 1 := by
  unfold evE evOk
  simp [h1, h2, h3, h4]

set_option maxRecDepth 100000 in
theorem evCheck_any (k n : Int) (w : World) :
    Calls Tryd.prog 41 #[evV k n] w fun e w' => e = .returned (.int .i64 (evE k n)) ∧ Below w.heap.size w w' := by
  have hal : Below w.heap.size w (w.alloc (.cells #[.int .i64 k, .int .i64 n] 47)) := (Below.refl _ _).alloc (Nat.le_refl _) _
  have HAL := Lib.hid hal; clear hal
  unfold evV
  by_cases h1 : k = 1
  · subst h1
    have HV := Lib.hid (evE_13 1 n (.inl rfl))
    by_cases ha : 0 ≤ n
    · by_cases hb : n ≤ 1048576
      · go_enter Tryd.func41, Tryd.ntmps41
        go_wp2_with fail
        go_ret
        exact ⟨ret_int (by rw [HV.out, if_pos ⟨ha, hb⟩]), HAL.out⟩
      · go_enter Tryd.func41, Tryd.ntmps41
        go_wp2_with fail
        go_ret
        exact ⟨ret_int (by rw [HV.out, if_neg (by omega)]), HAL.out⟩
    · go_enter Tryd.func41, Tryd.ntmps41
      go_wp2_with fail
      go_ret
      exact ⟨ret_int (by rw [HV.out, if_neg (by omega)]), HAL.out⟩
  · by_cases h3 : k = 3
    · subst h3
      have HV := Lib.hid (evE_13 3 n (.inr rfl))
      by_cases ha : 0 ≤ n
      · by_cases hb : n ≤ 1048576
        · go_enter Tryd.func41, Tryd.ntmps41
          go_wp2_with fail
          go_ret
          exact ⟨ret_int (by rw [HV.out, if_pos ⟨ha, hb⟩]), HAL.out⟩
        · go_enter Tryd.func41, Tryd.ntmps41
          go_wp2_with fail
          go_ret
          exact ⟨ret_int (by rw [HV.out, if_neg (by omega)]), HAL.out⟩
      · go_enter Tryd.func41, Tryd.ntmps41
        go_wp2_with fail
        go_ret
        exact ⟨ret_int (by rw [HV.out, if_neg (by omega)]), HAL.out⟩
    · have b1 : (k == 1) = false := by rw [beq_eq_false_iff_ne]; exact h1
      have b3 : (k == 3) = false := by rw [beq_eq_false_iff_ne]; exact h3
      by_cases h2 : k = 2
      · subst h2
        have HV := Lib.hid (evE_24 2 n (.inl rfl))
        clear b1 b3
        by_cases ha : n = 0
        · subst ha
          go_enter Tryd.func41, Tryd.ntmps41
          go_wp2_with fail
          go_ret
          exact ⟨ret_int (by rw [HV.out, if_pos trivial]), HAL.out⟩
        · have b0 : (n == 0) = false := by rw [beq_eq_false_iff_ne]; exact ha
          have HA := Lib.hid ha; clear ha
          go_enter Tryd.func41, Tryd.ntmps41
          go_wp2_with fail
          go_ret
          exact ⟨ret_int (by rw [HV.out, if_neg HA.out]), HAL.out⟩
      · by_cases h4 : k = 4
        · subst h4
          have HV := Lib.hid (evE_24 4 n (.inr rfl))
          clear b1 b3
          by_cases ha : n = 0
          · subst ha
            go_enter Tryd.func41, Tryd.ntmps41
            go_wp2_with fail
            go_ret
            exact ⟨ret_int (by rw [HV.out, if_pos trivial]), HAL.out⟩
          · have b0 : (n == 0) = false := by rw [beq_eq_false_iff_ne]; exact ha
            have HA := Lib.hid ha; clear ha
            go_enter Tryd.func41, Tryd.ntmps41
            go_wp2_with fail
            go_ret
            exact ⟨ret_int (by rw [HV.out, if_neg HA.out]), HAL.out⟩
        · have b2 : (k == 2) = false := by rw [beq_eq_false_iff_ne]; exact h2
          have b4 : (k == 4) = false := by rw [beq_eq_false_iff_ne]; exact h4
          have HV := Lib.hid (evE_no k n h1 h2 h3 h4)
          clear h1 h2 h3 h4
          go_enter Tryd.func41, Tryd.ntmps41
          go_wp2_with fail
          go_ret
          exact ⟨ret_int HV.out.symm, HAL.out⟩


theorem evE_hi (k n : Int) (h : n < 0 ∨ 1048576 < n) : evE k n = 1 := by
  unfold evE evOk
  have h1 : ¬ (0 ≤ n ∧ n ≤ 1048576) := by omega
  have h2 : ¬ n = 0 := by omega
  have h3 : (decide (0 ≤ n) && decide (n ≤ 1048576)) = false := by rw [← Bool.not_eq_true]; simp; omega
  simp [h2]; omega

set_option maxRecDepth 100000 in
theorem rEvCheck_any (k n : Int) (w : World) :
    Calls Tryd.prog 42 #[evV k n] w fun e w' => e = .returned (.int .i64 (evE k n)) ∧ Below w.heap.size w w' := by
  have hal : Below w.heap.size w (w.alloc (.cells #[.int .i64 k, .int .i64 n] 47)) := (Below.refl _ _).alloc (Nat.le_refl _) _
  have HAL := Lib.hid hal; clear hal
  unfold evV
  by_cases ha : k < 1
  · have HV := Lib.hid (evE_no k n (by omega) (by omega) (by omega) (by omega))
    go_enter Tryd.func42, Tryd.ntmps42
    go_wp2_with fail
    go_ret
    exact ⟨ret_int HV.out.symm, HAL.out⟩
  · by_cases hb : 4 < k
    · have HV := Lib.hid (evE_no k n (by omega) (by omega) (by omega) (by omega))
      go_enter Tryd.func42, Tryd.ntmps42
      go_wp2_with fail
      go_ret
      exact ⟨ret_int HV.out.symm, HAL.out⟩
    · by_cases hc : n < 0
      · have HV := Lib.hid (evE_hi k n (.inl hc))
        go_enter Tryd.func42, Tryd.ntmps42
        go_wp2_with fail
        go_ret
        exact ⟨ret_int HV.out.symm, HAL.out⟩
      · by_cases hd : 1048576 < n
        · have HV := Lib.hid (evE_hi k n (.inr hd))
          go_enter Tryd.func42, Tryd.ntmps42
          go_wp2_with fail
          go_ret
          exact ⟨ret_int HV.out.symm, HAL.out⟩
        · obtain rfl | rfl | rfl | rfl : k = 1 ∨ k = 2 ∨ k = 3 ∨ k = 4 := by omega
          · have HV : Hid (evE 1 n = 0) := Lib.hid (by rw [evE_13 1 n (.inl rfl), if_pos (by omega)])
            go_enter Tryd.func42, Tryd.ntmps42
            go_wp2_with fail
            go_ret
            exact ⟨ret_int HV.out.symm, HAL.out⟩
          · by_cases hz : n = 0
            · subst hz
              have HV : Hid (evE 2 0 = 0) := Lib.hid rfl
              go_enter Tryd.func42, Tryd.ntmps42
              go_wp2_with fail
              go_ret
              exact ⟨ret_int HV.out.symm, HAL.out⟩
            · have HV : Hid (evE 2 n = 1) := Lib.hid (by rw [evE_24 2 n (.inl rfl), if_neg hz])
              have b0 : (n == 0) = false := by rw [beq_eq_false_iff_ne]; exact hz
              have b1 : (n != 0) = true := by rw [bne, b0]; rfl
              clear hz
              go_enter Tryd.func42, Tryd.ntmps42
              go_wp2_with fail
              go_ret
              exact ⟨ret_int HV.out.symm, HAL.out⟩
          · have HV : Hid (evE 3 n = 0) := Lib.hid (by rw [evE_13 3 n (.inr rfl), if_pos (by omega)])
            go_enter Tryd.func42, Tryd.ntmps42
            go_wp2_with fail
            go_ret
            exact ⟨ret_int HV.out.symm, HAL.out⟩
          · by_cases hz : n = 0
            · subst hz
              have HV : Hid (evE 4 0 = 0) := Lib.hid rfl
              go_enter Tryd.func42, Tryd.ntmps42
              go_wp2_with fail
              go_ret
              exact ⟨ret_int HV.out.symm, HAL.out⟩
            · have HV : Hid (evE 4 n = 1) := Lib.hid (by rw [evE_24 4 n (.inr rfl), if_neg hz])
              have b0 : (n == 0) = false := by rw [beq_eq_false_iff_ne]; exact hz
              have b1 : (n != 0) = true := by rw [bne, b0]; rfl
              clear hz
              go_enter Tryd.func42, Tryd.ntmps42
              go_wp2_with fail
              go_ret
              exact ⟨ret_int HV.out.symm, HAL.out⟩

theorem textB_len10 (n : Int) (h : n ≤ 9223372036854775807) : (textB 10 n).length ≤ 64 := by
  unfold textB
  split
  · simp
  · exact digL_len (by omega) 64 _ (by omega) (by
      have h3 : (9223372036854775807 : Nat) < 10 ^ 64 := by decide
      omega)

theorem ret_si {a c : ByteArray} {b d : Int} (h : a = c) (h2 : b = d) : Ending.returned (.tuple #[.string a, .int .i64 b]) = .returned (.tuple #[.string c, .int .i64 d]) := by rw [h, h2]

/-- An event's text; the empty one: it may not be. -/
def evT (k n : Int) : List UInt8 := if evOk k n then evText k n else []
theorem ev_ok {k n : Int} (h : evE k n = 0) : evOk k n = true := by unfold evE at h; split at h; assumption; omega
theorem ev_no {k n : Int} (h : evE k n ≠ 0) : evOk k n = false := by unfold evE at h; split at h; exact absurd rfl h; simpa using ‹¬ evOk k n = true›

def EvTextPost (w : World) (k n : Int) (e : Ending) (w' : World) : Prop := e = .returned (.tuple #[.string ⟨(evT k n).toArray⟩, .int .i64 (evE k n)]) ∧ Below w.heap.size w w'

theorem cat_digits (A : List UInt8) (n : Int) (h : ¬ n < 0) : (⟨A.toArray⟩ ++ ⟨(textB 10 n).toArray⟩ : ByteArray) = ⟨(A ++ digL 10 n.toNat).toArray⟩ := by
  unfold textB
  rw [if_neg h]
  apply ByteArray.ext; rw [ByteArray.data_append]; simp

set_option maxRecDepth 100000 in
set_option maxHeartbeats 1000000 in
theorem evText_any (k n : Int) (w : World) (hn0 : -9223372036854775808 ≤ n) (hn1 : n ≤ 9223372036854775807) (hP : PowAt w) :
    Calls Tryd.prog 39 #[evV k n] w (EvTextPost w k n) := by
  have HP := Lib.hid hP; clear hP
  have CH := Lib.hid (fun w => evCheck_any k n w)
  unfold evV at CH ⊢
  by_cases h0 : evE k n = 0
  · have hok := ev_ok h0
    rw [h0] at CH
    rcases evOk_cases hok with ⟨rfl, a0, a1⟩ | ⟨rfl, a0, a1⟩ | ⟨rfl, rfl⟩ | ⟨rfl, rfl⟩
    · have HR : Hid (EvTextPost w 1 n = fun e w' => e = .returned (.tuple #[.string ⟨(evText 1 n).toArray⟩, .int .i64 0]) ∧ Below w.heap.size w w') := Lib.hid (by funext e w'; unfold EvTextPost evT; rw [hok, h0]; rfl)
      have HC : Hid ((⟨#[99, 108, 105, 101, 110, 116, 32]⟩ ++ ⟨(textB 10 n).toArray⟩ : ByteArray) = ⟨(evText 1 n).toArray⟩) := Lib.hid (cat_digits [99, 108, 105, 101, 110, 116, 32] n (by omega))
      rw [HR.out]
      clear hok h0
      have TX := Lib.hid (fun w h => numText_any n w hn0 hn1 h)
      have hTl := textB_len10 n hn1
      obtain ⟨T, hT⟩ : ∃ T : ByteArray, ⟨(textB 10 n).toArray⟩ = T := ⟨_, rfl⟩
      have hTs : T.size ≤ 64 := by rw [← hT, Lib.size_eq]; exact hTl
      rw [hT] at TX HC
      clear hT hTl HR
      go_enter Tryd.func39, Tryd.ntmps39
      go_wp2_with fail
      refine (CH.out _).mono ?_
      rintro e w2 ⟨rfl, hb2⟩
      have hk := (hb2.block w.heap.size (by simp)).trans (heap_alloc_new w _)
      have c0 : w2.cell? ⟨w.heap.size, 0, none⟩ = some (.int .i64 1) := by rw [cell_of_row w2 w.heap.size 0 _ _ _ hk]; rfl
      have c1 : w2.cell? ⟨w.heap.size, 1, none⟩ = some (.int .i64 n) := by rw [cell_of_row w2 w.heap.size 1 _ _ _ hk]; rfl
      have HB2 : Hid (Below w.heap.size w w2) := Lib.hid (((Below.refl _ _).alloc (Nat.le_refl _) _).trans (hb2.mono (by simp)))
      clear hb2 hk CH
      go_wp2_with fail
      refine (TX.out _ (powAt_below HP.out HB2.out)).mono ?_
      rintro e w3 ⟨rfl, hb3⟩
      have HB3 := Lib.hid (bseq HB2.out hb3); clear hb3
      go_wp2_with fail
      go_ret2
      exact ⟨ret_si (by rw [← HC.out]) rfl, HB3.out⟩
    · have HR : Hid (EvTextPost w 3 n = fun e w' => e = .returned (.tuple #[.string ⟨(evText 3 n).toArray⟩, .int .i64 0]) ∧ Below w.heap.size w w') := Lib.hid (by funext e w'; unfold EvTextPost evT; rw [hok, h0]; rfl)
      have HC : Hid ((⟨#[117, 112, 115, 116, 114, 101, 97, 109, 32]⟩ ++ ⟨(textB 10 n).toArray⟩ : ByteArray) = ⟨(evText 3 n).toArray⟩) := Lib.hid (cat_digits [117, 112, 115, 116, 114, 101, 97, 109, 32] n (by omega))
      rw [HR.out]
      clear hok h0
      have TX := Lib.hid (fun w h => numText_any n w hn0 hn1 h)
      have hTl := textB_len10 n hn1
      obtain ⟨T, hT⟩ : ∃ T : ByteArray, ⟨(textB 10 n).toArray⟩ = T := ⟨_, rfl⟩
      have hTs : T.size ≤ 64 := by rw [← hT, Lib.size_eq]; exact hTl
      rw [hT] at TX HC
      clear hT hTl HR
      go_enter Tryd.func39, Tryd.ntmps39
      go_wp2_with fail
      refine (CH.out _).mono ?_
      rintro e w2 ⟨rfl, hb2⟩
      have hk := (hb2.block w.heap.size (by simp)).trans (heap_alloc_new w _)
      have c0 : w2.cell? ⟨w.heap.size, 0, none⟩ = some (.int .i64 3) := by rw [cell_of_row w2 w.heap.size 0 _ _ _ hk]; rfl
      have c1 : w2.cell? ⟨w.heap.size, 1, none⟩ = some (.int .i64 n) := by rw [cell_of_row w2 w.heap.size 1 _ _ _ hk]; rfl
      have HB2 : Hid (Below w.heap.size w w2) := Lib.hid (((Below.refl _ _).alloc (Nat.le_refl _) _).trans (hb2.mono (by simp)))
      clear hb2 hk CH
      go_wp2_with fail
      refine (TX.out _ (powAt_below HP.out HB2.out)).mono ?_
      rintro e w3 ⟨rfl, hb3⟩
      have HB3 := Lib.hid (bseq HB2.out hb3); clear hb3
      go_wp2_with fail
      go_ret2
      exact ⟨ret_si (by rw [← HC.out]) rfl, HB3.out⟩
    · have HR : Hid (EvTextPost w 2 0 = fun e w' => e = .returned (.tuple #[.string ⟨(evText 2 0).toArray⟩, .int .i64 0]) ∧ Below w.heap.size w w') := Lib.hid (by funext e w'; unfold EvTextPost evT; rw [hok, h0]; rfl)
      rw [HR.out]
      clear hok h0 HR
      go_enter Tryd.func39, Tryd.ntmps39
      go_wp2_with fail
      refine (CH.out _).mono ?_
      rintro e w2 ⟨rfl, hb2⟩
      have hk := (hb2.block w.heap.size (by simp)).trans (heap_alloc_new w _)
      have c0 : w2.cell? ⟨w.heap.size, 0, none⟩ = some (.int .i64 2) := by rw [cell_of_row w2 w.heap.size 0 _ _ _ hk]; rfl
      have HB2 : Hid (Below w.heap.size w w2) := Lib.hid (((Below.refl _ _).alloc (Nat.le_refl _) _).trans (hb2.mono (by simp)))
      clear hb2 hk CH
      go_wp2_with fail
      go_ret2
      exact ⟨rfl, HB2.out⟩
    · have HR : Hid (EvTextPost w 4 0 = fun e w' => e = .returned (.tuple #[.string ⟨(evText 4 0).toArray⟩, .int .i64 0]) ∧ Below w.heap.size w w') := Lib.hid (by funext e w'; unfold EvTextPost evT; rw [hok, h0]; rfl)
      rw [HR.out]
      clear hok h0 HR
      go_enter Tryd.func39, Tryd.ntmps39
      go_wp2_with fail
      refine (CH.out _).mono ?_
      rintro e w2 ⟨rfl, hb2⟩
      have hk := (hb2.block w.heap.size (by simp)).trans (heap_alloc_new w _)
      have c0 : w2.cell? ⟨w.heap.size, 0, none⟩ = some (.int .i64 4) := by rw [cell_of_row w2 w.heap.size 0 _ _ _ hk]; rfl
      have HB2 : Hid (Below w.heap.size w w2) := Lib.hid (((Below.refl _ _).alloc (Nat.le_refl _) _).trans (hb2.mono (by simp)))
      clear hb2 hk CH
      go_wp2_with fail
      go_ret2
      exact ⟨rfl, HB2.out⟩
  · have hno := ev_no h0
    have h1 : evE k n = 1 := by unfold evE; rw [hno]; rfl
    have HR : Hid (EvTextPost w k n = fun e w' => e = .returned (.tuple #[.string ⟨#[]⟩, .int .i64 1]) ∧ Below w.heap.size w w') := Lib.hid (by funext e w'; unfold EvTextPost evT; rw [hno, h1]; rfl)
    rw [HR.out]
    rw [h1] at CH
    clear hno h0 h1 HR
    go_enter Tryd.func39, Tryd.ntmps39
    go_wp2_with fail
    refine (CH.out _).mono ?_
    rintro e w2 ⟨rfl, hb2⟩
    have HB2 : Hid (Below w.heap.size w w2) := Lib.hid (((Below.refl _ _).alloc (Nat.le_refl _) _).trans (hb2.mono (by simp)))
    clear hb2 CH
    go_wp2_with fail
    go_ret2
    exact ⟨rfl, HB2.out⟩


theorem rText10 (n : Int) (w : World) (h1 : n ≤ 9223372036854775807) :
    Calls Tryd.prog 22 #[.int .i64 n, .int .i64 10] w fun e w' => e = .returned (.string ⟨(textB 10 n).toArray⟩) ∧ Below w.heap.size w w' := rText3_any 10 (.inl rfl) n w h1

theorem side1 (w : World) : (Instr.index 86 (.agg #[.string ⟨#[]⟩, .string ⟨#[99, 108, 105, 101, 110, 116, 32]⟩, .string ⟨#[99, 108, 105, 101, 110, 116, 32]⟩, .string ⟨#[117, 112, 115, 116, 114, 101, 97, 109, 32]⟩, .string ⟨#[117, 112, 115, 116, 114, 101, 97, 109, 32]⟩]) (.int .i64 1)).run Tryd.prog w = .ok (.string ⟨#[99, 108, 105, 101, 110, 116, 32]⟩) w := by kernel_rfl
theorem side2 (w : World) : (Instr.index 86 (.agg #[.string ⟨#[]⟩, .string ⟨#[99, 108, 105, 101, 110, 116, 32]⟩, .string ⟨#[99, 108, 105, 101, 110, 116, 32]⟩, .string ⟨#[117, 112, 115, 116, 114, 101, 97, 109, 32]⟩, .string ⟨#[117, 112, 115, 116, 114, 101, 97, 109, 32]⟩]) (.int .i64 2)).run Tryd.prog w = .ok (.string ⟨#[99, 108, 105, 101, 110, 116, 32]⟩) w := by kernel_rfl
theorem side3 (w : World) : (Instr.index 86 (.agg #[.string ⟨#[]⟩, .string ⟨#[99, 108, 105, 101, 110, 116, 32]⟩, .string ⟨#[99, 108, 105, 101, 110, 116, 32]⟩, .string ⟨#[117, 112, 115, 116, 114, 101, 97, 109, 32]⟩, .string ⟨#[117, 112, 115, 116, 114, 101, 97, 109, 32]⟩]) (.int .i64 3)).run Tryd.prog w = .ok (.string ⟨#[117, 112, 115, 116, 114, 101, 97, 109, 32]⟩) w := by kernel_rfl
theorem side4 (w : World) : (Instr.index 86 (.agg #[.string ⟨#[]⟩, .string ⟨#[99, 108, 105, 101, 110, 116, 32]⟩, .string ⟨#[99, 108, 105, 101, 110, 116, 32]⟩, .string ⟨#[117, 112, 115, 116, 114, 101, 97, 109, 32]⟩, .string ⟨#[117, 112, 115, 116, 114, 101, 97, 109, 32]⟩]) (.int .i64 4)).run Tryd.prog w = .ok (.string ⟨#[117, 112, 115, 116, 114, 101, 97, 109, 32]⟩) w := by kernel_rfl

set_option maxRecDepth 100000 in
set_option maxHeartbeats 1000000 in
theorem rEvText_any (k n : Int) (w : World) (hn0 : -9223372036854775808 ≤ n) (hn1 : n ≤ 9223372036854775807) :
    Calls Tryd.prog 40 #[evV k n] w (EvTextPost w k n) := by
  have CH := Lib.hid (fun w => rEvCheck_any k n w)
  unfold evV at CH ⊢
  by_cases h0 : evE k n = 0
  · have hok := ev_ok h0
    rw [h0] at CH
    rcases evOk_cases hok with ⟨rfl, a0, a1⟩ | ⟨rfl, a0, a1⟩ | ⟨rfl, rfl⟩ | ⟨rfl, rfl⟩
    · have HR : Hid (EvTextPost w 1 n = fun e w' => e = .returned (.tuple #[.string ⟨(evText 1 n).toArray⟩, .int .i64 0]) ∧ Below w.heap.size w w') := Lib.hid (by funext e w'; unfold EvTextPost evT; rw [hok, h0]; rfl)
      have HC : Hid ((⟨#[99, 108, 105, 101, 110, 116, 32]⟩ ++ ⟨(textB 10 n).toArray⟩ : ByteArray) = ⟨(evText 1 n).toArray⟩) := Lib.hid (cat_digits [99, 108, 105, 101, 110, 116, 32] n (by omega))
      rw [HR.out]
      clear hok h0
      have TX := Lib.hid (fun w => rText10 n w hn1)
      have hTl := textB_len10 n hn1
      obtain ⟨T, hT⟩ : ∃ T : ByteArray, ⟨(textB 10 n).toArray⟩ = T := ⟨_, rfl⟩
      have hTs : T.size ≤ 64 := by rw [← hT, Lib.size_eq]; exact hTl
      rw [hT] at TX HC
      clear hT hTl HR
      go_enter Tryd.func40, Tryd.ntmps40
      go_wp2_with fail
      refine (CH.out _).mono ?_
      rintro e w2 ⟨rfl, hb2⟩
      have hk := (hb2.block w.heap.size (by simp)).trans (heap_alloc_new w _)
      have c0 : w2.cell? ⟨w.heap.size, 0, none⟩ = some (.int .i64 1) := by rw [cell_of_row w2 w.heap.size 0 _ _ _ hk]; rfl
      have ix := side1 w2
      have c1 : w2.cell? ⟨w.heap.size, 1, none⟩ = some (.int .i64 n) := by rw [cell_of_row w2 w.heap.size 1 _ _ _ hk]; rfl
      have HB2 : Hid (Below w.heap.size w w2) := Lib.hid (((Below.refl _ _).alloc (Nat.le_refl _) _).trans (hb2.mono (by simp)))
      clear hb2 hk CH
      go_wp2_with fail
      refine (TX.out _).mono ?_
      rintro e w3 ⟨rfl, hb3⟩
      have HB3 := Lib.hid (bseq HB2.out hb3); clear hb3
      go_wp2_with fail
      go_ret2
      exact ⟨ret_si (by rw [← HC.out]) rfl, HB3.out⟩
    · have HR : Hid (EvTextPost w 3 n = fun e w' => e = .returned (.tuple #[.string ⟨(evText 3 n).toArray⟩, .int .i64 0]) ∧ Below w.heap.size w w') := Lib.hid (by funext e w'; unfold EvTextPost evT; rw [hok, h0]; rfl)
      have HC : Hid ((⟨#[117, 112, 115, 116, 114, 101, 97, 109, 32]⟩ ++ ⟨(textB 10 n).toArray⟩ : ByteArray) = ⟨(evText 3 n).toArray⟩) := Lib.hid (cat_digits [117, 112, 115, 116, 114, 101, 97, 109, 32] n (by omega))
      rw [HR.out]
      clear hok h0
      have TX := Lib.hid (fun w => rText10 n w hn1)
      have hTl := textB_len10 n hn1
      obtain ⟨T, hT⟩ : ∃ T : ByteArray, ⟨(textB 10 n).toArray⟩ = T := ⟨_, rfl⟩
      have hTs : T.size ≤ 64 := by rw [← hT, Lib.size_eq]; exact hTl
      rw [hT] at TX HC
      clear hT hTl HR
      go_enter Tryd.func40, Tryd.ntmps40
      go_wp2_with fail
      refine (CH.out _).mono ?_
      rintro e w2 ⟨rfl, hb2⟩
      have hk := (hb2.block w.heap.size (by simp)).trans (heap_alloc_new w _)
      have c0 : w2.cell? ⟨w.heap.size, 0, none⟩ = some (.int .i64 3) := by rw [cell_of_row w2 w.heap.size 0 _ _ _ hk]; rfl
      have ix := side3 w2
      have c1 : w2.cell? ⟨w.heap.size, 1, none⟩ = some (.int .i64 n) := by rw [cell_of_row w2 w.heap.size 1 _ _ _ hk]; rfl
      have HB2 : Hid (Below w.heap.size w w2) := Lib.hid (((Below.refl _ _).alloc (Nat.le_refl _) _).trans (hb2.mono (by simp)))
      clear hb2 hk CH
      go_wp2_with fail
      refine (TX.out _).mono ?_
      rintro e w3 ⟨rfl, hb3⟩
      have HB3 := Lib.hid (bseq HB2.out hb3); clear hb3
      go_wp2_with fail
      go_ret2
      exact ⟨ret_si (by rw [← HC.out]) rfl, HB3.out⟩
    · have HR : Hid (EvTextPost w 2 0 = fun e w' => e = .returned (.tuple #[.string ⟨(evText 2 0).toArray⟩, .int .i64 0]) ∧ Below w.heap.size w w') := Lib.hid (by funext e w'; unfold EvTextPost evT; rw [hok, h0]; rfl)
      rw [HR.out]
      clear hok h0 HR
      go_enter Tryd.func40, Tryd.ntmps40
      go_wp2_with fail
      refine (CH.out _).mono ?_
      rintro e w2 ⟨rfl, hb2⟩
      have hk := (hb2.block w.heap.size (by simp)).trans (heap_alloc_new w _)
      have c0 : w2.cell? ⟨w.heap.size, 0, none⟩ = some (.int .i64 2) := by rw [cell_of_row w2 w.heap.size 0 _ _ _ hk]; rfl
      have ix := side2 w2
      have c1 : w2.cell? ⟨w.heap.size, 1, none⟩ = some (.int .i64 0) := by rw [cell_of_row w2 w.heap.size 1 _ _ _ hk]; rfl
      have HB2 : Hid (Below w.heap.size w w2) := Lib.hid (((Below.refl _ _).alloc (Nat.le_refl _) _).trans (hb2.mono (by simp)))
      clear hb2 hk CH
      go_wp2_with fail
      go_ret2
      exact ⟨rfl, HB2.out⟩
    · have HR : Hid (EvTextPost w 4 0 = fun e w' => e = .returned (.tuple #[.string ⟨(evText 4 0).toArray⟩, .int .i64 0]) ∧ Below w.heap.size w w') := Lib.hid (by funext e w'; unfold EvTextPost evT; rw [hok, h0]; rfl)
      rw [HR.out]
      clear hok h0 HR
      go_enter Tryd.func40, Tryd.ntmps40
      go_wp2_with fail
      refine (CH.out _).mono ?_
      rintro e w2 ⟨rfl, hb2⟩
      have hk := (hb2.block w.heap.size (by simp)).trans (heap_alloc_new w _)
      have c0 : w2.cell? ⟨w.heap.size, 0, none⟩ = some (.int .i64 4) := by rw [cell_of_row w2 w.heap.size 0 _ _ _ hk]; rfl
      have ix := side4 w2
      have c1 : w2.cell? ⟨w.heap.size, 1, none⟩ = some (.int .i64 0) := by rw [cell_of_row w2 w.heap.size 1 _ _ _ hk]; rfl
      have HB2 : Hid (Below w.heap.size w w2) := Lib.hid (((Below.refl _ _).alloc (Nat.le_refl _) _).trans (hb2.mono (by simp)))
      clear hb2 hk CH
      go_wp2_with fail
      go_ret2
      exact ⟨rfl, HB2.out⟩
  · have hno := ev_no h0
    have h1 : evE k n = 1 := by unfold evE; rw [hno]; rfl
    have HR : Hid (EvTextPost w k n = fun e w' => e = .returned (.tuple #[.string ⟨#[]⟩, .int .i64 1]) ∧ Below w.heap.size w w') := Lib.hid (by funext e w'; unfold EvTextPost evT; rw [hno, h1]; rfl)
    rw [HR.out]
    rw [h1] at CH
    clear hno h0 h1 HR
    go_enter Tryd.func40, Tryd.ntmps40
    go_wp2_with fail
    refine (CH.out _).mono ?_
    rintro e w2 ⟨rfl, hb2⟩
    have HB2 : Hid (Below w.heap.size w w2) := Lib.hid (((Below.refl _ _).alloc (Nat.le_refl _) _).trans (hb2.mono (by simp)))
    clear hb2 CH
    go_wp2_with fail
    go_ret2
    exact ⟨rfl, HB2.out⟩

end Go.Proofs.YthhpijmkhhdhhaaDoor
