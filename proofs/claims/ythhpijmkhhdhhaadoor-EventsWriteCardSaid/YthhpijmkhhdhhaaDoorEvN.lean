/- events.Sizes, Ends; rows of events. -/
import Derived.Test.YthhpijmkhhdhhaaDoorLaw45
namespace Go.Proofs.YthhpijmkhhdhhaaDoor
open Go.RowKit
set_option linter.unusedVariables false
set_option linter.unusedSimpArgs false

abbrev EL := List (Int × Int)
/-- Events in memory. -/
def EvsAt (w : World) (a : Option Addr) (xs : EL) : Prop :=
  xs = [] ∨ ∃ b o, a = some ⟨b, o, none⟩ ∧ b < w.heap.size ∧ ∀ j (h : j < xs.length), w.cell? ⟨b, o + j * 2, none⟩ = some (.int .i64 xs[j].1) ∧ w.cell? ⟨b, o + j * 2 + 1, none⟩ = some (.int .i64 xs[j].2)
def EvsOk (xs : EL) : Prop := ∀ x ∈ xs, -9223372036854775808 ≤ x.2 ∧ x.2 ≤ 9223372036854775807
theorem evsAt_at {w : World} {a : Option Addr} {xs : EL} (h : EvsAt w a xs) (j : Nat) (hj : j < xs.length) : ∃ b o, a = some ⟨b, o, none⟩ ∧ b < w.heap.size ∧ w.cell? ⟨b, o + j * 2, none⟩ = some (.int .i64 xs[j].1) ∧ w.cell? ⟨b, o + j * 2 + 1, none⟩ = some (.int .i64 xs[j].2) := by
  rcases h with rfl | ⟨b, o, ha, hb, hc⟩
  · simp at hj
  · exact ⟨b, o, ha, hb, hc j hj⟩
theorem evsAt_below {w w1 : World} {a : Option Addr} {xs : EL} (h : EvsAt w a xs) (hf : Below w.heap.size w w1) : EvsAt w1 a xs := by
  rcases h with h | ⟨b, o, ha, hb, hc⟩
  · exact .inl h
  · exact .inr ⟨b, o, ha, Nat.lt_of_lt_of_le hb hf.size, fun j hj => ⟨by rw [hf.cell (by exact hb)]; exact (hc j hj).1, by rw [hf.cell (by exact hb)]; exact (hc j hj).2⟩⟩
theorem evsAt_take {w : World} {a : Option Addr} {xs : EL} (h : EvsAt w a xs) (n : Nat) : EvsAt w a (xs.take n) := by
  rcases h with rfl | ⟨b, o, ha, hb, hc⟩
  · left; simp
  · exact .inr ⟨b, o, ha, hb, fun j hj => by simp at hj; have := hc j (by omega); simpa using this⟩

/-- The sum of a kind's sizes; does a kind come? -/
def sumK (k : Int) : EL → Int
  | [] => 0
  | x :: r => (if x.1 = k ∧ evE x.1 x.2 = 0 then x.2 else 0) + sumK k r
def anyK (k : Int) (xs : EL) : Bool := xs.any fun x => x.1 == k
theorem sumK_snoc (k : Int) (xs : EL) (x : Int × Int) : sumK k (xs ++ [x]) = sumK k xs + (if x.1 = k ∧ evE x.1 x.2 = 0 then x.2 else 0) := by
  induction xs with
  | nil => simp [sumK]
  | cons y r ih => rw [List.cons_append, sumK, sumK, ih]; omega
theorem anyK_snoc (k : Int) (xs : EL) (x : Int × Int) : anyK k (xs ++ [x]) = (anyK k xs || (x.1 == k)) := by unfold anyK; simp
theorem sumK_bound (k : Int) : ∀ (xs : EL), 0 ≤ sumK k xs ∧ sumK k xs ≤ 1048576 * xs.length
  | [] => by simp [sumK]
  | x :: r => by
    have ih := sumK_bound k r
    rw [sumK, List.length_cons]
    have h : 0 ≤ (if x.1 = k ∧ evE x.1 x.2 = 0 then x.2 else 0) ∧ (if x.1 = k ∧ evE x.1 x.2 = 0 then x.2 else 0) ≤ 1048576 := by
      split
      · rename_i h
        rcases evOk_cases (ev_ok h.2) with ⟨_, a, b⟩ | ⟨_, a, b⟩ | ⟨_, a⟩ | ⟨_, a⟩ <;> omega
      · omega
    have e : ((r.length + 1 : Nat) : Int) = (r.length : Int) + 1 := by simp
    omega
theorem take_snocE (xs : EL) (k : Nat) (h : k < xs.length) : xs.take (k + 1) = xs.take k ++ [xs[k]] := List.take_succ_eq_append_getElem h

def capM (n : Int) : Int := min n 1048576

set_option maxRecDepth 100000 in
set_option maxHeartbeats 1000000 in
theorem sizes_any (w : World) (a : Option Addr) (n cap : Nat) (xs : EL) (h : EvsAt w a xs) (hn : n = xs.length) (hl : xs.length ≤ 1000) :
    Calls Tryd.prog 43 #[.slice a n cap] w fun e w' => e = .returned (.tuple #[.int .i64 (capM (sumK 1 xs)), .int .i64 (capM (sumK 3 xs))]) ∧ Below w.heap.size w w' := by
  subst hn
  have HA := Lib.hid h; clear h
  have CK := Lib.hid (fun k n w => evCheck_any k n w)
  unfold evV at CK
  go_enter Tryd.func43, Tryd.ntmps43
  go_wp2_with fail
  go_loopw [2, 3, 8] (fun c u i wr => ∃ (k : Nat) (C U : Int), k ≤ xs.length ∧ i = .int .i64 k ∧ c = .int .i64 C ∧ u = .int .i64 U ∧ 0 ≤ C ∧ C ≤ 1048576 ∧ 0 ≤ U ∧ U ≤ 1048576 ∧ Hid (C = capM (sumK 1 (xs.take k)) ∧ U = capM (sumK 3 (xs.take k))) ∧ Hid (Below w.heap.size w wr)) (fun _ _ i _ => xs.length - (intOf i).toNat)
  case atStart => exact ⟨0, 0, 0, Nat.zero_le _, rfl, rfl, rfl, by decide, by decide, by decide, by decide, Lib.hid ⟨rfl, rfl⟩, Below.refl _ _⟩
  case round =>
    obtain ⟨k, C, U, hk, rfl, rfl, rfl, hC0, hC1, hU0, hU1, hcu, hb⟩ := hrel
    by_cases hlt : k < xs.length
    · obtain ⟨b, o, rfl, hbs, x0, x1⟩ := evsAt_at (evsAt_below HA.out hb.out) k hlt
      have hsn1 := sumK_snoc 1 (xs.take k) xs[k]
      have hsn3 := sumK_snoc 3 (xs.take k) xs[k]
      rw [← take_snocE xs k hlt] at hsn1 hsn3
      have hb1 := sumK_bound 1 (xs.take k)
      have hb3 := sumK_bound 3 (xs.take k)
      obtain ⟨K, hK⟩ : ∃ K, xs[k].1 = K := ⟨_, rfl⟩
      obtain ⟨N, hN⟩ : ∃ N, xs[k].2 = N := ⟨_, rfl⟩
      rw [hK] at x0
      rw [hN] at x1
      rw [hK, hN] at hsn1 hsn3
      have CKK := Lib.hid (fun w => CK.out K N w)
      by_cases h0 : evE K N = 0
      · have hok := ev_ok h0
        rw [h0] at CKK
        simp only [h0, and_true] at hsn1 hsn3
        rcases evOk_cases hok with ⟨rfl, a0, a1⟩ | ⟨rfl, a0, a1⟩ | ⟨rfl, rfl⟩ | ⟨rfl, rfl⟩
        · have HS : Hid (min (C + N) 1048576 = capM (sumK 1 (xs.take (k + 1))) ∧ U = capM (sumK 3 (xs.take (k + 1)))) := Lib.hid (by
            obtain ⟨e1, e2⟩ := hcu.out
            rw [hsn1, hsn3, if_pos rfl, if_neg (by decide), e1, e2]
            unfold capM; constructor <;> omega)
          clear hsn1 hsn3 hb1 hb3 hok h0 hK hN
          go_wp2_with fail
          refine (CKK.out _).mono ?_
          rintro e w2 ⟨rfl, hb2⟩
          obtain ⟨c0, c1, _⟩ := ev_kept hb2
          have HB2 : Hid (Below w.heap.size w w2) := Lib.hid ((hb.out.alloc hb.out.size _).trans (hb2.mono (by have := hb.out.size; simp; omega)))
          clear hb2
          go_wp2_with fail
          go_roundw
          case rel => exact ⟨k + 1, min (C + N) 1048576, U, by omega, by go_num, rfl, rfl, by omega, by omega, hU0, hU1, HS.out, HB2.out⟩
          case measure => simp [intOf]; omega
        · have HS : Hid (C = capM (sumK 1 (xs.take (k + 1))) ∧ min (U + N) 1048576 = capM (sumK 3 (xs.take (k + 1)))) := Lib.hid (by
            obtain ⟨e1, e2⟩ := hcu.out
            rw [hsn1, hsn3, if_pos rfl, if_neg (by decide), e1, e2]
            unfold capM; constructor <;> omega)
          clear hsn1 hsn3 hb1 hb3 hok h0 hK hN
          go_wp2_with fail
          refine (CKK.out _).mono ?_
          rintro e w2 ⟨rfl, hb2⟩
          obtain ⟨c0, c1, _⟩ := ev_kept hb2
          have HB2 : Hid (Below w.heap.size w w2) := Lib.hid ((hb.out.alloc hb.out.size _).trans (hb2.mono (by have := hb.out.size; simp; omega)))
          clear hb2
          go_wp2_with fail
          go_roundw
          case rel => exact ⟨k + 1, C, min (U + N) 1048576, by omega, by go_num, rfl, rfl, hC0, hC1, by omega, by omega, HS.out, HB2.out⟩
          case measure => simp [intOf]; omega
        · have HS : Hid (C = capM (sumK 1 (xs.take (k + 1))) ∧ U = capM (sumK 3 (xs.take (k + 1)))) := Lib.hid (by
            obtain ⟨e1, e2⟩ := hcu.out
            rw [hsn1, hsn3, if_neg (by decide), if_neg (by decide), e1, e2]
            unfold capM; constructor <;> omega)
          clear hsn1 hsn3 hb1 hb3 hok h0 hK hN
          go_wp2_with fail
          refine (CKK.out _).mono ?_
          rintro e w2 ⟨rfl, hb2⟩
          obtain ⟨c0, c1, _⟩ := ev_kept hb2
          have HB2 : Hid (Below w.heap.size w w2) := Lib.hid ((hb.out.alloc hb.out.size _).trans (hb2.mono (by have := hb.out.size; simp; omega)))
          clear hb2
          go_wp2_with fail
          go_roundw
          case rel => exact ⟨k + 1, C, U, by omega, by go_num, rfl, rfl, hC0, hC1, hU0, hU1, HS.out, HB2.out⟩
          case measure => simp [intOf]; omega
        · have HS : Hid (C = capM (sumK 1 (xs.take (k + 1))) ∧ U = capM (sumK 3 (xs.take (k + 1)))) := Lib.hid (by
            obtain ⟨e1, e2⟩ := hcu.out
            rw [hsn1, hsn3, if_neg (by decide), if_neg (by decide), e1, e2]
            unfold capM; constructor <;> omega)
          clear hsn1 hsn3 hb1 hb3 hok h0 hK hN
          go_wp2_with fail
          refine (CKK.out _).mono ?_
          rintro e w2 ⟨rfl, hb2⟩
          obtain ⟨c0, c1, _⟩ := ev_kept hb2
          have HB2 : Hid (Below w.heap.size w w2) := Lib.hid ((hb.out.alloc hb.out.size _).trans (hb2.mono (by have := hb.out.size; simp; omega)))
          clear hb2
          go_wp2_with fail
          go_roundw
          case rel => exact ⟨k + 1, C, U, by omega, by go_num, rfl, rfl, hC0, hC1, hU0, hU1, HS.out, HB2.out⟩
          case measure => simp [intOf]; omega
      · have h1 : evE K N = 1 := by unfold evE; rw [ev_no h0]; rfl
        rw [h1] at CKK
        have HS : Hid (C = capM (sumK 1 (xs.take (k + 1))) ∧ U = capM (sumK 3 (xs.take (k + 1)))) := Lib.hid (by
          obtain ⟨e1, e2⟩ := hcu.out
          rw [hsn1, hsn3, if_neg (by rw [h1]; simp), if_neg (by rw [h1]; simp), e1, e2]
          unfold capM; constructor <;> omega)
        clear hsn1 hsn3 hb1 hb3 h0 h1 hK hN
        go_wp2_with fail
        refine (CKK.out _).mono ?_
        rintro e w2 ⟨rfl, hb2⟩
        obtain ⟨c0, c1, _⟩ := ev_kept hb2
        have HB2 : Hid (Below w.heap.size w w2) := Lib.hid ((hb.out.alloc hb.out.size _).trans (hb2.mono (by have := hb.out.size; simp; omega)))
        clear hb2
        go_wp2_with fail
        go_roundw
        case rel => exact ⟨k + 1, C, U, by omega, by go_num, rfl, rfl, hC0, hC1, hU0, hU1, HS.out, HB2.out⟩
        case measure => simp [intOf]; omega
    · obtain rfl : k = xs.length := by omega
      have h1 := hcu.out
      rw [List.take_length] at h1
      have HR := Lib.hid h1; clear h1
      go_wp2_with fail
      go_ret2
      exact ⟨ret_ii HR.out.1 HR.out.2, hb.out⟩


theorem ret_bb {a b c d : Bool} (h : a = c) (h2 : b = d) : Ending.returned (.tuple #[.bool a, .bool b]) = .returned (.tuple #[.bool c, .bool d]) := by rw [h, h2]

set_option maxRecDepth 100000 in
set_option maxHeartbeats 1000000 in
theorem ends_any (w : World) (a : Option Addr) (n cap : Nat) (xs : EL) (h : EvsAt w a xs) (hn : n = xs.length) (hl : xs.length ≤ 1000) :
    Calls Tryd.prog 44 #[.slice a n cap] w fun e w' => e = .returned (.tuple #[.bool (anyK 2 xs), .bool (anyK 4 xs)]) ∧ Below w.heap.size w w' := by
  subst hn
  have HA := Lib.hid h; clear h
  go_enter Tryd.func44, Tryd.ntmps44
  go_wp2_with fail
  go_loopw [2, 3, 8] (fun c u i wr => ∃ (k : Nat) (C U : Bool), k ≤ xs.length ∧ i = .int .i64 k ∧ c = .bool C ∧ u = .bool U ∧ Hid (C = anyK 2 (xs.take k) ∧ U = anyK 4 (xs.take k)) ∧ Hid (Below w.heap.size w wr)) (fun _ _ i _ => xs.length - (intOf i).toNat)
  case atStart => exact ⟨0, false, false, Nat.zero_le _, rfl, rfl, rfl, Lib.hid ⟨rfl, rfl⟩, Below.refl _ _⟩
  case round =>
    obtain ⟨k, C, U, hk, rfl, rfl, rfl, hcu, hb⟩ := hrel
    by_cases hlt : k < xs.length
    · obtain ⟨b, o, rfl, hbs, x0, x1⟩ := evsAt_at (evsAt_below HA.out hb.out) k hlt
      have hs2 := anyK_snoc 2 (xs.take k) xs[k]
      have hs4 := anyK_snoc 4 (xs.take k) xs[k]
      rw [← take_snocE xs k hlt, ← hcu.out.1] at hs2
      rw [← take_snocE xs k hlt, ← hcu.out.2] at hs4
      obtain ⟨K, hK⟩ : ∃ K, xs[k].1 = K := ⟨_, rfl⟩
      obtain ⟨N, hN⟩ : ∃ N, xs[k].2 = N := ⟨_, rfl⟩
      rw [hK] at x0 hs2 hs4
      rw [hN] at x1
      obtain ⟨q2, hq2⟩ : ∃ q2, (K == 2) = q2 := ⟨_, rfl⟩
      obtain ⟨q4, hq4⟩ : ∃ q4, (K == 4) = q4 := ⟨_, rfl⟩
      rw [hq2] at hs2
      rw [hq4] at hs4
      have HS := Lib.hid (And.intro hs2 hs4); clear hs2 hs4 hK hN
      have HB2 : Hid (Below w.heap.size w (wr.alloc (.cells #[.int .i64 K, .int .i64 N] 47))) := Lib.hid (hb.out.alloc hb.out.size _)
      cases C <;> cases U
      all_goals
        go_wp2_with fail
        go_roundw
        case rel => exact ⟨k + 1, _, _, by omega, by go_num, rfl, rfl, Lib.hid ⟨by rw [HS.out.1]; try rfl, by rw [HS.out.2]; try rfl⟩, HB2.out⟩
        case measure => simp [intOf]; omega
    · obtain rfl : k = xs.length := by omega
      have h1 := hcu.out
      rw [List.take_length] at h1
      have HR := Lib.hid h1; clear h1
      go_wp2_with fail
      go_ret2
      exact ⟨ret_bb HR.out.1 HR.out.2, hb.out⟩

end Go.Proofs.YthhpijmkhhdhhaaDoor
