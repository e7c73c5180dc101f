/- numeral.Sum; the law NumeralSums behind its awake. -/
import Derived.Test.YthhpijmkhhdhhaaDoorNum
namespace Go.Proofs.YthhpijmkhhdhhaaDoor
open Go.RowKit
set_option linter.unusedVariables false
set_option linter.unusedSimpArgs false

/-- Numbers added from the left; an error. -/
def sumGo (most : Int) : Int → List Int → Int × Int
  | n, [] => (n, 0)
  | n, x :: r => if x < 0 then (0, 1) else if most < n + x then (0, 7) else sumGo most (n + x) r

/-- Numbers in memory. -/
def IntsAt (w : World) (a : Option Addr) (xs : List Int) : Prop :=
  xs = [] ∨ ∃ b o, a = some ⟨b, o, none⟩ ∧ b < w.heap.size ∧ ∀ j (h : j < xs.length), w.cell? ⟨b, o + j, none⟩ = some (.int .i64 xs[j])

theorem intsAt_at {w : World} {a : Option Addr} {xs : List Int} (h : IntsAt w a xs) (j : Nat) (hj : j < xs.length) : ∃ b o, a = some ⟨b, o, none⟩ ∧ b < w.heap.size ∧ w.cell? ⟨b, o + j, none⟩ = some (.int .i64 xs[j]) := by
  rcases h with rfl | ⟨b, o, ha, hb, hc⟩
  · simp at hj
  · exact ⟨b, o, ha, hb, hc j hj⟩

theorem intsAt_below {w w1 : World} {a : Option Addr} {xs : List Int} (h : IntsAt w a xs) (hf : Below w.heap.size w w1) : IntsAt w1 a xs := by
  rcases h with h | ⟨b, o, ha, hb, hc⟩
  · exact .inl h
  · exact .inr ⟨b, o, ha, Nat.lt_of_lt_of_le hb hf.size, fun j hj => by rw [hf.cell (by exact hb)]; exact hc j hj⟩

theorem intsAt_take {w : World} {a : Option Addr} {xs : List Int} (h : IntsAt w a xs) (n : Nat) : IntsAt w a (xs.take n) := by
  rcases h with rfl | ⟨b, o, ha, hb, hc⟩
  · left; simp
  · exact .inr ⟨b, o, ha, hb, fun j hj => by rw [hc j (by simp at hj; omega)]; simp⟩

def IntsOk (xs : List Int) : Prop := ∀ x ∈ xs, -9223372036854775808 ≤ x ∧ x ≤ 9223372036854775807

set_option maxRecDepth 100000 in
set_option maxHeartbeats 1000000 in
theorem sum_any (w : World) (most : Int) (a : Option Addr) (n cap : Nat) (xs : List Int) (h : IntsAt w a xs) (hn : n = xs.length) (hok : IntsOk xs) (hl : xs.length ≤ 1000) (hm0 : -9223372036854775808 ≤ most) (hm1 : most ≤ 9223372036854775807) :
    Calls Tryd.prog 23 #[.int .i64 most, .slice a n cap] w fun e w' => e = .returned (.tuple #[.int .i64 (sumGo most 0 xs).1, .int .i64 (sumGo most 0 xs).2]) ∧ w = w' := by
  subst hn
  have HA := Lib.hid h; clear h
  have HOK := Lib.hid hok; clear hok
  go_enter Tryd.func23, Tryd.ntmps23
  go_wp2_with fail
  go_loop [6, 8, 11, 15, 18] (fun s _ i _ _ => ∃ (k : Nat) (N : Int), k ≤ xs.length ∧ i = .int .i64 k ∧ s = .int .i64 N ∧ 0 ≤ N ∧ N ≤ 9223372036854775807 ∧ Hid (sumGo most 0 xs = sumGo most N (xs.drop k))) (fun _ _ i _ _ => xs.length - (intOf i).toNat)
  case atStart => exact ⟨0, 0, Nat.zero_le _, rfl, rfl, by omega, by omega, rfl⟩
  case round =>
    obtain ⟨k, N, hk, rfl, rfl, hN0, hN1, hS⟩ := hrel
    by_cases hlt : k < xs.length
    · obtain ⟨b, o, rfl, hbs, x0⟩ := intsAt_at HA.out k hlt
      obtain ⟨z1, z2⟩ := HOK.out _ (List.getElem_mem hlt)
      have hd := hS.out
      rw [List.drop_eq_getElem_cons hlt] at hd
      generalize xs[k] = x at *
      have HD := Lib.hid hd; clear hd
      by_cases hx : x < 0
      · have HR : Hid (sumGo most 0 xs = (0, 1)) := Lib.hid (by rw [HD.out, sumGo, if_pos hx])
        have g0 : decide (x < 0) = true := decide_eq_true hx
        go_wp2_with fail
        go_ret2
        rw [HR.out]
        exact ⟨ret_ii rfl rfl, rfl⟩
      · have g0 : decide (x < 0) = false := decide_eq_false hx
        by_cases hm : most < N + x
        · have HR : Hid (sumGo most 0 xs = (0, 7)) := Lib.hid (by rw [HD.out, sumGo, if_neg hx, if_pos hm])
          by_cases hmx : most < x
          · have g1 : decide (most < x) = true := decide_eq_true hmx
            go_wp2_with fail
            go_ret2
            rw [HR.out]
            exact ⟨ret_ii rfl rfl, rfl⟩
          · have g1 : decide (most < x) = false := decide_eq_false hmx
            have g2 : IntKind.i64.wrap (most - x) = most - x := IntWalk.i64_in _ (by omega)
            have g3 : decide (most - x < N) = true := decide_eq_true (by omega)
            go_wp2_with fail
            go_ret2
            rw [HR.out]
            exact ⟨ret_ii rfl rfl, rfl⟩
        · have SE : Hid (sumGo most 0 xs = sumGo most (N + x) (xs.drop (k + 1))) := Lib.hid (by rw [HD.out, sumGo, if_neg hx, if_neg hm])
          have g1 : decide (most < x) = false := decide_eq_false (by omega)
          have g2 : IntKind.i64.wrap (most - x) = most - x := IntWalk.i64_in _ (by omega)
          have g3 : decide (most - x < N) = false := decide_eq_false (by omega)
          have g4 : IntKind.i64.wrap (N + x) = N + x := IntWalk.i64_in _ (by omega)
          go_wp2_with fail
          go_round
          case rel => exact ⟨k + 1, N + x, by omega, by go_num, rfl, by omega, by omega, SE.out⟩
          case measure => simp [intOf]; omega
    · obtain rfl : k = xs.length := by omega
      have hS2 := hS.out
      rw [List.drop_length] at hS2
      have HR : Hid (sumGo most 0 xs = (N, 0)) := Lib.hid hS2
      clear hS2
      go_wp2_with fail
      go_ret2
      rw [HR.out]
      exact ⟨ret_ii rfl rfl, rfl⟩

set_option maxRecDepth 100000 in
set_option maxHeartbeats 2000000 in
theorem sums_walk (w : World) (most : Int) (a : Option Addr) (len cap : Nat) (xs : List Int) (h : IntsAt w a xs) (hn : len = xs.length) (hlc : len ≤ cap) (hlm : len ≤ 9223372036854775807) (hok : IntsOk xs) (hm0 : -9223372036854775808 ≤ most) (hm1 : most ≤ 9223372036854775807)
    (AW : Calls Tryd.prog 16 #[] w fun e w' => e = .returned (.bool true) ∧ Below w.heap.size w w') :
    Calls Tryd.prog 5 #[.int .i64 most, .slice a len cap] w fun e w' => e = .returned (.bool true) ∧ Below w.heap.size w w' := by
  have AWH := Lib.hid AW; clear AW
  obtain ⟨ys, hys⟩ : ∃ ys, xs.take 30 = ys := ⟨_, rfl⟩
  have hyl : ys.length = min len 30 := by rw [← hys, List.length_take, hn]; omega
  have hyok : IntsOk ys := by rw [← hys]; exact fun x hx => hok x (List.mem_of_mem_take hx)
  have HA : Hid (IntsAt w a ys) := Lib.hid (by rw [← hys]; exact intsAt_take h 30)
  obtain ⟨n, hnn⟩ : ∃ n, ys.length = n := ⟨_, rfl⟩
  have hmin : min (len : Int) 30 = (n : Int) := by omega
  have hncap : (n : Int) ≤ cap := by omega
  have hn30 : n ≤ 30 := by omega
  have SM := Lib.hid (fun w (h : IntsAt w a ys) => sum_any w most a n cap ys h hnn.symm hyok (by omega) hm0 hm1)
  obtain ⟨r1, r2, hR⟩ : ∃ r1 r2, sumGo most 0 ys = (r1, r2) := ⟨_, _, rfl⟩
  rw [hR] at SM
  have HR := Lib.hid hR; clear hR
  have HOK := Lib.hid hyok; clear hyok
  have HNN := Lib.hid hnn; clear hnn hyl hys h hok hn
  have hm2 : (0 : Int) ≤ (n : Int) := by omega
  go_enter Tryd.func5, Tryd.ntmps5
  go_wp2_with fail
  refine AWH.out.mono ?_
  rintro e w1 ⟨rfl, hb1⟩
  have HA1 := Lib.hid (intsAt_below HA.out hb1)
  have HB := Lib.hid hb1; clear hb1
  go_wp2_with fail
  refine (SM.out _ HA1.out).mono ?_
  rintro e w' ⟨rfl, rfl⟩
  have hbn : ∀ x, x < n → x < ys.length := fun x hx => by have := HNN.out; omega
  have HBN := Lib.hid hbn; clear hbn
  clear SM AWH
  go_wp2_with fail
  go_loop [7, 8, 9] (fun s bd i => ∃ (k : Nat) (N B : Int), k ≤ n ∧ i = .int .i64 k ∧ s = .int .i64 N ∧ bd = .int .i64 B ∧ 0 ≤ N ∧ N ≤ 9223372036854775807 ∧ (N = 0 ∨ N ≤ most) ∧ Hid ((B = 0 ∧ (r1, r2) = sumGo most N (ys.drop k)) ∨ (B ≠ 0 ∧ r1 = 0 ∧ r2 = B))) (fun _ _ i => n - (intOf i).toNat)
  case atStart => exact ⟨0, 0, 0, Nat.zero_le _, rfl, rfl, rfl, by omega, by omega, .inl rfl, .inl ⟨rfl, HR.out.symm⟩⟩
  case round =>
    obtain ⟨k, N, B, hk, rfl, rfl, rfl, hN0, hN1, hNm, hS⟩ := hrel
    by_cases hB : B = 0
    · subst hB
      have hS2 : (r1, r2) = sumGo most N (ys.drop k) := by rcases hS.out with h | h; exact h.2; exact absurd rfl h.1
      clear hS
      by_cases hlt : k < n
      · have hky := HBN.out k hlt
        obtain ⟨b, o, rfl, hbs, x0⟩ := intsAt_at HA1.out k hky
        obtain ⟨z1, z2⟩ := HOK.out _ (List.getElem_mem hky)
        rw [List.drop_eq_getElem_cons hky] at hS2
        generalize ys[k] = x at *
        have HD := Lib.hid hS2; clear hS2
        have hb0 : decide ((k : Int) < n) = true := decide_eq_true (by omega)
        by_cases hx : x < 0
        · have HQ : Hid (r1 = 0 ∧ r2 = 1) := Lib.hid (by have := HD.out; rw [sumGo, if_pos hx] at this; injection this with h1 h2; exact ⟨h1, h2⟩)
          have g0 : decide (x < 0) = true := decide_eq_true hx
          go_wp2_with fail
          go_round
          case rel => exact ⟨k + 1, N, 1, by omega, by go_num, rfl, rfl, hN0, hN1, hNm, .inr ⟨by omega, HQ.out.1, HQ.out.2⟩⟩
          case measure => simp [intOf]; omega
        · have g0 : decide (x < 0) = false := decide_eq_false hx
          by_cases hm : most < N + x
          · have HQ : Hid (r1 = 0 ∧ r2 = 7) := Lib.hid (by have := HD.out; rw [sumGo, if_neg hx, if_pos hm] at this; injection this with h1 h2; exact ⟨h1, h2⟩)
            by_cases hmn : most < 0
            · have g1 : decide (most < 0) = true := decide_eq_true hmn
              go_wp2_with fail
              go_round
              case rel => exact ⟨k + 1, N, 7, by omega, by go_num, rfl, rfl, hN0, hN1, hNm, .inr ⟨by omega, HQ.out.1, HQ.out.2⟩⟩
              case measure => simp [intOf]; omega
            · have g1 : decide (most < 0) = false := decide_eq_false hmn
              have g2 : decide (most < N) = false := decide_eq_false (by omega)
              have g3 : IntKind.i64.wrap (most - N) = most - N := IntWalk.i64_in _ (by omega)
              have g4 : decide (most - N < x) = true := decide_eq_true (by omega)
              go_wp2_with fail
              go_round
              case rel => exact ⟨k + 1, N, 7, by omega, by go_num, rfl, rfl, hN0, hN1, hNm, .inr ⟨by omega, HQ.out.1, HQ.out.2⟩⟩
              case measure => simp [intOf]; omega
          · have SE : Hid ((r1, r2) = sumGo most (N + x) (ys.drop (k + 1))) := Lib.hid (by rw [HD.out, sumGo, if_neg hx, if_neg hm])
            have g1 : decide (most < 0) = false := decide_eq_false (by omega)
            have g2 : decide (most < N) = false := decide_eq_false (by omega)
            have g3 : IntKind.i64.wrap (most - N) = most - N := IntWalk.i64_in _ (by omega)
            have g4 : decide (most - N < x) = false := decide_eq_false (by omega)
            have g5 : IntKind.i64.wrap (N + x) = N + x := IntWalk.i64_in _ (by omega)
            go_wp2_with fail
            go_round
            case rel => exact ⟨k + 1, N + x, 0, by omega, by go_num, rfl, rfl, by omega, by omega, .inr (by omega), .inl ⟨rfl, SE.out⟩⟩
            case measure => simp [intOf]; omega
      · obtain rfl : k = n := by omega
        rw [List.drop_of_length_le (by have := HNN.out; omega)] at hS2
        obtain ⟨h1, h2⟩ : r1 = N ∧ r2 = 0 := by
          have : (r1, r2) = (N, 0) := hS2
          injection this with h1 h2; exact ⟨h1, h2⟩
        subst h1 h2
        clear hS2
        have hb0 : decide ((k : Int) < k) = false := by simp
        go_wp2_with fail
        go_ret
        exact ⟨by simp, HB.out⟩
    · obtain ⟨h1, h2⟩ : r1 = 0 ∧ r2 = B := by rcases hS.out with h | h; exact absurd h.1 hB; exact h.2
      subst h1 h2
      have g1 : (r2 == 0) = false := by rw [beq_eq_false_iff_ne]; exact hB
      have g2 : (r2 != 0) = true := by simp [hB]
      clear hS
      by_cases hlt : k < n
      · have hb0 : decide ((k : Int) < n) = true := decide_eq_true (by omega)
        go_wp2_with fail
        go_ret
        exact ⟨by simp, HB.out⟩
      · have hb0 : decide ((k : Int) < n) = false := decide_eq_false (by omega)
        go_wp2_with fail
        go_ret
        exact ⟨by simp, HB.out⟩

end Go.Proofs.YthhpijmkhhdhhaaDoor
