/- Contracts of package numeral: worth, read, Decimal, Hex. -/
import Derived.Test.YthhpijmkhhdhhaaDoorAll
import Derived.IntWalk
namespace Go.Proofs.YthhpijmkhhdhhaaDoor
open Go.RowKit
set_option linter.unusedVariables false
set_option linter.unusedSimpArgs false

/-- What a digit is worth. -/
def hexV (n : Int) : Int := if bDigit n = true then n - 48 else bLow n - 87

theorem hexV_range (n : Int) (h : bHex n = true) : 0 ≤ hexV n ∧ hexV n ≤ 15 := by
  unfold hexV
  unfold bHex at h
  by_cases hd : bDigit n = true
  · rw [if_pos hd]
    unfold bDigit at hd
    simp at hd; omega
  · rw [if_neg hd]
    rw [Bool.not_eq_true] at hd
    rw [hd, Bool.false_or] at h
    simp at h; omega

/-- The number of digits. -/
def numL (base : Int) (l : List UInt8) : Int := l.foldl (fun a c => a * base + hexV (c.toNat : Int)) 0

theorem numL_snoc (base : Int) (l : List UInt8) (c : UInt8) : numL base (l ++ [c]) = numL base l * base + hexV (c.toNat : Int) := by unfold numL; rw [List.foldl_append]; rfl

theorem fold_ge (base : Int) (hb : 1 ≤ base) : ∀ (l : List UInt8) (a : Int), 0 ≤ a → (∀ c ∈ l, bHex (c.toNat : Int) = true) → a ≤ l.foldl (fun a c => a * base + hexV (c.toNat : Int)) a := by
  intro l
  induction l with
  | nil => intro a _ _; exact Int.le_refl _
  | cons c r ih =>
    intro a ha h
    have h0 := hexV_range _ (h c (List.mem_cons_self ..))
    have h1 : a ≤ a * base := by
      have := Int.mul_le_mul_of_nonneg_left hb ha
      rwa [Int.mul_one] at this
    have h2 := ih (a * base + hexV (c.toNat : Int)) (by omega) (fun x hx => h x (List.mem_cons_of_mem _ hx))
    rw [List.foldl_cons]
    omega

theorem numL_nonneg (base : Int) (hb : 1 ≤ base) (l : List UInt8) (h : ∀ c ∈ l, bHex (c.toNat : Int) = true) : 0 ≤ numL base l := fold_ge base hb l 0 (Int.le_refl _) h

theorem numL_mono (base : Int) (hb : 1 ≤ base) (a b : List UInt8) (h : ∀ c ∈ a ++ b, bHex (c.toNat : Int) = true) : numL base a ≤ numL base (a ++ b) := by
  unfold numL
  rw [List.foldl_append]
  exact fold_ge base hb b _ (numL_nonneg base hb a (fun c hc => h c (List.mem_append_left _ hc))) (fun c hc => h c (List.mem_append_right _ hc))

theorem worth_any (n : Int) (w : World) (h0 : 0 ≤ n) (h1 : n ≤ 255) (h : bHex n = true) :
    Calls Tryd.prog 92 #[.int .u8 n] w fun e w' => e = .returned (.int .i64 (hexV n)) ∧ w = w' := by
  by_cases hd : bDigit n = true
  · have hv : hexV n = n - 48 := by unfold hexV; rw [if_pos hd]
    have hr : 48 ≤ n ∧ n ≤ 57 := by unfold bDigit at hd; simp at hd; exact hd
    have hw : IntKind.u8.wrap (n - 48) = n - 48 := IntWalk.u8_in _ (by omega)
    have hw2 : IntKind.i64.wrap (n - 48) = n - 48 := IntWalk.i64_in _ (by omega)
    rw [hv]
    have HD := Lib.hid hd; clear hd hv h
    go_enter Tryd.func92, Tryd.ntmps92
    go_wp2_with fail
    refine (isDigit_any _ _).mono ?_
    rintro e w' ⟨rfl, rfl⟩
    rw [HD.out]
    go_wp2_with fail
    go_ret
    exact ⟨rfl, rfl⟩
  · have hv : hexV n = bLow n - 87 := by unfold hexV; rw [if_neg hd]
    rw [Bool.not_eq_true] at hd
    have hr : 97 ≤ bLow n ∧ bLow n ≤ 102 := by unfold bHex at h; rw [hd, Bool.false_or] at h; simp at h; exact h
    have HL := Lib.hid (fun w => lower_any n w h0 h1)
    obtain ⟨m, hm⟩ : ∃ m, bLow n = m := ⟨_, rfl⟩
    rw [hm] at hv hr HL
    have hw : IntKind.u8.wrap (m - 97) = m - 97 := IntWalk.u8_in _ (by omega)
    have hw2 : IntKind.i64.wrap (m - 97) = m - 97 := IntWalk.i64_in _ (by omega)
    have hw3 : IntKind.i64.wrap (m - 97 + 10) = m - 97 + 10 := IntWalk.i64_in _ (by omega)
    rw [hv]
    have HD := Lib.hid hd; clear hd hv h hm
    go_enter Tryd.func92, Tryd.ntmps92
    go_wp2_with fail
    refine (isDigit_any _ _).mono ?_
    rintro e w' ⟨rfl, rfl⟩
    rw [HD.out]
    go_wp2_with fail
    refine (HL.out _).mono ?_
    rintro e w' ⟨rfl, rfl⟩
    go_wp2_with fail
    go_ret
    exact ⟨ret_int (by omega), rfl⟩

/-- What read answers. -/
def readV (q : Int → Bool) (base most : Int) (l : List UInt8) : Int := if (!l.isEmpty && allB q l) = true then (if numL base l ≤ most then numL base l else 0) else 0
def readE (q : Int → Bool) (base most : Int) (l : List UInt8) : Int := if (!l.isEmpty && allB q l) = true then (if numL base l ≤ most then 0 else 7) else 2

theorem ret_ii {a b c d : Int} (h : a = c) (h2 : b = d) : Ending.returned (.tuple #[.int .i64 a, .int .i64 b]) = .returned (.tuple #[.int .i64 c, .int .i64 d]) := by rw [h, h2]

set_option maxRecDepth 100000 in
set_option maxHeartbeats 1000000 in
theorem read_any (k : Nat) (q : Int → Bool) (base most : Int) (s : ByteArray) (w : World) (hs : s.size ≤ 1000000) (hb : base = 10 ∨ base = 16) (hm0 : -9223372036854775808 ≤ most) (hm1 : most ≤ 9223372036854775807)
    (hq : ∀ n, q n = true → bHex n = true)
    (hk : ∀ args w', (callFunc k args).run Tryd.prog w' = .ok (.enter k args) w')
    (hcall : ∀ (n : Int) w', 0 ≤ n → n ≤ 255 → Calls Tryd.prog k #[.int .u8 n] w' fun e w'' => e = .returned (.bool (q n)) ∧ w' = w'') :
    Calls Tryd.prog 59 #[.string s, .int .i64 base, .int .i64 most, .func (.func k) #[] #[]] w fun e w' => e = .returned (.tuple #[.int .i64 (readV q base most s.data.toList), .int .i64 (readE q base most s.data.toList)]) ∧ Below w.heap.size w w' := by
  have hb1 : 1 ≤ base := by omega
  have hb16 : base ≤ 16 := by omega
  have hbne : ¬ base = 0 := by omega
  have hal : Below w.heap.size w (w.alloc (.cells #[.string s] 9)) := (Below.refl _ _).alloc (Nat.le_refl _) _
  have HAL := Lib.hid hal; clear hal
  have ALL := Lib.hid (all_one k q s (w.alloc (.cells #[.string s] 9)) w.heap.size 0 1 (by unfold maxLen; omega) hk hcall (by simp))
  have e0 := Lib.toList_data s
  by_cases h0 : s.toList = []
  · have h1 : s.toList.isEmpty = true := by simp [h0]
    have hd : s.data.toList = [] := by rw [← e0]; exact h0
    have HV : Hid (readV q base most s.data.toList = 0 ∧ readE q base most s.data.toList = 2) := Lib.hid (by rw [hd]; exact ⟨rfl, rfl⟩)
    clear h0 hd e0
    go_enter Tryd.func59, Tryd.ntmps59
    go_wp2_with fail
    go_ret2
    exact ⟨ret_ii HV.out.1.symm HV.out.2.symm, Below.refl _ _⟩
  · have h1 : s.toList.isEmpty = false := by simp [h0]
    have hne : (!s.data.toList.isEmpty) = true := by rw [← e0, h1]; rfl
    by_cases ha : allB q s.data.toList = true
    · rw [ha] at ALL
      have hhex : ∀ c ∈ s.data.toList, bHex (c.toNat : Int) = true := fun c hc => hq _ (by unfold allB at ha; exact List.all_eq_true.1 ha c hc)
      have HV : Hid (readV q base most s.data.toList = (if numL base s.data.toList ≤ most then numL base s.data.toList else 0) ∧ readE q base most s.data.toList = (if numL base s.data.toList ≤ most then 0 else 7)) :=
        Lib.hid (by unfold readV readE; rw [hne, ha]; exact ⟨rfl, rfl⟩)
      have HX := Lib.hid hhex; clear hhex
      clear h0 e0 ha hne hk hcall hq
      go_enter Tryd.func59, Tryd.ntmps59
      go_wp2_with fail
      refine ALL.out.mono ?_
      rintro e w1 ⟨rfl, hw1⟩
      have hb1w : Below w.heap.size w w1 := by rw [← hw1]; exact HAL.out
      have HB := Lib.hid hb1w; clear hb1w hw1 ALL HAL
      go_wp2_with fail
      go_loop [10, 11, 12, 24] (fun n _ _ i => ∃ (k : Nat) (N : Int), k ≤ s.size ∧ i = .int .i64 k ∧ n = .int .i64 N ∧ 0 ≤ N ∧ N ≤ 9223372036854775807 ∧ Hid (N = numL base (s.data.toList.take k))  ∧ (k = 0 ∨ N ≤ most)) (fun _ _ _ i => s.size - (intOf i).toNat)
      case atStart => exact ⟨0, 0, Nat.zero_le _, rfl, rfl, by omega, by omega, rfl, .inl rfl⟩
      case round =>
        obtain ⟨k, N, hk, rfl, rfl, hN0, hN1, hN, hNm⟩ := hrel
        by_cases hlt : k < s.size
        · have hmem : s[k] ∈ s.data.toList := by
            have : s.data.toList[k]'(by simpa using hlt) = s[k] := rfl
            rw [← this]; exact List.getElem_mem _
          have hx := HX.out _ hmem
          have hr := hexV_range _ hx
          have hsn : numL base (s.data.toList.take (k + 1)) = N * base + hexV (s[k].toNat : Int) := by rw [take_snoc s k hlt, numL_snoc, ← hN.out]
          have hle : numL base (s.data.toList.take (k + 1)) ≤ numL base s.data.toList := by
            have := numL_mono base hb1 (s.data.toList.take (k + 1)) (s.data.toList.drop (k + 1)) (by rw [List.take_append_drop]; exact HX.out)
            rwa [List.take_append_drop] at this
          have hx255 : (s[k].toNat : Int) ≤ 255 := by have := s[k].toNat_lt; omega
          have WO := Lib.hid (fun w => worth_any (s[k].toNat : Int) w (by omega) hx255 hx)
          obtain ⟨d, hd⟩ : ∃ d, hexV (s[k].toNat : Int) = d := ⟨_, rfl⟩
          rw [hd] at hr hsn WO
          have HSN := Lib.hid hsn; clear hsn hx hmem
          have HLE := Lib.hid hle; clear hle
          clear hd
          by_cases hfit : N * base + d ≤ most
          · have hNb : 0 ≤ N * base := Int.mul_nonneg hN0 (by omega)
            have g1 : decide (most < d) = false := decide_eq_false (by omega)
            have g2 : IntKind.i64.wrap (most - d) = most - d := IntWalk.i64_in _ (by omega)
            have g3 : N ≤ (most - d).tdiv base := by
              rw [Int.tdiv_eq_ediv_of_nonneg (by omega)]
              exact (Int.le_ediv_iff_mul_le (by omega)).2 (by omega)
            have g4 : (most - d).tdiv base ≤ most - d := by
              rw [Int.tdiv_eq_ediv_of_nonneg (by omega)]
              exact Int.ediv_le_self _ (by omega)
            have g5 : decide ((most - d).tdiv base < N) = false := decide_eq_false (by omega)
            have g6 : IntKind.i64.wrap ((most - d).tdiv base) = (most - d).tdiv base := IntWalk.i64_in _ (by omega)
            have g7 : IntKind.i64.wrap (N * base) = N * base := IntWalk.i64_in _ (by omega)
            have g8 : IntKind.i64.wrap (N * base + d) = N * base + d := IntWalk.i64_in _ (by omega)
            go_wp2_with fail
            refine (WO.out _).mono ?_
            rintro e w' ⟨rfl, rfl⟩
            go_wp2_with fail
            go_round
            case rel => exact ⟨k + 1, N * base + d, by omega, by go_num, rfl, by omega, by omega, HSN.out.symm, .inr hfit⟩
            case measure => simp [intOf]; omega
          · have hbig : ¬ numL base s.data.toList ≤ most := by have := HSN.out; have := HLE.out; omega
            have HR : Hid (readV q base most s.data.toList = 0 ∧ readE q base most s.data.toList = 7) := Lib.hid (by rw [HV.out.1, HV.out.2, if_neg hbig, if_neg hbig]; exact ⟨rfl, rfl⟩)
            clear hbig
            by_cases hdm : most < d
            · have g1 : decide (most < d) = true := decide_eq_true hdm
              go_wp2_with fail
              refine (WO.out _).mono ?_
              rintro e w' ⟨rfl, rfl⟩
              go_wp2_with fail
              go_ret2
              exact ⟨ret_ii HR.out.1.symm HR.out.2.symm, HB.out⟩
            · have g1 : decide (most < d) = false := decide_eq_false hdm
              have g2 : IntKind.i64.wrap (most - d) = most - d := IntWalk.i64_in _ (by omega)
              have g0 : 0 ≤ (most - d).tdiv base := by
                rw [Int.tdiv_eq_ediv_of_nonneg (by omega)]
                exact Int.ediv_nonneg (by omega) (by omega)
              have g3 : (most - d).tdiv base < N := by
                rw [Int.tdiv_eq_ediv_of_nonneg (by omega)]
                exact Int.ediv_lt_of_lt_mul (by omega) (by omega)
              have g5 : decide ((most - d).tdiv base < N) = true := decide_eq_true g3
              have g6 : IntKind.i64.wrap ((most - d).tdiv base) = (most - d).tdiv base := IntWalk.i64_in _ (by omega)
              go_wp2_with fail
              refine (WO.out _).mono ?_
              rintro e w' ⟨rfl, rfl⟩
              go_wp2_with fail
              go_ret2
              exact ⟨ret_ii HR.out.1.symm HR.out.2.symm, HB.out⟩
        · obtain rfl : k = s.size := by omega
          have hN2 := hN.out
          rw [List.take_of_length_le (by simp)] at hN2
          have hs0 : s.size ≠ 0 := by
            intro e
            have h2 := Lib.toList_data s
            have h3 := Lib.size_eq s
            have : s.toList = [] := by rw [h2]; exact List.length_eq_zero_iff.1 (by omega)
            rw [this] at h1; simp at h1
          have hfit : numL base s.data.toList ≤ most := by rw [← hN2]; rcases hNm with h | h; exact absurd h hs0; exact h
          have HR : Hid (readV q base most s.data.toList = N ∧ readE q base most s.data.toList = 0) := Lib.hid (by rw [HV.out.1, HV.out.2, if_pos hfit, if_pos hfit]; exact ⟨hN2.symm, rfl⟩)
          clear hN2 hs0 hfit
          go_wp2_with fail
          go_ret2
          exact ⟨ret_ii HR.out.1.symm HR.out.2.symm, HB.out⟩
    · rw [Bool.not_eq_true] at ha
      rw [ha] at ALL
      have HR : Hid (readV q base most s.data.toList = 0 ∧ readE q base most s.data.toList = 2) := Lib.hid (by unfold readV readE; rw [ha]; simp)
      clear h0 e0 ha hne hk hcall hq
      go_enter Tryd.func59, Tryd.ntmps59
      go_wp2_with fail
      refine ALL.out.mono ?_
      rintro e w1 ⟨rfl, hw1⟩
      have hb1w : Below w.heap.size w w1 := by rw [← hw1]; exact HAL.out
      have HB := Lib.hid hb1w; clear hb1w hw1 ALL HAL
      go_wp2_with fail
      go_ret2
      exact ⟨ret_ii HR.out.1.symm HR.out.2.symm, HB.out⟩

theorem digit_hex (n : Int) (h : bDigit n = true) : bHex n = true := by unfold bHex; rw [h]; rfl

theorem decimal_any (s : ByteArray) (most : Int) (w : World) (hs : s.size ≤ 1000000) (hm0 : -9223372036854775808 ≤ most) (hm1 : most ≤ 9223372036854775807) :
    Calls Tryd.prog 17 #[.string s, .int .i64 most] w fun e w' => e = .returned (.tuple #[.int .i64 (readV bDigit 10 most s.data.toList), .int .i64 (readE bDigit 10 most s.data.toList)]) ∧ Below w.heap.size w w' := by
  have R := Lib.hid (read_any _ bDigit 10 most s w hs (.inl rfl) hm0 hm1 digit_hex (enter_of_name Tryd.func60 (by kernel_rfl) (by kernel_rfl)) (fun n w' _ _ => isDigit_any n w'))
  go_enter Tryd.func17, Tryd.ntmps17
  go_wp2_with fail
  (refine (R.out).mono ?_; rintro e w1 ⟨rfl, h1⟩; have H1 := Lib.hid h1; clear h1; go_wp2_with fail)
  go_ret2
  exact ⟨rfl, H1.out⟩

theorem hex_any (s : ByteArray) (most : Int) (w : World) (hs : s.size ≤ 1000000) (hm0 : -9223372036854775808 ≤ most) (hm1 : most ≤ 9223372036854775807) :
    Calls Tryd.prog 19 #[.string s, .int .i64 most] w fun e w' => e = .returned (.tuple #[.int .i64 (readV bHex 16 most s.data.toList), .int .i64 (readE bHex 16 most s.data.toList)]) ∧ Below w.heap.size w w' := by
  have R := Lib.hid (read_any _ bHex 16 most s w hs (.inr rfl) hm0 hm1 (fun _ h => h) (enter_of_name Tryd.func65 (by kernel_rfl) (by kernel_rfl)) (fun n w' a b => isHex_any n w' a b))
  go_enter Tryd.func19, Tryd.ntmps19
  go_wp2_with fail
  (refine (R.out).mono ?_; rintro e w1 ⟨rfl, h1⟩; have H1 := Lib.hid h1; clear h1; go_wp2_with fail)
  go_ret2
  exact ⟨rfl, H1.out⟩

end Go.Proofs.YthhpijmkhhdhhaaDoor
