/- Digits of a number to a base: plain laws. -/
import Derived.Test.YthhpijmkhhdhhaaDoorNum
namespace Go.Proofs.YthhpijmkhhdhhaaDoor
open Go.RowKit
set_option linter.unusedVariables false
set_option linter.unusedSimpArgs false

/-- A digit. -/
def dgB (n : Nat) : UInt8 := if n < 10 then (48 + n).toUInt8 else (87 + n).toUInt8
def digGo (b : Nat) : Nat → Nat → List UInt8
  | 0, n => [dgB n]
  | k + 1, n => if n < b then [dgB n] else digGo b k (n / b) ++ [dgB (n % b)]
/-- The digits of n to the base b. -/
def digL (b n : Nat) : List UInt8 := digGo b n n

theorem digGo_fuel (b : Nat) (hb : 2 ≤ b) : ∀ (k n k' : Nat), n ≤ k → n ≤ k' → digGo b k n = digGo b k' n := by
  intro k
  induction k with
  | zero =>
    intro n k' h h'
    obtain rfl : n = 0 := by omega
    cases k' with
    | zero => rfl
    | succ k' => rw [digGo, digGo, if_pos (by omega)]
  | succ k ih =>
    intro n k' h h'
    cases k' with
    | zero =>
      obtain rfl : n = 0 := by omega
      rw [digGo, digGo, if_pos (by omega)]
    | succ k' =>
      rw [digGo, digGo]
      by_cases hn : n < b
      · rw [if_pos hn, if_pos hn]
      · have hlt : n / b < n := Nat.div_lt_self (by omega) (by omega)
        rw [if_neg hn, if_neg hn, ih (n / b) k' (by omega) (by omega)]

theorem digL_small {b n : Nat} (h : n < b) : digL b n = [dgB n] := by
  unfold digL
  cases n with
  | zero => rfl
  | succ n => rw [digGo, if_pos h]
theorem digL_step {b n : Nat} (hb : 2 ≤ b) (h : b ≤ n) : digL b n = digL b (n / b) ++ [dgB (n % b)] := by
  unfold digL
  cases n with
  | zero => omega
  | succ n =>
    have hlt : (n + 1) / b < n + 1 := Nat.div_lt_self (by omega) (by omega)
    rw [digGo, if_neg (by omega), digGo_fuel b hb n ((n + 1) / b) ((n + 1) / b) (by omega) (Nat.le_refl _)]
theorem digL_push {b n d : Nat} (hb : 2 ≤ b) (hn : 0 < n) (hd : d < b) : digL b (n * b + d) = digL b n ++ [dgB d] := by
  have h1 : b ≤ n * b + d := by
    have := Nat.le_mul_of_pos_left b hn
    omega
  have h2 : (n * b + d) / b = n := by
    rw [Nat.mul_comm, Nat.mul_add_div (by omega), Nat.div_eq_of_lt hd, Nat.add_zero]
  have h3 : (n * b + d) % b = d := by rw [Nat.mul_comm, Nat.mul_add_mod, Nat.mod_eq_of_lt hd]
  rw [digL_step hb h1, h2, h3]

theorem digL_ind (b : Nat) (hb : 2 ≤ b) (p : Nat → Prop) (h0 : ∀ n, n < b → p n) (h1 : ∀ n d, 0 < n → d < b → p n → p (n * b + d)) : ∀ n, p n := by
  intro n
  induction n using Nat.strongRecOn with
  | ind n ih =>
    by_cases h : n < b
    · exact h0 n h
    · have e : n = n / b * b + n % b := by rw [Nat.mul_comm]; exact (Nat.div_add_mod n b).symm
      rw [e]
      exact h1 _ _ (Nat.div_pos (by omega) (by omega)) (Nat.mod_lt _ (by omega)) (ih _ (Nat.div_lt_self (by omega) (by omega)))

theorem dgB_fin : ∀ k : Fin 16, bHex ((dgB k.val).toNat : Int) = true ∧ hexV ((dgB k.val).toNat : Int) = (k.val : Int) ∧ (k.val < 10 → bDigit ((dgB k.val).toNat : Int) = true) ∧ ((dgB k.val).toNat = 48 → k.val = 0) := by decide +kernel
theorem dgB_hex {k : Nat} (h : k < 16) : bHex ((dgB k).toNat : Int) = true := (dgB_fin ⟨k, h⟩).1
theorem dgB_v {k : Nat} (h : k < 16) : hexV ((dgB k).toNat : Int) = (k : Int) := (dgB_fin ⟨k, h⟩).2.1
theorem dgB_dig {k : Nat} (h : k < 10) : bDigit ((dgB k).toNat : Int) = true := (dgB_fin ⟨k, by omega⟩).2.2.1 h
theorem dgB_48 {k : Nat} (h : k < 16) (e : (dgB k).toNat = 48) : k = 0 := (dgB_fin ⟨k, h⟩).2.2.2 e
theorem dgB_lt_fin : ∀ (j k : Fin 16), j.val < k.val → (dgB j.val) < (dgB k.val) := by decide +kernel
theorem dgB_lt {j k : Nat} (hk : k < 16) (h : j < k) : dgB j < dgB k := dgB_lt_fin ⟨j, by omega⟩ ⟨k, hk⟩ h

theorem digL_num {b : Nat} (hb : 2 ≤ b) (hb2 : b ≤ 16) (n : Nat) : numL (b : Int) (digL b n) = (n : Int) := by
  refine digL_ind b hb (fun n => numL (b : Int) (digL b n) = (n : Int)) ?_ ?_ n
  · intro n h
    rw [digL_small h]
    show (0 : Int) * (b : Int) + hexV ((dgB n).toNat : Int) = n
    rw [dgB_v (by omega)]; omega
  · intro n d hn hd ih
    rw [digL_push hb hn hd, numL_snoc, ih, dgB_v (by omega)]
    simp

theorem digL_hex {b : Nat} (hb : 2 ≤ b) (hb2 : b ≤ 16) (n : Nat) : allB bHex (digL b n) = true := by
  refine digL_ind b hb (fun n => allB bHex (digL b n) = true) ?_ ?_ n
  · intro n h
    rw [digL_small h]
    show (bHex ((dgB n).toNat : Int) && true) = true
    rw [dgB_hex (by omega)]; rfl
  · intro n d hn hd ih
    rw [digL_push hb hn hd, allB_append, ih]
    show (true && (bHex ((dgB d).toNat : Int) && true)) = true
    rw [dgB_hex (by omega)]; rfl
theorem digL_dec (n : Nat) : allB bDigit (digL 10 n) = true := by
  refine digL_ind 10 (by omega) (fun n => allB bDigit (digL 10 n) = true) ?_ ?_ n
  · intro n h
    rw [digL_small h]
    show (bDigit ((dgB n).toNat : Int) && true) = true
    rw [dgB_dig (by omega)]; rfl
  · intro n d hn hd ih
    rw [digL_push (by omega) hn hd, allB_append, ih]
    show (true && (bDigit ((dgB d).toNat : Int) && true)) = true
    rw [dgB_dig (by omega)]; rfl

theorem digL_ne (b n : Nat) : digL b n ≠ [] := by
  unfold digL
  cases n with
  | zero => simp [digGo]
  | succ n => rw [digGo]; split <;> simp
theorem digL_ne' (b n : Nat) : (digL b n).isEmpty = false := by
  cases h : digL b n with
  | nil => exact absurd h (digL_ne b n)
  | cons => rfl
theorem digL_pos (b n : Nat) : 0 < (digL b n).length := List.length_pos_iff.2 (digL_ne b n)

/-- Fewer than k digits below b to the k. -/
theorem digL_len {b : Nat} (hb : 2 ≤ b) : ∀ (k n : Nat), 0 < k → n < b ^ k → (digL b n).length ≤ k := by
  intro k
  induction k with
  | zero => intro n h; omega
  | succ k ih =>
    intro n _ h
    by_cases hn : n < b
    · rw [digL_small hn]; simp
    · rw [digL_step hb (by omega), List.length_append, List.length_singleton]
      by_cases hk : k = 0
      · subst hk; simp at h; omega
      · have h2 : n / b < b ^ k := by
          rw [Nat.div_lt_iff_lt_mul (by omega)]
          rw [Nat.pow_succ] at h; exact h
        have := ih (n / b) (by omega) h2
        omega

theorem readV_dig (q : Int → Bool) (b : Nat) (hb : 2 ≤ b) (hb2 : b ≤ 16) (most : Int) (n : Nat) (h : allB q (digL b n) = true) : readV q (b : Int) most (digL b n) = (if (n : Int) ≤ most then (n : Int) else 0) ∧ readE q (b : Int) most (digL b n) = (if (n : Int) ≤ most then 0 else 7) := by
  unfold readV readE
  rw [digL_ne', h, digL_num hb hb2]
  exact ⟨rfl, rfl⟩

/-- Which texts are less: shorter ones, and of those as long the ones ahead. -/
def ltL : List UInt8 → List UInt8 → Bool
  | [], [] => false
  | [], _ :: _ => true
  | _ :: _, [] => false
  | a :: r, b :: s => decide (a < b) || (decide (a = b) && ltL r s)
def lessL (a b : List UInt8) : Bool := decide (a.length < b.length) || (decide (a.length = b.length) && ltL a b)

theorem ltL_irrefl : ∀ l : List UInt8, ltL l l = false
  | [] => rfl
  | a :: r => by
    rw [ltL, ltL_irrefl r]
    have h : ¬ a < a := by rw [UInt8.lt_iff_toNat_lt]; omega
    simp [h]
theorem ltL_asymm : ∀ (a b : List UInt8), ltL a b = true → ltL b a = false
  | [], [], h => by simp [ltL] at h
  | [], _ :: _, _ => rfl
  | _ :: _, [], h => by simp [ltL] at h
  | a :: r, b :: s, h => by
    rw [ltL] at h ⊢
    simp only [Bool.or_eq_true, Bool.and_eq_true, decide_eq_true_eq] at h
    rcases h with h | ⟨rfl, h⟩
    · have h1 : ¬ b < a := by rw [UInt8.lt_iff_toNat_lt] at *; omega
      have h2 : b ≠ a := by rintro rfl; rw [UInt8.lt_iff_toNat_lt] at h; omega
      simp [h1, h2]
    · rw [ltL_asymm r s h]
      have h1 : ¬ a < a := by rw [UInt8.lt_iff_toNat_lt]; omega
      simp [h1]
theorem ltL_app : ∀ (a b : List UInt8), a.length = b.length → ltL a b = true → ∀ x y, ltL (a ++ x) (b ++ y) = true
  | [], [], _, h, _, _ => by simp [ltL] at h
  | [], _ :: _, hl, _, _, _ => by simp at hl
  | _ :: _, [], hl, _, _, _ => by simp at hl
  | a :: r, b :: s, hl, h, x, y => by
    rw [ltL] at h
    rw [List.cons_append, List.cons_append, ltL]
    simp only [Bool.or_eq_true, Bool.and_eq_true, decide_eq_true_eq] at h ⊢
    rcases h with h | ⟨h1, h⟩
    · exact .inl h
    · exact .inr ⟨h1, ltL_app r s (by simpa using hl) h x y⟩
theorem ltL_same : ∀ (p x y : List UInt8), ltL (p ++ x) (p ++ y) = ltL x y
  | [], x, y => rfl
  | a :: p, x, y => by
    rw [List.cons_append, List.cons_append, ltL, ltL_same p x y]
    have h : ¬ a < a := by rw [UInt8.lt_iff_toNat_lt]; omega
    simp [h]

theorem lessL_irrefl (l : List UInt8) : lessL l l = false := by unfold lessL; rw [ltL_irrefl]; simp
theorem lessL_asymm {a b : List UInt8} (h : lessL a b = true) : lessL b a = false := by
  unfold lessL at *
  simp only [Bool.or_eq_true, Bool.and_eq_true, decide_eq_true_eq] at h
  rcases h with h | ⟨h, h2⟩
  · have h1 : ¬ b.length < a.length := by omega
    have h2 : ¬ b.length = a.length := by omega
    simp [h1, h2]
  · rw [ltL_asymm _ _ h2]
    have h1 : ¬ b.length < a.length := by omega
    simp [h1]

theorem digL_less {b : Nat} (hb : 2 ≤ b) (hb2 : b ≤ 16) (c : Nat) : ∀ a, a < c → lessL (digL b a) (digL b c) = true := by
  refine digL_ind b hb (fun c => ∀ a, a < c → lessL (digL b a) (digL b c) = true) ?_ ?_ c
  · intro c hc a ha
    rw [digL_small hc, digL_small (show a < b by omega)]
    have h := dgB_lt (j := a) (k := c) (by omega) ha
    unfold lessL
    simp [ltL, h]
  · intro n d hn hd ih a ha
    rw [digL_push hb hn hd]
    by_cases hab : a < b
    · rw [digL_small hab]
      have h1 := digL_pos b n
      unfold lessL
      rw [List.length_append]
      have : ([dgB a] : List UInt8).length < (digL b n).length + [dgB d].length := by simp; omega
      rw [decide_eq_true this]; rfl
    · rw [digL_step hb (show b ≤ a by omega)]
      by_cases hq : a / b < n
      · have h1 := ih (a / b) hq
        unfold lessL at h1 ⊢
        simp only [Bool.or_eq_true, Bool.and_eq_true, decide_eq_true_eq] at h1 ⊢
        rw [List.length_append, List.length_append, List.length_singleton, List.length_singleton]
        rcases h1 with h1 | ⟨h1, h2⟩
        · left; omega
        · exact .inr ⟨by omega, ltL_app _ _ h1 h2 _ _⟩
      · have hle : a / b ≤ n := by
          rw [← Nat.lt_succ_iff, Nat.div_lt_iff_lt_mul (by omega), Nat.succ_mul]; omega
        have he : a / b = n := by omega
        have hm : a % b < d := by
          have e : a = a / b * b + a % b := by rw [Nat.mul_comm]; exact (Nat.div_add_mod a b).symm
          rw [he] at e; omega
        rw [he]
        have h := dgB_lt (j := a % b) (k := d) (by omega) hm
        unfold lessL
        rw [ltL_same]
        simp [ltL, h]

theorem digL_lessL {b : Nat} (hb : 2 ≤ b) (hb2 : b ≤ 16) (a c : Nat) : lessL (digL b a) (digL b c) = decide (a < c) := by
  by_cases h : a < c
  · rw [digL_less hb hb2 c a h, decide_eq_true h]
  · rw [decide_eq_false h]
    by_cases he : a = c
    · subst he; exact lessL_irrefl _
    · exact lessL_asymm (digL_less hb hb2 a c (by omega))

/-- A number's digits without noughts ahead: nothing is added to 0. -/
def plainL (b n : Nat) : List UInt8 := if n = 0 then [] else digL b n
theorem plainL_push {b : Nat} (hb : 2 ≤ b) (n d : Nat) (hd : d < b) (h : 0 < n ∨ 0 < d) : plainL b n ++ digL b d = plainL b (n * b + d) := by
  have e : ¬ n * b + d = 0 := by
    rcases h with h | h
    · have := Nat.le_mul_of_pos_left b h; omega
    · omega
  unfold plainL
  rw [if_neg e]
  by_cases h0 : n = 0
  · subst h0; simp
  · rw [if_neg h0, digL_push hb (by omega) hd, digL_small hd]
theorem digL_zero (b : Nat) : digL b 0 = [48] := by unfold digL; rfl
theorem plainL_dig (b n : Nat) : (if plainL b n = [] then [48] else plainL b n) = digL b n := by
  unfold plainL
  by_cases h : n = 0
  · subst h; simp [digL_zero]
  · rw [if_neg h, if_neg (digL_ne b n)]

/-- A text is a number's digits just where it is a number's without noughts ahead. -/
theorem digL_head {b : Nat} (hb : 2 ≤ b) (hb2 : b ≤ 16) (n : Nat) : ∀ r, digL b n = 48 :: r → n = 0 ∧ r = [] := by
  refine digL_ind b hb (fun n => ∀ r, digL b n = 48 :: r → n = 0 ∧ r = []) ?_ ?_ n
  · intro n h r e
    rw [digL_small h] at e
    injection e with e1 e2
    exact ⟨dgB_48 (by omega) (by rw [e1]; rfl), e2.symm⟩
  · intro n d hn hd ih r e
    rw [digL_push hb hn hd] at e
    cases hx : digL b n with
    | nil => exact absurd hx (digL_ne b n)
    | cons x y =>
      rw [hx, List.cons_append] at e
      injection e with e1 e2
      have := ih y (by rw [hx, e1])
      omega

end Go.Proofs.YthhpijmkhhdhhaaDoor
