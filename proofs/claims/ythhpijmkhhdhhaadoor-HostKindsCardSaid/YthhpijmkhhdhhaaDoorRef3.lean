/- The reference of layer 3: worth, Digits, Text, Less. -/
import Derived.Test.YthhpijmkhhdhhaaDoorDig
import Derived.Test.YthhpijmkhhdhhaaDoorRFold
import Derived.Deep.QuietTactic
import Derived.BigQuiet
import Derived.Deep.RegionHeld3
namespace Go.Proofs.YthhpijmkhhdhhaaDoor
open Go.RowKit
set_option linter.unusedVariables false
set_option linter.unusedSimpArgs false

def digS : ByteArray := ⟨#[48, 49, 50, 51, 52, 53, 54, 55, 56, 57, 97, 98, 99, 100, 101, 102]⟩
def digG : ByteArray := ⟨#[48, 49, 50, 51, 52, 53, 54, 55, 56, 57, 65, 66, 67, 68, 69, 70]⟩

/-- The first place at which a byte stands among the digits of a base; -1: there is none. -/
def worthV (n : Int) (base : Nat) : Int := if bHex n = true ∧ hexV n < base then hexV n else -1

theorem worth_hit : ∀ (k : Fin 16) (c : Fin 256), (((digS[k.val]'k.isLt).toNat : Int) = (c.val : Int) ∨ ((digG[k.val]'k.isLt).toNat : Int) = (c.val : Int)) → bHex (c.val : Int) = true ∧ hexV (c.val : Int) = (k.val : Int) := by decide +kernel
theorem worth_all : ∀ (c : Fin 256), bHex (c.val : Int) = true → ∃ k : Fin 16, hexV (c.val : Int) = (k.val : Int) ∧ (((digS[k.val]'k.isLt).toNat : Int) = (c.val : Int) ∨ ((digG[k.val]'k.isLt).toNat : Int) = (c.val : Int)) := by decide +kernel

theorem below_of_drewX {A : Nat} {w w1 : World} (h : Below A w.drew w1) : Below A w w1 := ⟨h.os, h.tape, h.output, h.size, h.block⟩

theorem digS_size : digS.size = 16 := rfl
theorem digG_size : digG.size = 16 := rfl

set_option maxRecDepth 100000 in
theorem rWorth_any (n : Int) (base : Nat) (w : World) (hb : base ≤ 16) (h0 : 0 ≤ n) (h1 : n ≤ 255) :
    Calls Tryd.prog 64 #[.int .u8 n, .int .i64 base] w fun e w' => e = .returned (.int .i64 (worthV n base)) ∧ w = w' := by
  obtain ⟨c, hc⟩ : ∃ c : Fin 256, (c.val : Int) = n := ⟨⟨n.toNat, by omega⟩, by show ((n.toNat : Nat) : Int) = n; omega⟩
  have hds := digS_size
  have hgs := digG_size
  have HC := Lib.hid hc; clear hc
  go_enter Tryd.func64, Tryd.ntmps64
  go_wp2_with fail
  rw [show (⟨#[48, 49, 50, 51, 52, 53, 54, 55, 56, 57, 97, 98, 99, 100, 101, 102]⟩ : ByteArray) = digS from rfl, show (⟨#[48, 49, 50, 51, 52, 53, 54, 55, 56, 57, 65, 66, 67, 68, 69, 70]⟩ : ByteArray) = digG from rfl]
  go_loop [7] (fun i => ∃ k : Nat, k ≤ base ∧ i = .int .i64 k ∧ Hid (∀ j (hj : j < 16), j < k → ¬ (((digS[j]'hj).toNat : Int) = n ∨ ((digG[j]'hj).toNat : Int) = n))) (fun i => base - (intOf i).toNat)
  case atStart => exact ⟨0, Nat.zero_le _, rfl, fun j _ h => by omega⟩
  case round =>
    obtain ⟨k, hk, rfl, hall⟩ := hrel
    by_cases hlt : k < base
    · have hk16 : k < 16 := by omega
      have hkS : k < digS.size := by rw [hds]; exact hk16
      have hkG : k < digG.size := by rw [hgs]; exact hk16
      by_cases hh : ((digS[k]'hk16).toNat : Int) = n ∨ ((digG[k]'hk16).toNat : Int) = n
      · have hw := worth_hit ⟨k, hk16⟩ c (by rw [HC.out]; exact hh)
        rw [HC.out] at hw
        have HV : Hid (worthV n base = k) := Lib.hid (by unfold worthV; rw [if_pos ⟨hw.1, by rw [hw.2]; show (k : Int) < base; omega⟩]; exact hw.2)
        clear hw
        by_cases h2 : ((digS[k]'hk16).toNat : Int) = n
        · have g1 : (((digS[k]'hkS).toNat : Int) == n) = true := by rw [beq_iff_eq]; exact h2
          have H2 := Lib.hid h2; clear h2 hh
          go_wp2_with fail
          go_ret
          exact ⟨ret_int HV.out.symm, rfl⟩
        · have g1 : (((digS[k]'hkS).toNat : Int) == n) = false := by rw [beq_eq_false_iff_ne]; exact h2
          have g2 : (((digG[k]'hkG).toNat : Int) == n) = true := by rw [beq_iff_eq]; exact hh.resolve_left h2
          clear h2 hh
          go_wp2_with fail
          go_ret
          exact ⟨ret_int HV.out.symm, rfl⟩
      · have HN : Hid (∀ j (hj : j < 16), j < k + 1 → ¬ (((digS[j]'hj).toNat : Int) = n ∨ ((digG[j]'hj).toNat : Int) = n)) := Lib.hid (by
          intro j hj hjk
          by_cases e : j = k
          · subst e; exact hh
          · exact hall.out j hj (by omega))
        have g1 : (((digS[k]'hkS).toNat : Int) == n) = false := by rw [beq_eq_false_iff_ne]; exact fun e => hh (.inl e)
        have g2 : (((digG[k]'hkG).toNat : Int) == n) = false := by rw [beq_eq_false_iff_ne]; exact fun e => hh (.inr e)
        clear hh
        go_wp2_with fail
        go_round
        case rel => exact ⟨k + 1, by omega, by go_num, HN.out⟩
        case measure => simp [intOf]; omega
    · obtain rfl : k = base := by omega
      have HV : Hid (worthV n k = -1) := Lib.hid (by
        unfold worthV
        rw [if_neg]
        rintro ⟨hx, hv⟩
        obtain ⟨j, h2, h3⟩ := worth_all c (by rw [HC.out]; exact hx)
        rw [HC.out] at h2 h3
        rw [h2] at hv
        exact hall.out j.val j.isLt (by omega) h3)
      go_wp2_with fail
      go_ret
      exact ⟨ret_int HV.out.symm, rfl⟩

theorem digS_cut : ∀ k : Fin 16, digS.extract k.val (k.val + 1) = ⟨#[dgB k.val]⟩ := by
  intro k
  rw [extract_one digS k.val (by show k.val < 16; exact k.isLt)]
  have h : ∀ k : Fin 16, digS[k.val]'k.isLt = dgB k.val := by decide +kernel
  exact congrArg (fun x => (⟨#[x]⟩ : ByteArray)) (h k)
theorem digS_cut1 (k : Nat) (h : k < 16) : digS.extract k (k + 1) = ⟨#[dgB k]⟩ := digS_cut ⟨k, h⟩

set_option maxRecDepth 100000 in
theorem rDigits10_any : ∀ (N n : Nat) (w : World), n ≤ N → n ≤ 9223372036854775807 →
    Calls Tryd.prog 63 #[.int .i64 n, .int .i64 10] w fun e w' => e = .returned (.string ⟨(digL 10 n).toArray⟩) ∧ Below w.heap.size w w' := by
  have hds := digS_size
  have small : ∀ (n : Nat) (w : World), n < 10 → Calls Tryd.prog 63 #[.int .i64 n, .int .i64 10] w fun e w' => e = .returned (.string ⟨(digL 10 n).toArray⟩) ∧ Below w.heap.size w w' := by
    intro n w hn
    have hc := digS_cut1 n (by omega)
    have HV : Hid ((⟨(digL 10 n).toArray⟩ : ByteArray) = ⟨#[dgB n]⟩) := Lib.hid (by rw [digL_small hn])
    have HC := Lib.hid hc; clear hc
    have g1 : (n : Int) < 10 := by omega
    have g2 : (n : Int) + 1 ≤ 16 := by omega
    go_enter Tryd.func63, Tryd.ntmps63
    rw [show (⟨#[48, 49, 50, 51, 52, 53, 54, 55, 56, 57, 97, 98, 99, 100, 101, 102]⟩ : ByteArray) = digS from rfl]
    go_wp2_with fail
    go_ret
    exact ⟨ret_str (by rw [HV.out, ← HC.out]), Below.refl _ _⟩
  intro N
  induction N with
  | zero =>
    intro n w hn hm
    exact small n w (by omega)
  | succ N ih =>
    intro n w hn hm
    by_cases hlt : n < 10
    · exact small n w hlt
    · have IH := Lib.hid (fun w => ih (n / 10) w (by omega) (by omega))
      have hmod : n % 10 < 10 := Nat.mod_lt _ (by omega)
      have hc := digS_cut1 (n % 10) (by omega)
      have hV : (⟨(digL 10 n).toArray⟩ : ByteArray) = ⟨(digL 10 (n / 10)).toArray⟩ ++ ⟨#[dgB (n % 10)]⟩ := by
        rw [digL_step (by omega) (by omega)]
        apply ByteArray.ext; rw [ByteArray.data_append]; simp
      have hlen : (digL 10 (n / 10)).length ≤ 64 := digL_len (by omega) 64 _ (by omega) (by
        have h3 : (9223372036854775807 : Nat) < 10 ^ 64 := by decide
        omega)
      have HV := Lib.hid hV; clear hV
      have HC := Lib.hid hc; clear hc ih small
      obtain ⟨D, hD⟩ : ∃ D : ByteArray, ⟨(digL 10 (n / 10)).toArray⟩ = D := ⟨_, rfl⟩
      have hDs : D.size ≤ 64 := by rw [← hD, Lib.size_eq]; exact hlen
      rw [hD] at IH HV
      clear hD hlen
      have g1 : ¬ (n : Int) < 10 := by omega
      obtain ⟨q, hq⟩ : ∃ q, n / 10 = q := ⟨_, rfl⟩
      obtain ⟨r, hr⟩ : ∃ r, n % 10 = r := ⟨_, rfl⟩
      have e3 : ((n : Int)) / 10 = (q : Int) := by omega
      have e4 : ((n : Int)) % 10 = (r : Int) := by omega
      have e1 : ((n : Int)).tdiv 10 = (q : Int) := by rw [Int.tdiv_eq_ediv_of_nonneg (by omega)]; exact e3
      have e2 : ((n : Int)).tmod 10 = (r : Int) := by rw [Int.tmod_eq_emod_of_nonneg (by omega)]; exact e4
      rw [hq] at IH
      rw [hr] at HC HV hmod
      have hqn : q ≤ n := by omega
      have g3 : (r : Int) + 1 ≤ 16 := by omega
      have g4 : (r : Int) ≤ (r : Int) + 1 := by omega
      have w1 : IntKind.i64.wrap (q : Int) = q := IntWalk.i64_in _ (by omega)
      have w2 : IntKind.i64.wrap (r : Int) = r := IntWalk.i64_in _ (by omega)
      have w3 : IntKind.i64.wrap ((r : Int) + 1) = (r : Int) + 1 := IntWalk.i64_in _ (by omega)
      have w5 : (0 : Int) ≤ (r : Int) := by omega
      have w6 : ((r : Int) + 1).toNat = r + 1 := by omega
      obtain ⟨E, hE⟩ : ∃ E, digS.extract r (r + 1) = E := ⟨_, rfl⟩
      have HCE : Hid (E = ⟨#[dgB r]⟩) := Lib.hid (by rw [← hE]; exact HC.out)
      have hEs : E.size ≤ 1 := by rw [HCE.out]; exact Nat.le_refl 1
      have g7 : ¬ 9223372036854775807 < D.size + E.size := by omega
      have g8 : ¬ (9223372036854775807 : Int) < (D.size : Int) + (E.size : Int) := by omega
      clear hq hr HC
      go_enter Tryd.func63, Tryd.ntmps63
      rw [show (⟨#[48, 49, 50, 51, 52, 53, 54, 55, 56, 57, 97, 98, 99, 100, 101, 102]⟩ : ByteArray) = digS from rfl]
      go_wp2_with fail
      go_region_held3 (fun _ => True) (first | go_keep | trivial) ((go_at_call 63; refine (IH.out _).mono ?_; rintro e w2 ⟨rfl, hb2⟩))
      have H2 := Lib.hid (below_of_drewX hb2); clear hb2
      go_wp2_with fail
      go_ret
      exact ⟨ret_str (by rw [HV.out, ← HCE.out]), H2.out⟩

set_option maxRecDepth 100000 in
theorem rDigits16_any : ∀ (N n : Nat) (w : World), n ≤ N → n ≤ 9223372036854775807 →
    Calls Tryd.prog 63 #[.int .i64 n, .int .i64 16] w fun e w' => e = .returned (.string ⟨(digL 16 n).toArray⟩) ∧ Below w.heap.size w w' := by
  have hds := digS_size
  have small : ∀ (n : Nat) (w : World), n < 16 → Calls Tryd.prog 63 #[.int .i64 n, .int .i64 16] w fun e w' => e = .returned (.string ⟨(digL 16 n).toArray⟩) ∧ Below w.heap.size w w' := by
    intro n w hn
    have hc := digS_cut1 n (by omega)
    have HV : Hid ((⟨(digL 16 n).toArray⟩ : ByteArray) = ⟨#[dgB n]⟩) := Lib.hid (by rw [digL_small hn])
    have HC := Lib.hid hc; clear hc
    have g1 : (n : Int) < 16 := by omega
    have g2 : (n : Int) + 1 ≤ 16 := by omega
    go_enter Tryd.func63, Tryd.ntmps63
    rw [show (⟨#[48, 49, 50, 51, 52, 53, 54, 55, 56, 57, 97, 98, 99, 100, 101, 102]⟩ : ByteArray) = digS from rfl]
    go_wp2_with fail
    go_ret
    exact ⟨ret_str (by rw [HV.out, ← HC.out]), Below.refl _ _⟩
  intro N
  induction N with
  | zero =>
    intro n w hn hm
    exact small n w (by omega)
  | succ N ih =>
    intro n w hn hm
    by_cases hlt : n < 16
    · exact small n w hlt
    · have IH := Lib.hid (fun w => ih (n / 16) w (by omega) (by omega))
      have hmod : n % 16 < 16 := Nat.mod_lt _ (by omega)
      have hc := digS_cut1 (n % 16) (by omega)
      have hV : (⟨(digL 16 n).toArray⟩ : ByteArray) = ⟨(digL 16 (n / 16)).toArray⟩ ++ ⟨#[dgB (n % 16)]⟩ := by
        rw [digL_step (by omega) (by omega)]
        apply ByteArray.ext; rw [ByteArray.data_append]; simp
      have hlen : (digL 16 (n / 16)).length ≤ 64 := digL_len (by omega) 64 _ (by omega) (by
        have h3 : (9223372036854775807 : Nat) < 16 ^ 64 := by decide
        omega)
      have HV := Lib.hid hV; clear hV
      have HC := Lib.hid hc; clear hc ih small
      obtain ⟨D, hD⟩ : ∃ D : ByteArray, ⟨(digL 16 (n / 16)).toArray⟩ = D := ⟨_, rfl⟩
      have hDs : D.size ≤ 64 := by rw [← hD, Lib.size_eq]; exact hlen
      rw [hD] at IH HV
      clear hD hlen
      have g1 : ¬ (n : Int) < 16 := by omega
      obtain ⟨q, hq⟩ : ∃ q, n / 16 = q := ⟨_, rfl⟩
      obtain ⟨r, hr⟩ : ∃ r, n % 16 = r := ⟨_, rfl⟩
      have e3 : ((n : Int)) / 16 = (q : Int) := by omega
      have e4 : ((n : Int)) % 16 = (r : Int) := by omega
      have e1 : ((n : Int)).tdiv 16 = (q : Int) := by rw [Int.tdiv_eq_ediv_of_nonneg (by omega)]; exact e3
      have e2 : ((n : Int)).tmod 16 = (r : Int) := by rw [Int.tmod_eq_emod_of_nonneg (by omega)]; exact e4
      rw [hq] at IH
      rw [hr] at HC HV hmod
      have hqn : q ≤ n := by omega
      have g3 : (r : Int) + 1 ≤ 16 := by omega
      have g4 : (r : Int) ≤ (r : Int) + 1 := by omega
      have w1 : IntKind.i64.wrap (q : Int) = q := IntWalk.i64_in _ (by omega)
      have w2 : IntKind.i64.wrap (r : Int) = r := IntWalk.i64_in _ (by omega)
      have w3 : IntKind.i64.wrap ((r : Int) + 1) = (r : Int) + 1 := IntWalk.i64_in _ (by omega)
      have w5 : (0 : Int) ≤ (r : Int) := by omega
      have w6 : ((r : Int) + 1).toNat = r + 1 := by omega
      obtain ⟨E, hE⟩ : ∃ E, digS.extract r (r + 1) = E := ⟨_, rfl⟩
      have HCE : Hid (E = ⟨#[dgB r]⟩) := Lib.hid (by rw [← hE]; exact HC.out)
      have hEs : E.size ≤ 1 := by rw [HCE.out]; exact Nat.le_refl 1
      have g7 : ¬ 9223372036854775807 < D.size + E.size := by omega
      have g8 : ¬ (9223372036854775807 : Int) < (D.size : Int) + (E.size : Int) := by omega
      clear hq hr HC
      go_enter Tryd.func63, Tryd.ntmps63
      rw [show (⟨#[48, 49, 50, 51, 52, 53, 54, 55, 56, 57, 97, 98, 99, 100, 101, 102]⟩ : ByteArray) = digS from rfl]
      go_wp2_with fail
      go_region_held3 (fun _ => True) (first | go_keep | trivial) ((go_at_call 63; refine (IH.out _).mono ?_; rintro e w2 ⟨rfl, hb2⟩))
      have H2 := Lib.hid (below_of_drewX hb2); clear hb2
      go_wp2_with fail
      go_ret
      exact ⟨ret_str (by rw [HV.out, ← HCE.out]), H2.out⟩


theorem rDigits_at (b : Nat) (hb : b = 10 ∨ b = 16) (n : Nat) (w : World) (hn : n ≤ 9223372036854775807) :
    Calls Tryd.prog 63 #[.int .i64 n, .int .i64 b] w fun e w' => e = .returned (.string ⟨(digL b n).toArray⟩) ∧ Below w.heap.size w w' := by
  rcases hb with rfl | rfl
  · exact rDigits10_any n n w (Nat.le_refl _) hn
  · exact rDigits16_any n n w (Nat.le_refl _) hn

/-- A number's text: of one below 0 nothing. -/
def textB (b : Nat) (n : Int) : List UInt8 := if n < 0 then [] else digL b n.toNat

theorem rText3_any (b : Nat) (hb : b = 10 ∨ b = 16) (n : Int) (w : World) (h1 : n ≤ 9223372036854775807) :
    Calls Tryd.prog 22 #[.int .i64 n, .int .i64 b] w fun e w' => e = .returned (.string ⟨(textB b n).toArray⟩) ∧ Below w.heap.size w w' := by
  by_cases h : n < 0
  · have HV : Hid (textB b n = []) := Lib.hid (by unfold textB; rw [if_pos h])
    go_enter Tryd.func22, Tryd.ntmps22
    go_wp2_with fail
    go_ret
    rw [HV.out]
    exact ⟨rfl, Below.refl _ _⟩
  · obtain ⟨m, rfl⟩ : ∃ m : Nat, n = m := ⟨n.toNat, by omega⟩
    have HV : Hid (textB b m = digL b m) := Lib.hid (by unfold textB; rw [if_neg h]; rfl)
    have D := Lib.hid (fun w => rDigits_at b hb m w (by omega))
    go_enter Tryd.func22, Tryd.ntmps22
    go_wp2_with fail
    (refine (D.out _).mono ?_; rintro e w1 ⟨rfl, h1⟩; have H1 := Lib.hid h1; clear h1; go_wp2_with fail)
    go_ret
    rw [HV.out]
    exact ⟨rfl, H1.out⟩

theorem bytesLess_ltL : ∀ (a b : List UInt8), Op.bytesLess a b = ltL a b
  | [], [] => rfl
  | [], _ :: _ => rfl
  | _ :: _, [] => rfl
  | a :: r, b :: s => by
    rw [Op.bytesLess, ltL, bytesLess_ltL r s]
    rfl

theorem rLess_any (a b : ByteArray) (w : World) (ha : a.size ≤ 2000000) (hb : b.size ≤ 2000000) :
    Calls Tryd.prog 62 #[.string a, .string b] w fun e w' => e = .returned (.bool (lessL a.data.toList b.data.toList)) ∧ w = w' := by
  have hV : lessL a.data.toList b.data.toList = (decide (a.size < b.size) || (decide (a.size = b.size) && Op.bytesLess a.toList b.toList)) := by
    unfold lessL
    rw [bytesLess_ltL, Lib.toList_data, Lib.toList_data, ← Lib.size_eq, ← Lib.size_eq]
  have HV := Lib.hid hV; clear hV
  by_cases h1 : a.size < b.size
  · have g1 : (a.size : Int) < b.size := by omega
    go_enter Tryd.func62, Tryd.ntmps62
    go_wp2_with fail
    go_ret
    exact ⟨ret_bool (by rw [HV.out, decide_eq_true h1]; rfl), rfl⟩
  · by_cases h2 : a.size = b.size
    · have g1 : ¬ (a.size : Int) < b.size := by omega
      have g2 : ((a.size : Int) == b.size) = true := by rw [beq_iff_eq]; omega
      have H1 := Lib.hid h1; have H2 := Lib.hid h2; clear h1 h2
      go_enter Tryd.func62, Tryd.ntmps62
      go_wp2_with fail
      go_ret
      exact ⟨ret_bool (by rw [HV.out, decide_eq_false H1.out, decide_eq_true H2.out]; simp), rfl⟩
    · have g1 : ¬ (a.size : Int) < b.size := by omega
      have g2 : ((a.size : Int) == b.size) = false := by rw [beq_eq_false_iff_ne]; omega
      have H1 := Lib.hid h1; have H2 := Lib.hid h2; clear h1 h2
      go_enter Tryd.func62, Tryd.ntmps62
      go_wp2_with fail
      go_ret
      exact ⟨ret_bool (by rw [HV.out, decide_eq_false H1.out, decide_eq_false H2.out]; rfl), rfl⟩

end Go.Proofs.YthhpijmkhhdhhaaDoor
