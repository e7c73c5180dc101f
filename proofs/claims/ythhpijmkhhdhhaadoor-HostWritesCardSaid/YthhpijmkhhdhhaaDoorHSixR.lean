/- The reference's Six. -/
import Derived.Test.YthhpijmkhhdhhaaDoorHSix
namespace Go.Proofs.YthhpijmkhhdhhaaDoor
open Go.RowKit
set_option linter.unusedVariables false
set_option linter.unusedSimpArgs false

theorem occ_two (s : ByteArray) (k : Nat) (h : k + 1 < s.size) : Lib.occAt s.data.toList [58, 58] k = (((s[k].toNat : Int) == 58) && ((s[k + 1].toNat : Int) == 58)) := by
  have e : ∀ c : UInt8, ((c.toNat : Int) == 58) = (c == 58) := by
    intro c
    rw [Bool.eq_iff_iff]
    simp only [beq_iff_eq]
    constructor
    · intro h; exact UInt8.toNat_inj.1 (by rw [show (58 : UInt8).toNat = 58 from rfl]; omega)
    · intro h; rw [h]; rfl
  rw [Lib.occAt_iff_take _ _ _ (by rw [← Lib.size_eq]; show k + 2 ≤ _; omega), drop_cons s k (by omega), drop_cons s (k + 1) h, e, e]
  simp only [List.length_cons, List.length_nil, List.take_succ_cons, List.take_zero]
  rw [Bool.eq_iff_iff]
  simp
theorem zeroT_len (a : List UInt8) : ∀ k, (zeroT a k).length ≤ a.length + 2 * k
  | 0 => by simp [zeroT]
  | k + 1 => by
    have ih := zeroT_len a k
    unfold zeroT
    split
    · simp; omega
    · simp; omega

set_option maxRecDepth 100000 in
set_option maxHeartbeats 2000000 in
theorem rSix_any (s : ByteArray) (w : World) (hs : s.size ≤ 10000) :
    Calls Tryd.prog 52 #[.string s] w fun e w' => e = .returned (.bool (sixL s.data.toList)) ∧ Below w.heap.size w w' := by
  go_enter Tryd.func52, Tryd.ntmps52
  go_wp2_with fail
  go_loop [3, 4, 5, 6] (fun i _ _ _ => ∃ k : Nat, k ≤ s.size ∧ i = .int .i64 k ∧ Hid (Lib.NoOcc s.data.toList [58, 58] k)) (fun i _ _ _ => s.size - (intOf i).toNat)
  case atStart => exact ⟨0, Nat.zero_le _, rfl, Lib.hid (Lib.NoOcc.zero _ _)⟩
  case round =>
    obtain ⟨k, hk, rfl, hno⟩ := hrel
    have g0 : IntKind.i64.wrap ((k : Int) + 1) = (k : Int) + 1 := IntWalk.i64_in _ (by omega)
    by_cases hlt : k + 1 < s.size
    · have g1 : (k : Int) + 1 < (s.size : Int) := by omega
      have g1' : k < s.size := by omega
      have hocc := occ_two s k hlt
      obtain ⟨p, hp⟩ : ∃ p, ((s[k].toNat : Int) == 58) = p := ⟨_, rfl⟩
      obtain ⟨q, hq⟩ : ∃ q, ((s[k + 1].toNat : Int) == 58) = q := ⟨_, rfl⟩
      rw [hp, hq] at hocc
      have HOCC := Lib.hid hocc; clear hocc
      cases p with
      | false =>
        have hp1 : ((s[k].toNat : Int) != 58) = true := by rw [bne, hp]; rfl
        have hp2 : ¬ (s[k].toNat : Int) = 58 := by intro e; rw [e] at hp; cases hp
        have HN : Hid (Lib.NoOcc s.data.toList [58, 58] (k + 1)) := Lib.hid (hno.out.succ (by rw [HOCC.out]; rfl))
        go_wp2_with fail
        go_round
        case rel => exact ⟨k + 1, by omega, by go_num, HN⟩
        case measure => simp [intOf]; omega
      | true =>
        have hp1 : ((s[k].toNat : Int) != 58) = false := by rw [bne, hp]; rfl
        have hp2 : (s[k].toNat : Int) = 58 := by simpa using hp
        clear hp
        cases q with
        | false =>
          have hq1 : ((s[k + 1].toNat : Int) != 58) = true := by rw [bne, hq]; rfl
          have hq2 : ¬ (s[k + 1].toNat : Int) = 58 := by intro e; rw [e] at hq; cases hq
          have HN : Hid (Lib.NoOcc s.data.toList [58, 58] (k + 1)) := Lib.hid (hno.out.succ (by rw [HOCC.out]; rfl))
          go_wp2_with fail
          go_round
          case rel => exact ⟨k + 1, by omega, by go_num, HN⟩
          case measure => simp [intOf]; omega
        | true =>
          have hq1 : ((s[k + 1].toNat : Int) != 58) = false := by rw [bne, hq]; rfl
          have hq2 : (s[k + 1].toNat : Int) = 58 := by simpa using hq
          clear hq
          have hix : Lib.index s.data.toList [58, 58] = (k : Int) := Lib.index_hit hno.out (by rw [← Lib.size_eq]; omega) HOCC.out
          have hsx := sixL_at s.data.toList k hix
          obtain ⟨a, ha⟩ : ∃ a : ByteArray, s.extract 0 k = a := ⟨_, rfl⟩
          obtain ⟨b, hb⟩ : ∃ b : ByteArray, s.extract (k + 2) s.size = b := ⟨_, rfl⟩
          have had : a.data.toList = s.data.toList.take k := by rw [← ha, Lib.extract_data]; simp
          have hbd : b.data.toList = s.data.toList.drop (k + 2) := by rw [← hb, extract_tail]
          have has : a.size ≤ 10000 := by rw [Lib.size_eq, had, List.length_take, ← Lib.size_eq]; omega
          have hbs : b.size ≤ 10000 := by rw [Lib.size_eq, hbd, List.length_drop, ← Lib.size_eq]; omega
          rw [← had, ← hbd] at hsx
          have HSX := Lib.hid hsx; have HOK := Lib.hid had; have HOK2 := Lib.hid hbd
          have HWF := Lib.hid (fun n => whole_full a.data.toList b.data.toList n)
          have HZL := Lib.hid (fun j => zeroT_len a.data.toList j)
          have HAD := Lib.hid (Lib.size_eq a)
          have g2 : IntKind.i64.wrap ((k : Int) + 2) = (k : Int) + 2 := IntWalk.i64_in _ (by omega)
          have g3 : (k : Int) + 2 ≤ (s.size : Int) := by omega
          have g4 : k + 2 ≤ s.size := by omega
          have g5 : (k : Int) ≤ (s.size : Int) := by omega
          have hbe : b.toList.isEmpty = decide (b.data.toList = []) := by
            rw [Lib.toList_data, Bool.eq_iff_iff, List.isEmpty_iff, decide_eq_true_eq]
          obtain ⟨be, hbe2⟩ : ∃ be, decide (b.data.toList = []) = be := ⟨_, rfl⟩
          rw [hbe2] at hbe
          have HBE := Lib.hid hbe2
          clear hix hsx had hbd hbe2 HOCC hno
          go_wp2_with fail
          go_loopw [4, 5, 6] (fun n _ _ wr => ∃ m : Nat, 1 ≤ m ∧ m ≤ 9 ∧ n = .int .i64 m ∧ Hid (∀ j, 1 ≤ j → j < m → bothN (grpO false (partsE a.data.toList)) (grpO true (partsE b.data.toList)) j = false) ∧ Hid (Below w.heap.size w wr)) (fun n _ _ _ => 9 - (intOf n).toNat)
          case atStart => exact ⟨1, Nat.le_refl _, by decide, rfl, Lib.hid (by intro j h1 h2; omega), Below.refl _ _⟩
          case round =>
            obtain ⟨m, hm1, hm9, rfl, hbad, hbl⟩ := hrel
            by_cases hm8 : m ≤ 8
            · have q1 : (m : Int) ≤ 8 := by omega
              go_wp2_with fail
              go_loop [5, 6] (fun t j => ∃ (x : ByteArray) (i : Nat), i ≤ m ∧ j = .int .i64 i ∧ t = .string x ∧ Hid (x.data.toList = zeroT a.data.toList i)) (fun _ j => m - (intOf j).toNat)
              case atStart => exact ⟨a, 0, Nat.zero_le _, rfl, rfl, Lib.hid rfl⟩
              case round =>
                obtain ⟨x, i, him, rfl, rfl, hx⟩ := hrel
                have hxs : x.size ≤ 10100 := by
                  have h1 := HZL.out i
                  rw [← hx.out, ← Lib.size_eq, ← Lib.size_eq] at h1
                  omega
                by_cases hil : i < m
                · have q2 : (i : Int) < (m : Int) := by omega
                  cases hxe : x.toList.isEmpty with
                  | true =>
                    have HN : Hid ((x ++ ⟨#[48]⟩ : ByteArray).data.toList = zeroT a.data.toList (i + 1)) := Lib.hid (by
                      have he : zeroT a.data.toList i = [] := by rw [← hx.out, ← Lib.toList_data]; simpa using hxe
                      have hx0 : x.data.toList = [] := by rw [hx.out, he]
                      unfold zeroT
                      rw [if_pos he, ByteArray.data_append, Array.toList_append, hx0])
                    have hsum : x.size + (⟨#[48]⟩ : ByteArray).size ≤ 9223372036854775807 := by show x.size + 1 ≤ _; omega
                    go_wp2_with fail
                    go_round
                    case rel => exact ⟨_, i + 1, by omega, by go_num, rfl, HN⟩
                    case measure => simp [intOf]; omega
                  | false =>
                    have HN : Hid ((x ++ ⟨#[58]⟩ ++ ⟨#[48]⟩ : ByteArray).data.toList = zeroT a.data.toList (i + 1)) := Lib.hid (by
                      have he : ¬ zeroT a.data.toList i = [] := by rw [← hx.out, ← Lib.toList_data]; simpa using hxe
                      unfold zeroT
                      rw [if_neg he, ByteArray.data_append, Array.toList_append, ByteArray.data_append, Array.toList_append, hx.out])
                    have hsum : x.size + (⟨#[58]⟩ : ByteArray).size ≤ 9223372036854775807 := by show x.size + 1 ≤ _; omega
                    have hsum2 : (x ++ ⟨#[58]⟩ : ByteArray).size + (⟨#[48]⟩ : ByteArray).size ≤ 9223372036854775807 := by rw [ByteArray.size_append]; show x.size + 1 + 1 ≤ _; omega
                    go_wp2_with fail
                    go_round
                    case rel => exact ⟨_, i + 1, by omega, by go_num, rfl, HN⟩
                    case measure => simp [intOf]; omega
                · obtain rfl : i = m := by omega
                  have q3 : decide ((i : Int) < (i : Int)) = false := decide_eq_false (by omega)
                  obtain ⟨v, hv⟩ : ∃ v, bothN (grpO false (partsE a.data.toList)) (grpO true (partsE b.data.toList)) i = v := ⟨_, rfl⟩
                  have hfull : ∀ y : ByteArray, y.data.toList = fullT a.data.toList b.data.toList i → y.size ≤ 100000 → ∀ W, Calls Tryd.prog 83 #[.string y] W fun e w' => e = .returned (.bool v) ∧ Below W.heap.size W w' := by
                    intro y hy hys W
                    have h1 := whole_any y W hys
                    obtain ⟨i0, rfl⟩ : ∃ i0, i = i0 + 1 := ⟨i - 1, by omega⟩
                    rw [hy, HWF.out i0, hv] at h1
                    exact h1
                  have HFULL := Lib.hid hfull; have HVV := Lib.hid hv
                  clear hfull hv
                  cases be with
                  | true =>
                    have WH := Lib.hid (HFULL.out x (by rw [hx.out]; unfold fullT; rw [if_pos (of_decide_eq_true HBE.out)]) (by omega))
                    cases v with
                    | true =>
                      have HN : Hid (sixL s.data.toList = true) := Lib.hid (by rw [HSX.out]; exact both_of_bothN hm1 HVV.out)
                      go_wp2_with fail
                      refine (WH.out _).mono ?_
                      rintro e w2 ⟨rfl, hw2⟩
                      have HB2 := Lib.hid (bseq hbl.out hw2); clear hw2
                      go_wp2_with fail
                      go_ret
                      exact ⟨ret_bool HN.out.symm, HB2.out⟩
                    | false =>
                      have HN : Hid (∀ j, 1 ≤ j → j < i + 1 → bothN (grpO false (partsE a.data.toList)) (grpO true (partsE b.data.toList)) j = false) := Lib.hid (by
                        intro j h1 h2
                        rcases Nat.lt_or_ge j i with h | h
                        · exact hbad.out j h1 h
                        · obtain rfl : j = i := by omega
                          exact HVV.out)
                      go_wp2_with fail
                      refine (WH.out _).mono ?_
                      rintro e w2 ⟨rfl, hw2⟩
                      have HB2 := Lib.hid (bseq hbl.out hw2); clear hw2
                      go_wp2_with fail
                      go_roundw
                      case rel => exact ⟨i + 1, by omega, by omega, by go_num, HN.out, HB2.out⟩
                      case measure => simp [intOf]; omega
                  | false =>
                    have hsum : x.size + (⟨#[58]⟩ : ByteArray).size ≤ 9223372036854775807 := by show x.size + 1 ≤ _; omega
                    have hsum2 : (x ++ ⟨#[58]⟩ : ByteArray).size + b.size ≤ 9223372036854775807 := by rw [ByteArray.size_append]; show x.size + 1 + b.size ≤ _; omega
                    have WH := Lib.hid (HFULL.out (x ++ ⟨#[58]⟩ ++ b) (by
                      rw [ByteArray.data_append, Array.toList_append, ByteArray.data_append, Array.toList_append, hx.out]
                      unfold fullT
                      rw [if_neg (of_decide_eq_false HBE.out)]
                      simp) (by rw [ByteArray.size_append, ByteArray.size_append]; show x.size + 1 + b.size ≤ _; omega))
                    cases v with
                    | true =>
                      have HN : Hid (sixL s.data.toList = true) := Lib.hid (by rw [HSX.out]; exact both_of_bothN hm1 HVV.out)
                      go_wp2_with fail
                      refine (WH.out _).mono ?_
                      rintro e w2 ⟨rfl, hw2⟩
                      have HB2 := Lib.hid (bseq hbl.out hw2); clear hw2
                      go_wp2_with fail
                      go_ret
                      exact ⟨ret_bool HN.out.symm, HB2.out⟩
                    | false =>
                      have HN : Hid (∀ j, 1 ≤ j → j < i + 1 → bothN (grpO false (partsE a.data.toList)) (grpO true (partsE b.data.toList)) j = false) := Lib.hid (by
                        intro j h1 h2
                        rcases Nat.lt_or_ge j i with h | h
                        · exact hbad.out j h1 h
                        · obtain rfl : j = i := by omega
                          exact HVV.out)
                      go_wp2_with fail
                      refine (WH.out _).mono ?_
                      rintro e w2 ⟨rfl, hw2⟩
                      have HB2 := Lib.hid (bseq hbl.out hw2); clear hw2
                      go_wp2_with fail
                      go_roundw
                      case rel => exact ⟨i + 1, by omega, by omega, by go_num, HN.out, HB2.out⟩
                      case measure => simp [intOf]; omega
            · obtain rfl : m = 9 := by omega
              have HN : Hid (sixL s.data.toList = false) := Lib.hid (by rw [HSX.out]; exact both_no (fun j h1 h2 => hbad.out j h1 (by omega)))
              go_wp2_with fail
              go_ret
              exact ⟨ret_bool HN.out.symm, hbl.out⟩
    · have g1 : ¬ (k : Int) + 1 < (s.size : Int) := by omega
      have hix : Lib.index s.data.toList [58, 58] = -1 := Lib.index_past (by simp) hno.out (by rw [← Lib.size_eq]; show s.size < k + 2; omega)
      have HN : Hid (sixL s.data.toList = wholeL s.data.toList) := Lib.hid (sixL_none _ hix)
      have WH := Lib.hid (fun W => whole_any s W (by omega))
      clear hix
      go_wp2_with fail
      refine (WH.out _).mono ?_
      rintro e w2 ⟨rfl, hw2⟩
      have HB2 := Lib.hid hw2; clear hw2
      go_wp2_with fail
      go_ret
      exact ⟨ret_bool HN.out.symm, HB2.out⟩

end Go.Proofs.YthhpijmkhhdhhaaDoor
