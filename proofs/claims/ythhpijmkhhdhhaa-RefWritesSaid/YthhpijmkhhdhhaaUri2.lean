/- Contracts of package uriref, two: schemes on both sides; the reference's first. -/
import Derived.Test.YthhpijmkhhdhhaaUri
namespace Go.Proofs.Ythhpijmkhhdhhaa
open Go.RowKit
set_option linter.unusedVariables false
set_option linter.unusedSimpArgs false

theorem bOne_contains (x : UInt8) (m : List UInt8) : bOne (x.toNat : Int) m = m.contains x := by
  unfold bOne
  rw [Bool.eq_iff_iff, List.any_eq_true, List.contains_iff_exists_mem_beq]
  constructor
  · rintro ⟨y, hy, h⟩
    refine ⟨y, hy, ?_⟩
    rw [beq_iff_eq] at h ⊢
    exact UInt8.toNat_inj.1 (by omega)
  · rintro ⟨y, hy, h⟩
    refine ⟨y, hy, ?_⟩
    rw [beq_iff_eq] at h ⊢
    rw [h]

theorem schIs_any (n : Int) (w : World) (h0 : 0 ≤ n) (h1 : n ≤ 255) :
    Calls Try.prog 146 #[.int .u8 n] w fun e w' => e = .returned (.bool (schQ n)) ∧ w = w' := by
  have IA := Lib.hid (isAlpha_any n w h0 h1)
  have ID := Lib.hid (isDigit_any n w)
  have hv : schQ n = (bAlpha n || (bDigit n || (n == 43 || (n == 45 || n == 46)))) := by
    unfold schQ bOne
    simp only [List.any_cons, List.any_nil, Bool.or_false, Bool.or_assoc]
    have e : ∀ k : UInt8, ((k.toNat : Int) == n) = (n == (k.toNat : Int)) := fun k => BEq.comm
    rw [e, e, e]
    rfl
  have HV := Lib.hid hv; clear hv
  cases ha : bAlpha n with
  | true =>
    rw [ha] at IA HV
    go_enter Try.func146, Try.ntmps146
    go_wp2_with fail
    (refine (IA.out).mono ?_; rintro e w' ⟨rfl, rfl⟩; go_wp2_with fail)
    go_ret
    exact ⟨ret_bool (by rw [HV.out]; rfl), rfl⟩
  | false =>
    rw [ha] at IA HV
    cases hd : bDigit n with
    | true =>
      rw [hd] at ID HV
      go_enter Try.func146, Try.ntmps146
      go_wp2_with fail
      (refine (IA.out).mono ?_; rintro e w' ⟨rfl, rfl⟩; go_wp2_with fail)
      (refine (ID.out).mono ?_; rintro e w' ⟨rfl, rfl⟩; go_wp2_with fail)
      go_ret
      exact ⟨ret_bool (by rw [HV.out]; rfl), rfl⟩
    | false =>
      rw [hd] at ID HV
      cases h43 : (n == 43) with
      | true =>
        rw [h43] at HV
        go_enter Try.func146, Try.ntmps146
        go_wp2_with fail
        (refine (IA.out).mono ?_; rintro e w' ⟨rfl, rfl⟩; go_wp2_with fail)
        (refine (ID.out).mono ?_; rintro e w' ⟨rfl, rfl⟩; go_wp2_with fail)
        go_ret
        exact ⟨ret_bool (by rw [HV.out]; rfl), rfl⟩
      | false =>
        rw [h43] at HV
        cases h45 : (n == 45) with
        | true =>
          rw [h45] at HV
          go_enter Try.func146, Try.ntmps146
          go_wp2_with fail
          (refine (IA.out).mono ?_; rintro e w' ⟨rfl, rfl⟩; go_wp2_with fail)
          (refine (ID.out).mono ?_; rintro e w' ⟨rfl, rfl⟩; go_wp2_with fail)
          go_ret
          exact ⟨ret_bool (by rw [HV.out]; rfl), rfl⟩
        | false =>
          rw [h45] at HV
          go_enter Try.func146, Try.ntmps146
          go_wp2_with fail
          (refine (IA.out).mono ?_; rintro e w' ⟨rfl, rfl⟩; go_wp2_with fail)
          (refine (ID.out).mono ?_; rintro e w' ⟨rfl, rfl⟩; go_wp2_with fail)
          go_ret
          exact ⟨ret_bool (by rw [HV.out]; rfl), rfl⟩

theorem scheme_any (s : ByteArray) (w : World) (hs : s.size ≤ 1000000) :
    Calls Try.prog 138 #[.string s] w fun e w' => e = .returned (.bool (schemeL s.data.toList)) ∧ Below w.heap.size w w' := by
  by_cases h0 : s.size = 0
  · have h1 := empty_of_size s h0
    have h2 : s.toList.isEmpty = true := by rw [h1]; rfl
    have HV : Hid (schemeL s.data.toList = false) := Lib.hid (by rw [size0 s h0]; rfl)
    clear h0 h1
    go_enter Try.func138, Try.ntmps138
    go_wp2_with fail
    go_ret
    exact ⟨ret_bool HV.out.symm, Below.refl _ _⟩
  · have hpos : 0 < s.size := by omega
    have h1 := nonempty_of_size s hpos
    have hl : s.data.toList = s[0] :: s.data.toList.drop 1 := by
      have := drop_cons s 0 hpos
      simpa using this
    have IA := Lib.hid (fun w => isAlpha_any (s[0].toNat : Int) w (by omega) (u8_255 _))
    have hv : schemeL s.data.toList = (bAlpha (s[0].toNat : Int) && allB schQ s.data.toList) := by
      conv => lhs; rw [hl]
      rw [schemeL, ← hl]
    have AL := Lib.hid (fun (w0 w : World) (h : w0.alloc (.cells #[.string s] 9) = w) => (show Calls Try.prog 28 #[.func (.func 146) #[] #[], .slice (some ⟨w0.heap.size, 0, none⟩) 1 1] w fun e w' => e = .returned (.bool (allB schQ s.data.toList)) ∧ w = w' from by
      subst h
      exact all_one 146 schQ s _ w0.heap.size 0 1 (by unfold maxLen; omega) (enter_of_name Try.func146 (by kernel_rfl) (by kernel_rfl)) (fun n w' a b => schIs_any n w' a b) (by simp)))
    cases ha : bAlpha (s[0].toNat : Int) with
    | false =>
      rw [ha] at IA hv
      have HV := Lib.hid hv; clear hv hl h0 ha
      go_enter Try.func138, Try.ntmps138
      go_wp2_with fail
      (refine (IA.out _).mono ?_; rintro e w' ⟨rfl, rfl⟩; go_wp2_with fail)
      go_ret
      exact ⟨ret_bool (by rw [HV.out]; rfl), Below.refl _ _⟩
    | true =>
      rw [ha] at IA hv
      have HV := Lib.hid hv; clear hv hl h0 ha
      go_enter Try.func138, Try.ntmps138
      go_wp2_with fail
      (refine (IA.out _).mono ?_; rintro e w' ⟨rfl, rfl⟩; go_wp2_with fail)
      refine (AL.out _ _ rfl).mono ?_
      rintro e w2 ⟨rfl, hw2⟩
      have hb2 : Below w.heap.size w w2 := by rw [← hw2]; exact (Below.refl _ _).alloc (Nat.le_refl _) _
      have HB2 := Lib.hid hb2; clear hb2 hw2
      go_wp2_with fail
      go_ret
      exact ⟨ret_bool (by rw [HV.out]; rfl), HB2.out⟩

/-- The reference's first. -/
theorem first_any (s m : ByteArray) (w : World) (hs : s.size ≤ 1000000) (hm : m.size ≤ 1000) :
    Calls Try.prog 126 #[.string s, .string m] w fun e w' => e = .returned (.int .i64 (firstN m.data.toList s.data.toList : Nat)) ∧ w = w' := by
  go_enter Try.func126, Try.ntmps126
  go_wp2_with fail
  go_loop [5] (fun i => ∃ k : Nat, k ≤ s.size ∧ i = .int .i64 k ∧ Hid (∀ x ∈ s.data.toList.take k, m.data.toList.contains x = false)) (fun i => s.size - (intOf i).toNat)
  case atStart => exact ⟨0, Nat.zero_le _, rfl, Lib.hid (by simp)⟩
  case round =>
    obtain ⟨k, hk, rfl, hall⟩ := hrel
    by_cases hlt : k < s.size
    · have IN := Lib.hid (fun w => in_any (s[k].toNat : Int) m w (by unfold maxLen; omega))
      cases hx : m.data.toList.contains s[k] with
      | true =>
        have HV : Hid (firstN m.data.toList s.data.toList = k) := Lib.hid (by
          have e : s.data.toList = s.data.toList.take k ++ s[k] :: s.data.toList.drop (k + 1) := by rw [← drop_cons s k hlt, List.take_append_drop]
          rw [e, firstN_hit _ _ _ _ hall.out hx, List.length_take, ← Lib.size_eq]
          omega)
        rw [bOne_contains, hx] at IN
        clear hx
        go_wp2_with fail
        (refine (IN.out _).mono ?_; rintro e w' ⟨rfl, rfl⟩; go_wp2_with fail)
        go_ret
        exact ⟨ret_int (by rw [HV.out]), rfl⟩
      | false =>
        have HN : Hid (∀ x ∈ s.data.toList.take (k + 1), m.data.toList.contains x = false) := Lib.hid (by
          intro x h
          rw [take_snoc s k hlt, List.mem_append] at h
          rcases h with h | h
          · exact hall.out x h
          · simp at h; subst h; exact hx)
        rw [bOne_contains, hx] at IN
        clear hx
        go_wp2_with fail
        (refine (IN.out _).mono ?_; rintro e w' ⟨rfl, rfl⟩; go_wp2_with fail)
        go_round
        case rel => exact ⟨k + 1, by omega, by go_num, HN⟩
        case measure => simp [intOf]; omega
    · obtain rfl : k = s.size := by omega
      have HV : Hid (firstN m.data.toList s.data.toList = s.size) := Lib.hid (by
        have h := hall.out
        rw [List.take_of_length_le (by rw [← Lib.size_eq]; omega)] at h
        rw [firstN_none _ _ h, ← Lib.size_eq])
      go_wp2_with fail
      go_ret
      exact ⟨ret_int (by rw [HV.out]), rfl⟩

theorem scheme_snoc (l : List UInt8) (c : UInt8) (h : l = [] ∧ bAlpha (c.toNat : Int) = true ∨ schemeL l = true ∧ schQ (c.toNat : Int) = true) : schemeL (l ++ [c]) = true := by
  rcases h with ⟨rfl, h⟩ | ⟨h1, h2⟩
  · simp [schemeL, allB, h, schQ]
  · cases l with
    | nil => simp [schemeL] at h1
    | cons x r =>
      simp only [schemeL, Bool.and_eq_true] at h1
      rw [List.cons_append, schemeL, h1.1, Bool.true_and, ← List.cons_append]
      have h3 := h1.2
      unfold allB at h3 ⊢
      rw [List.all_append, h3]
      simp [h2]
theorem scheme_stop (l r : List UInt8) (c : UInt8) (h : l = [] ∧ bAlpha (c.toNat : Int) = false ∨ schQ (c.toNat : Int) = false) : schemeL (l ++ c :: r) = false := by
  rw [Bool.eq_false_iff]
  intro h1
  rcases h with ⟨rfl, h⟩ | h
  · simp [schemeL, h] at h1
  · have := schemeL_mem h1 c (by simp)
    rw [h] at this; cases this

set_option maxHeartbeats 1000000 in
/-- The reference's scheme. -/
theorem rScheme_any (s : ByteArray) (w : World) (hs : s.size ≤ 1000000) :
    Calls Try.prog 127 #[.string s] w fun e w' => e = .returned (.bool (schemeL s.data.toList)) ∧ w = w' := by
  go_enter Try.func127, Try.ntmps127
  go_wp2_with fail
  go_loop [3] (fun i => ∃ k : Nat, k ≤ s.size ∧ i = .int .i64 k ∧ Hid (k = 0 ∨ schemeL (s.data.toList.take k) = true)) (fun i => s.size - (intOf i).toNat)
  case atStart => exact ⟨0, Nat.zero_le _, rfl, Lib.hid (.inl rfl)⟩
  case round =>
    obtain ⟨k, hk, rfl, hall⟩ := hrel
    by_cases hlt : k < s.size
    · have hx255 := u8_255 s[k]
      have e : s.data.toList = s.data.toList.take k ++ s[k] :: s.data.toList.drop (k + 1) := by rw [← drop_cons s k hlt, List.take_append_drop]
      have et := take_snoc s k hlt
      obtain ⟨c, hc⟩ : ∃ c, s[k] = c := ⟨_, rfl⟩
      rw [hc] at e et hx255
      have E := Lib.hid e; have ET := Lib.hid et; clear e et
      have RA := Lib.hid (fun w => rAlpha_any (c.toNat : Int) w (by omega) hx255)
      have RD := Lib.hid (fun w => rDigit_any (c.toNat : Int) w (by omega) hx255)
      have RI := Lib.hid (fun w => in_any (c.toNat : Int) ⟨#[43, 45, 46]⟩ w (by decide))
      have hq : schQ (c.toNat : Int) = (bAlpha (c.toNat : Int) || bDigit (c.toNat : Int) || bOne (c.toNat : Int) (⟨#[43, 45, 46]⟩ : ByteArray).data.toList) := rfl
      obtain ⟨a, ha⟩ : ∃ a, bAlpha (c.toNat : Int) = a := ⟨_, rfl⟩
      obtain ⟨d, hd⟩ : ∃ d, bDigit (c.toNat : Int) = d := ⟨_, rfl⟩
      obtain ⟨i, hi⟩ : ∃ i, bOne (c.toNat : Int) (⟨#[43, 45, 46]⟩ : ByteArray).data.toList = i := ⟨_, rfl⟩
      rw [ha, hd, hi] at hq
      rw [ha] at RA
      rw [hd] at RD
      rw [hi] at RI
      have HA := Lib.hid ha
      have HQ := Lib.hid hq; clear ha hd hi hq
      cases a with
      | true =>
        have HN : Hid (schemeL (s.data.toList.take (k + 1)) = true) := Lib.hid (by
          rw [ET.out]
          rcases hall.out with h | h
          · exact scheme_snoc _ _ (.inl ⟨by rw [h, List.take_zero], HA.out⟩)
          · exact scheme_snoc _ _ (.inr ⟨h, by rw [HQ.out]; rfl⟩))
        go_wp2_with fail
        (refine (RA.out _).mono ?_; rintro e w' ⟨rfl, rfl⟩; go_wp2_with fail)
        go_round
        case rel => exact ⟨k + 1, by omega, by go_num, Lib.hid (.inr HN.out)⟩
        case measure => simp [intOf]; omega
      | false =>
        by_cases hk0 : k = 0
        · subst hk0
          have HV : Hid (schemeL s.data.toList = false) := Lib.hid (by rw [E.out]; exact scheme_stop _ _ _ (.inl ⟨by rw [List.take_zero], HA.out⟩))
          go_wp2_with fail
          (refine (RA.out _).mono ?_; rintro e w' ⟨rfl, rfl⟩; go_wp2_with fail)
          go_ret
          exact ⟨ret_bool HV.out.symm, rfl⟩
        · have hk1 : ((k : Int) == 0) = false := beq_eq_false_iff_ne.2 (by omega)
          have HK : Hid (schemeL (s.data.toList.take k) = true) := Lib.hid (hall.out.resolve_left hk0)
          cases hdi : (d || i) with
          | true =>
            have HN : Hid (schemeL (s.data.toList.take (k + 1)) = true) := Lib.hid (by
              rw [ET.out]
              exact scheme_snoc _ _ (.inr ⟨HK.out, by rw [HQ.out]; simpa using hdi⟩))
            cases d with
            | true =>
              clear hdi
              go_wp2_with fail
              (refine (RA.out _).mono ?_; rintro e w' ⟨rfl, rfl⟩; go_wp2_with fail)
              (refine (RD.out _).mono ?_; rintro e w' ⟨rfl, rfl⟩; go_wp2_with fail)
              go_round
              case rel => exact ⟨k + 1, by omega, by go_num, Lib.hid (.inr HN.out)⟩
              case measure => simp [intOf]; omega
            | false =>
              have hi : i = true := by simpa using hdi
              subst hi
              clear hdi
              go_wp2_with fail
              (refine (RA.out _).mono ?_; rintro e w' ⟨rfl, rfl⟩; go_wp2_with fail)
              (refine (RD.out _).mono ?_; rintro e w' ⟨rfl, rfl⟩; go_wp2_with fail)
              (refine (RI.out _).mono ?_; rintro e w' ⟨rfl, rfl⟩; go_wp2_with fail)
              go_round
              case rel => exact ⟨k + 1, by omega, by go_num, Lib.hid (.inr HN.out)⟩
              case measure => simp [intOf]; omega
          | false =>
            simp only [Bool.or_eq_false_iff] at hdi
            obtain ⟨rfl, rfl⟩ := hdi
            have HV : Hid (schemeL s.data.toList = false) := Lib.hid (by rw [E.out]; exact scheme_stop _ _ _ (.inr (by rw [HQ.out]; rfl)))
            go_wp2_with fail
            (refine (RA.out _).mono ?_; rintro e w' ⟨rfl, rfl⟩; go_wp2_with fail)
            (refine (RD.out _).mono ?_; rintro e w' ⟨rfl, rfl⟩; go_wp2_with fail)
            (refine (RI.out _).mono ?_; rintro e w' ⟨rfl, rfl⟩; go_wp2_with fail)
            go_ret
            exact ⟨ret_bool HV.out.symm, rfl⟩
    · obtain rfl : k = s.size := by omega
      have HV : Hid (schemeL s.data.toList = decide (0 < s.size)) := Lib.hid (by
        rcases hall.out with h | h
        · rw [size0 s h, h]
          first | rfl | done
        · rw [List.take_of_length_le (by rw [← Lib.size_eq]; omega)] at h
          rw [h]
          have := schemeL_pos h
          rw [← Lib.size_eq] at this
          rw [decide_eq_true this])
      have g : decide ((0 : Int) < (s.size : Int)) = decide (0 < s.size) := by rw [decide_eq_decide]; omega
      have HG := Lib.hid g; clear g
      go_wp2_with fail
      go_ret
      exact ⟨ret_bool (by first | (rw [HV.out]; done) | (rw [HV.out]; exact HG.out)), rfl⟩

end Go.Proofs.Ythhpijmkhhdhhaa
