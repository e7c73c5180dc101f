/- Contracts of package uriref: upto, bytes, scheme; the reference's Of, first, scheme. -/
import Derived.Test.YthhpijmkhhdhhaaAny
import Derived.Deep.QuietTactic
import Derived.BigQuiet
import Derived.IntWalk
namespace Go.Proofs.Ythhpijmkhhdhhaa
open Go.RowKit
set_option linter.unusedVariables false
set_option linter.unusedSimpArgs false

theorem belowN {A : Nat} {w w1 : World} (h : Below A w w1) (n : Nat) : Below A w (w1.drewN n) := ⟨h.os, h.tape, h.output, h.size, h.block⟩

set_option maxHeartbeats 4000000 in
set_option maxRecDepth 1000000 in
/-- uriref.upto. -/
theorem upto_any (s m : ByteArray) (w : World) (hs : s.size ≤ 1000000) (h1 : 1 ≤ m.size) (hcs : m.size ≤ 1000) (hascii : ∀ b ∈ m.data.toList, b.toNat < 128) :
    Calls Try.prog 139 #[.string s, .string m] w fun e w' => (∃ a b : ByteArray, e = .returned (.tuple #[.string a, .string b]) ∧ a.data.toList = (uptoL m.data.toList s.data.toList).1 ∧ b.data.toList = (uptoL m.data.toList s.data.toList).2) ∧ Below w.heap.size w w' := by
  have IA := Lib.hid (fun W => indexAny_any s m W hs h1 hcs hascii)
  obtain ⟨k, hk⟩ : ∃ k, firstN m.data.toList s.data.toList = k := ⟨_, rfl⟩
  unfold uptoL
  rw [hk] at IA ⊢
  have HSL := Lib.hid (Lib.size_eq s)
  clear hascii
  by_cases h : k < s.size
  · rw [if_pos h] at IA
    have hz : (k : Int) ≤ (s.size : Int) := by omega
    have hz2 : k ≤ s.size := by omega
    go_enter Try.func139, Try.ntmps139
    go_wp2_with (go_at_call 147; refine (IA.out _).mono ?_; rintro e w2 ⟨rfl, hw2⟩)
    go_quiet (fail)
    go_wp2
    refine bodyPost_ret (results_tmp2 rfl _ _ _) rfl ?_
    refine ⟨⟨_, _, rfl, ?_, ?_⟩, below_drewN hw2 _⟩
    · rw [Lib.extract_data, List.drop_zero, Nat.sub_zero]
    · rw [Lib.extract_data]; exact List.take_of_length_le (by rw [List.length_drop, ← HSL.out]; omega)
  · rw [if_neg h] at IA
    go_enter Try.func139, Try.ntmps139
    go_wp2_with (go_at_call 147; refine (IA.out _).mono ?_; rintro e w2 ⟨rfl, hw2⟩)
    refine bodyPost_ret (results_tmp2 rfl _ _ _) rfl ?_
    refine ⟨⟨_, _, rfl, ?_, ?_⟩, hw2⟩
    · show _ = _; rw [List.take_of_length_le (by rw [← HSL.out]; omega)]
    · show _ = _; rw [List.drop_of_length_le (by rw [← HSL.out]; omega)]

theorem all_hex_below (t : ByteArray) (w0 w : World) (h : w0.alloc (.cells #[.string t] 9) = w) (ht : t.size ≤ 1000) :
    Calls Try.prog 28 #[.func (.func 32) #[] #[], .slice (some ⟨w0.heap.size, 0, none⟩) 1 1] w fun e w' => e = .returned (.bool (allB bHex t.data.toList)) ∧ w = w' := by
  subst h
  exact all_one 32 bHex t _ w0.heap.size 0 1 (by unfold maxLen; omega) (enter_of_name Try.func32 (by kernel_rfl) (by kernel_rfl)) (fun n w' a b => isHex_any n w' a b) (by simp)

set_option maxRecDepth 100000 in
set_option maxHeartbeats 1000000 in
theorem pBytes_any (s m : ByteArray) (w : World) (hs : s.size ≤ 1000000) (hm : bOne 37 m.data.toList = false) :
    Calls Try.prog 140 #[.string s, .string m] w fun e w' => e = .returned (.bool (pctL (pathQ m.data.toList) s.data.toList)) ∧ Below w.heap.size w w' := by
  have hq37 : pathQ m.data.toList 37 = false := by unfold pathQ; rw [hm, path37]; rfl
  have HQ := Lib.hid hq37; clear hq37 hm
  go_enter Try.func140, Try.ntmps140
  go_wp2_with fail
  go_loopw [5] (fun i wr => ∃ k : Nat, k ≤ s.size ∧ i = .int .i64 k ∧ Hid (pctL (pathQ m.data.toList) s.data.toList = pctL (pathQ m.data.toList) (s.data.toList.drop k)) ∧ Hid (Below w.heap.size w wr)) (fun i _ => s.size - (intOf i).toNat)
  case atStart => exact ⟨0, Nat.zero_le _, rfl, rfl, Below.refl _ _⟩
  case round =>
    obtain ⟨k, hk, rfl, hp, hb⟩ := hrel
    by_cases hlt : k < s.size
    · have hx255 := u8_255 s[k]
      obtain ⟨x, hx⟩ : ∃ x, Lib.indexByte m.data.toList ((s[k].toNat : Int)).toNat.toUInt8 = x := ⟨_, rfl⟩
      have hxo := indexByte_bOne m.data.toList (s[k].toNat : Int) (by omega) hx255
      rw [hx] at hxo
      have IB := Lib.hid (fun w => stringsIndexByte_any m (s[k].toNat : Int) w)
      rw [hx] at IB
      have IP := Lib.hid (fun w => isPath_any (s[k].toNat : Int) w (by omega) hx255)
      have h0c : pathQ m.data.toList (s[k].toNat : Int) = (bPath (s[k].toNat : Int) || decide (0 ≤ x)) := by unfold pathQ; rw [hxo]
      clear hx hxo
      obtain ⟨pb, hpb⟩ : ∃ pb, bPath (s[k].toNat : Int) = pb := ⟨_, rfl⟩
      rw [hpb] at IP h0c
      clear hpb
      by_cases h37 : s[k].toNat = 37
      · have hc37 : ((s[k].toNat : Int) == 37) = true := by rw [h37]; rfl
        have hq0 : (pb || decide (0 ≤ x)) = false := by rw [← h0c, h37]; exact HQ.out
        simp only [Bool.or_eq_false_iff, decide_eq_false_iff_not] at hq0
        obtain ⟨rfl, hx0⟩ := hq0
        have hx1 : x < 0 := by omega
        clear h0c hx0
        by_cases h2 : k + 2 < s.size
        · have hd := hp.out
          rw [drop3 s k h2, pctL_pct _ _ _ _ _ h37, ← Bool.and_assoc] at hd
          have he := extract2 s k h2
          obtain ⟨ab, hab⟩ : ∃ ab, allB bHex (s.extract (k + 1) (k + 3)).data.toList = ab := ⟨_, rfl⟩
          have hab2 : (bHex (s[k + 1].toNat : Int) && bHex (s[k + 2].toNat : Int)) = ab := by rw [← hab, he]; simp [allB]
          rw [hab2] at hd
          have HD := Lib.hid hd; clear hd
          have AL := Lib.hid (fun w0 w h => all_hex_below (s.extract (k + 1) (k + 3)) w0 w h (by rw [Lib.size_eq, he]; simp))
          rw [hab] at AL
          have HK := Lib.hid h37; clear h37 he hab hab2
          have g1 : ((k : Int) + 2) < s.size := by omega
          have g2 : IntKind.i64.wrap ((k : Int) + 2) = (k : Int) + 2 := IntWalk.i64_in _ (by omega)
          go_wp2_with fail
          refine (AL.out _ _ rfl).mono ?_
          rintro e w2 ⟨rfl, hw2⟩
          have hb2 : Below w.heap.size w w2 := by rw [← hw2]; exact hb.out.alloc hb.out.size _
          have HB2 := Lib.hid hb2; clear hb2 hw2
          cases ab with
          | true =>
            have HN : Hid (pctL (pathQ m.data.toList) s.data.toList = pctL (pathQ m.data.toList) (s.data.toList.drop (k + 3))) := Lib.hid (by rw [HD.out]; rfl)
            have g3 : IntKind.i64.wrap ((k : Int) + 2 + 1) = (k : Int) + 3 := IntWalk.i64_in _ (by omega)
            go_wp2_with fail
            go_roundw
            case rel => exact ⟨k + 3, by omega, by go_num, HN.out, HB2.out⟩
            case measure => simp [intOf]; omega
          | false =>
            have HN : Hid (pctL (pathQ m.data.toList) s.data.toList = false) := Lib.hid (by rw [HD.out]; rfl)
            go_wp2_with fail
            go_ret
            exact ⟨ret_bool HN.out.symm, HB2.out⟩
        · obtain ⟨r, hr, hr2⟩ := drop_short s k hlt (by omega)
          have HN : Hid (pctL (pathQ m.data.toList) s.data.toList = false) := Lib.hid (by rw [hp.out, hr, pctL_short _ _ _ h37 hr2])
          have g1 : ¬ ((k : Int) + 2) < s.size := by omega
          have g2 : IntKind.i64.wrap ((k : Int) + 2) = (k : Int) + 2 := IntWalk.i64_in _ (by omega)
          have HK := Lib.hid h37; clear h37 hr hr2
          go_wp2_with fail
          go_ret
          exact ⟨ret_bool HN.out.symm, hb.out⟩
      · have hc37 : ((s[k].toNat : Int) == 37) = false := by rw [beq_eq_false_iff_ne]; omega
        have hd := hp.out
        rw [drop_cons s k hlt, pctL_plain _ _ _ h37, h0c] at hd
        have HD := Lib.hid hd; clear hd h0c
        have HK := Lib.hid h37; clear h37
        cases pb with
        | true =>
          have HN : Hid (pctL (pathQ m.data.toList) s.data.toList = pctL (pathQ m.data.toList) (s.data.toList.drop (k + 1))) := Lib.hid (by rw [HD.out]; rfl)
          go_wp2_with fail
          (refine (IP.out _).mono ?_; rintro e w' ⟨rfl, rfl⟩; go_wp2_with fail)
          go_roundw
          case rel => exact ⟨k + 1, by omega, by go_num, HN.out, hb.out⟩
          case measure => simp [intOf]; omega
        | false =>
          by_cases hx0 : 0 ≤ x
          · have HN : Hid (pctL (pathQ m.data.toList) s.data.toList = pctL (pathQ m.data.toList) (s.data.toList.drop (k + 1))) := Lib.hid (by rw [HD.out, decide_eq_true hx0]; rfl)
            go_wp2_with fail
            (refine (IP.out _).mono ?_; rintro e w' ⟨rfl, rfl⟩; go_wp2_with fail)
            (refine (IB.out _).mono ?_; rintro e w' ⟨rfl, rfl⟩; go_wp2_with fail)
            go_roundw
            case rel => exact ⟨k + 1, by omega, by go_num, HN.out, hb.out⟩
            case measure => simp [intOf]; omega
          · have HN : Hid (pctL (pathQ m.data.toList) s.data.toList = false) := Lib.hid (by rw [HD.out, decide_eq_false hx0]; rfl)
            have hx1 : x < 0 := by omega
            clear hx0
            go_wp2_with fail
            (refine (IP.out _).mono ?_; rintro e w' ⟨rfl, rfl⟩; go_wp2_with fail)
            (refine (IB.out _).mono ?_; rintro e w' ⟨rfl, rfl⟩; go_wp2_with fail)
            go_ret
            exact ⟨ret_bool HN.out.symm, hb.out⟩
    · obtain rfl : k = s.size := by omega
      have HN : Hid (pctL (pathQ m.data.toList) s.data.toList = true) := Lib.hid (by rw [hp.out, drop_all s _ (Nat.le_refl _)]; rfl)
      go_wp2_with fail
      go_ret
      exact ⟨ret_bool HN.out.symm, hb.out⟩

theorem size0 (s : ByteArray) (h : s.size = 0) : s.data.toList = [] := List.eq_nil_of_length_eq_zero (by rw [← Lib.size_eq]; exact h)
theorem empty_of_size (s : ByteArray) (h : s.size = 0) : s.toList = [] := by rw [Lib.toList_data]; exact size0 s h
theorem nonempty_of_size (s : ByteArray) (h : 0 < s.size) : s.toList.isEmpty = false := by
  rw [Lib.toList_data]
  cases hl : s.data.toList with
  | nil => have h0 : s.size = 0 := by rw [Lib.size_eq, hl]; rfl
           omega
  | cons => rfl

set_option maxRecDepth 100000 in
set_option maxHeartbeats 1000000 in
theorem rOf_any (m : ByteArray) (hm : m.size ≤ 1000) : ∀ (n : Nat) (s : ByteArray) (w : World), s.size ≤ n → s.size ≤ 1000000 →
    Calls Try.prog 142 #[.string s, .string m] w fun e w' => e = .returned (.bool (pctL (pathQ m.data.toList) s.data.toList)) ∧ w = w' := by
  intro n
  induction n with
  | zero =>
    intro s w h _
    have h0 : s.size = 0 := by omega
    have h1 := empty_of_size s h0
    have h2 : s.toList.isEmpty = true := by rw [h1]; rfl
    have HV : Hid (pctL (pathQ m.data.toList) s.data.toList = true) := Lib.hid (by rw [size0 s h0]; rfl)
    clear h0 h1
    go_enter Try.func142, Try.ntmps142
    go_wp2_with fail
    go_ret
    exact ⟨ret_bool HV.out.symm, rfl⟩
  | succ n ih =>
    intro s w h hs
    have IH := Lib.hid ih; clear ih
    by_cases h0 : s.size = 0
    · have h1 := empty_of_size s h0
      have h2 : s.toList.isEmpty = true := by rw [h1]; rfl
      have HV : Hid (pctL (pathQ m.data.toList) s.data.toList = true) := Lib.hid (by rw [size0 s h0]; rfl)
      clear h0 h1
      go_enter Try.func142, Try.ntmps142
      go_wp2_with fail
      go_ret
      exact ⟨ret_bool HV.out.symm, rfl⟩
    · have hpos : 0 < s.size := by omega
      have h1 := nonempty_of_size s hpos
      have hx255 := u8_255 s[0]
      have hl : s.data.toList = s[0] :: s.data.toList.drop 1 := by
        have := drop_cons s 0 hpos
        simpa using this
      by_cases h37 : s[0].toNat = 37
      · have hc37 : ((s[0].toNat : Int) == 37) = true := by rw [h37]; rfl
        by_cases h2 : 2 < s.size
        · have hd := pctL_pct (pathQ m.data.toList) s[0] s[1] s[2] (s.data.toList.drop 3) h37
          have hl3 := drop3 s 0 h2
          rw [List.drop_zero] at hl3
          simp only [Nat.zero_add] at hl3
          rw [← hl3] at hd
          have R1 := Lib.hid (fun w => rHex_any (s[1].toNat : Int) w (by omega) (u8_255 _))
          have R2 := Lib.hid (fun w => rHex_any (s[2].toNat : Int) w (by omega) (u8_255 _))
          have IH3 := Lib.hid (fun w => IH.out (s.extract 3 s.size) w (by rw [extract_tail_size]; omega) (by rw [extract_tail_size]; omega))
          rw [extract_tail] at IH3
          obtain ⟨a, ha⟩ : ∃ a, bHex (s[1].toNat : Int) = a := ⟨_, rfl⟩
          obtain ⟨b, hb⟩ : ∃ b, bHex (s[2].toNat : Int) = b := ⟨_, rfl⟩
          rw [ha] at hd R1
          rw [hb] at hd R2
          have HD := Lib.hid hd; clear hd ha hb hl hl3 h0 IH
          have HK := Lib.hid h37; clear h37
          have g1 : (2 : Int) < s.size := by omega
          have g2 : (3 : Int) ≤ s.size := by omega
          cases a with
          | false =>
            go_enter Try.func142, Try.ntmps142
            go_wp2_with fail
            (refine (R1.out _).mono ?_; rintro e w' ⟨rfl, rfl⟩; go_wp2_with fail)
            go_ret
            exact ⟨ret_bool (by rw [HD.out]; rfl), rfl⟩
          | true =>
            cases b with
            | false =>
              go_enter Try.func142, Try.ntmps142
              go_wp2_with fail
              (refine (R1.out _).mono ?_; rintro e w' ⟨rfl, rfl⟩; go_wp2_with fail)
              (refine (R2.out _).mono ?_; rintro e w' ⟨rfl, rfl⟩; go_wp2_with fail)
              go_ret
              exact ⟨ret_bool (by rw [HD.out]; rfl), rfl⟩
            | true =>
              go_enter Try.func142, Try.ntmps142
              go_wp2_with fail
              (refine (R1.out _).mono ?_; rintro e w' ⟨rfl, rfl⟩; go_wp2_with fail)
              (refine (R2.out _).mono ?_; rintro e w' ⟨rfl, rfl⟩; go_wp2_with fail)
              (refine (IH3.out _).mono ?_; rintro e w' ⟨rfl, rfl⟩; go_wp2_with fail)
              go_ret
              exact ⟨ret_bool (by rw [HD.out]; rfl), rfl⟩
        · have HV : Hid (pctL (pathQ m.data.toList) s.data.toList = false) := Lib.hid (by rw [hl]; exact pctL_short _ _ _ h37 (by rw [List.length_drop, ← Lib.size_eq]; omega))
          have g1 : ¬ (2 : Int) < s.size := by omega
          have HK := Lib.hid h37; clear h37 hl h0 h2
          go_enter Try.func142, Try.ntmps142
          go_wp2_with fail
          go_ret
          exact ⟨ret_bool HV.out.symm, rfl⟩
      · have hc37 : ((s[0].toNat : Int) == 37) = false := by rw [beq_eq_false_iff_ne]; omega
        have hd := pctL_plain (pathQ m.data.toList) s[0] (s.data.toList.drop 1) h37
        rw [← hl] at hd
        have RP := Lib.hid (fun w => rPath_any (s[0].toNat : Int) w (by omega) hx255)
        have RI := Lib.hid (fun w => in_any (s[0].toNat : Int) m w (by unfold maxLen; omega))
        have IH1 := Lib.hid (fun w => IH.out (s.extract 1 s.size) w (by rw [extract_tail_size]; omega) (by rw [extract_tail_size]; omega))
        rw [extract_tail] at IH1
        have hq : pathQ m.data.toList (s[0].toNat : Int) = (bPath (s[0].toNat : Int) || bOne (s[0].toNat : Int) m.data.toList) := rfl
        rw [hq] at hd
        obtain ⟨v, hv⟩ : ∃ v, pctL (pathQ m.data.toList) (s.data.toList.drop 1) = v := ⟨_, rfl⟩
        rw [hv] at hd IH1
        obtain ⟨a, ha⟩ : ∃ a, bPath (s[0].toNat : Int) = a := ⟨_, rfl⟩
        obtain ⟨b, hb⟩ : ∃ b, bOne (s[0].toNat : Int) m.data.toList = b := ⟨_, rfl⟩
        rw [ha, hb] at hd
        rw [ha] at RP
        rw [hb] at RI
        have HD := Lib.hid hd; clear hd ha hb hl h0 IH hq hv
        have HK := Lib.hid h37; clear h37
        have g2 : (1 : Int) ≤ s.size := by omega
        cases a with
        | true =>
          go_enter Try.func142, Try.ntmps142
          go_wp2_with fail
          (refine (RP.out _).mono ?_; rintro e w' ⟨rfl, rfl⟩; go_wp2_with fail)
          (refine (IH1.out _).mono ?_; rintro e w' ⟨rfl, rfl⟩; go_wp2_with fail)
          go_ret
          exact ⟨ret_bool (by rw [HD.out]; rfl), rfl⟩
        | false =>
          cases b with
          | true =>
            go_enter Try.func142, Try.ntmps142
            go_wp2_with fail
            (refine (RP.out _).mono ?_; rintro e w' ⟨rfl, rfl⟩; go_wp2_with fail)
            (refine (RI.out _).mono ?_; rintro e w' ⟨rfl, rfl⟩; go_wp2_with fail)
            (refine (IH1.out _).mono ?_; rintro e w' ⟨rfl, rfl⟩; go_wp2_with fail)
            go_ret
            exact ⟨ret_bool (by rw [HD.out]; rfl), rfl⟩
          | false =>
            go_enter Try.func142, Try.ntmps142
            go_wp2_with fail
            (refine (RP.out _).mono ?_; rintro e w' ⟨rfl, rfl⟩; go_wp2_with fail)
            (refine (RI.out _).mono ?_; rintro e w' ⟨rfl, rfl⟩; go_wp2_with fail)
            go_ret
            exact ⟨ret_bool (by rw [HD.out]; rfl), rfl⟩

theorem rOf_all (s m : ByteArray) (w : World) (hm : m.size ≤ 1000) (hs : s.size ≤ 1000000) :
    Calls Try.prog 142 #[.string s, .string m] w fun e w' => e = .returned (.bool (pctL (pathQ m.data.toList) s.data.toList)) ∧ w = w' := rOf_any m hm s.size s w (Nat.le_refl _) hs

end Go.Proofs.Ythhpijmkhhdhhaa
