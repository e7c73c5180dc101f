/- Contracts of package pathq (of, Path, Query, Cut, Join) and of the reference's Of, Path, Query, Mark. -/
import Derived.Test.YthhpijmkhhdhhaaDoorPct
import Derived.Test.YthhpijmkhhdhhaaDoorParts
import Derived.Deep.QuietTactic
import Derived.BigQuiet
import Derived.IntWalk
namespace Go.Proofs.YthhpijmkhhdhhaaDoor
open Go.RowKit
set_option linter.unusedVariables false
set_option linter.unusedSimpArgs false

theorem results_tmp4 {fn : Func} {t u v x : Tmp} (h : fn.results = #[.tmp t, .tmp u, .tmp v, .tmp x]) (tmps : Array Value) (P : Program) (w : World) :
    (results fn tmps).run P w = .ok (.tuple #[tmps.getD t undef, tmps.getD u undef, tmps.getD v undef, tmps.getD x undef]) w := by
  simp [results, h]
theorem belowN {A : Nat} {w w1 : World} (h : Below A w w1) (n : Nat) : Below A w (w1.drewN n) := ⟨h.os, h.tape, h.output, h.size, h.block⟩

theorem hasPrefix_any (s p : ByteArray) (w : World) : Calls Tryd.prog 67 #[.string s, .string p] w fun e w' => e = .returned (.bool (Lib.hasPrefix s.data.toList p.data.toList)) ∧ w = w' :=
  (Tryd.strings_HasPrefix s p w).mono fun _ _ ⟨h, g⟩ => ⟨h, g.symm⟩

theorem all_hex_below (t : ByteArray) (w0 w : World) (h : w0.alloc (.cells #[.string t] 9) = w) (ht : t.size ≤ 1000) :
    Calls Tryd.prog 91 #[.func (.func 65) #[] #[], .slice (some ⟨w0.heap.size, 0, none⟩) 1 1] w fun e w' => e = .returned (.bool (allB bHex t.data.toList)) ∧ w = w' := by
  subst h
  exact all_one 65 bHex t _ w0.heap.size 0 1 (by unfold maxLen; omega) (enter_of_name Tryd.func65 (by kernel_rfl) (by kernel_rfl)) (fun n w' a b => isHex_any n w' a b) (by simp)

set_option maxRecDepth 100000 in
set_option maxHeartbeats 1000000 in
theorem pOf_any (s m : ByteArray) (w : World) (hs : s.size ≤ 1000000) (hm : bOne 37 m.data.toList = false) :
    Calls Tryd.prog 68 #[.string s, .string m] w fun e w' => e = .returned (.bool (pctL (pathQ m.data.toList) s.data.toList)) ∧ Below w.heap.size w w' := by
  have hq37 : pathQ m.data.toList 37 = false := by unfold pathQ; rw [hm, path37]; rfl
  have HQ := Lib.hid hq37; clear hq37 hm
  go_enter Tryd.func68, Tryd.ntmps68
  go_wp2_with fail
  go_loopw [5] (fun i wr => ∃ k : Nat, k ≤ s.size ∧ i = .int .i64 k ∧ Hid (pctL (pathQ m.data.toList) s.data.toList = pctL (pathQ m.data.toList) (s.data.toList.drop k)) ∧ Hid (Below w.heap.size w wr)) (fun i _ => s.size - (intOf i).toNat)
  case atStart => exact ⟨0, Nat.zero_le _, rfl, rfl, Below.refl _ _⟩
  case round =>
    obtain ⟨k, hk, rfl, hp, hb⟩ := hrel
    by_cases hlt : k < s.size
    · have hx255 := u8_255 s[k]
      obtain ⟨x, hx⟩ : ∃ x, Lib.indexByte m.data.toList ((s[k].toNat : Int)).toNat.toUInt8 = x := ⟨_, rfl⟩
      have hxo := indexByte_bOne m.data.toList (s[k].toNat : Int) (by omega) hx255
      rw [hx] at hxo
      have IB := Lib.hid (fun w => stringsIndexByte_any m (s[k].toNat : Int) w)
      rw [hx] at IB
      have IP := Lib.hid (fun w => isPath_any (s[k].toNat : Int) w (by omega) hx255)
      have h0c : pathQ m.data.toList (s[k].toNat : Int) = (bPath (s[k].toNat : Int) || decide (0 ≤ x)) := by unfold pathQ; rw [hxo]
      clear hx hxo
      obtain ⟨pb, hpb⟩ : ∃ pb, bPath (s[k].toNat : Int) = pb := ⟨_, rfl⟩
      rw [hpb] at IP h0c
      clear hpb
      by_cases h37 : s[k].toNat = 37
      · have hc37 : ((s[k].toNat : Int) == 37) = true := by rw [h37]; rfl
        have hq0 : (pb || decide (0 ≤ x)) = false := by rw [← h0c, h37]; exact HQ.out
        simp only [Bool.or_eq_false_iff, decide_eq_false_iff_not] at hq0
        obtain ⟨rfl, hx0⟩ := hq0
        have hx1 : x < 0 := by omega
        clear h0c hx0
        by_cases h2 : k + 2 < s.size
        · have hd := hp.out
          rw [drop3 s k h2, pctL_pct _ _ _ _ _ h37, ← Bool.and_assoc] at hd
          have he := extract2 s k h2
          obtain ⟨ab, hab⟩ : ∃ ab, allB bHex (s.extract (k + 1) (k + 3)).data.toList = ab := ⟨_, rfl⟩
          have hab2 : (bHex (s[k + 1].toNat : Int) && bHex (s[k + 2].toNat : Int)) = ab := by rw [← hab, he]; simp [allB]
          rw [hab2] at hd
          have HD := Lib.hid hd; clear hd
          have AL := Lib.hid (fun w0 w h => all_hex_below (s.extract (k + 1) (k + 3)) w0 w h (by rw [Lib.size_eq, he]; simp))
          rw [hab] at AL
          have HK := Lib.hid h37; clear h37 he hab hab2
          have g1 : ((k : Int) + 2) < s.size := by omega
          have g2 : IntKind.i64.wrap ((k : Int) + 2) = (k : Int) + 2 := IntWalk.i64_in _ (by omega)
          go_wp2_with fail
          (refine (IP.out _).mono ?_; rintro e w' ⟨rfl, rfl⟩; go_wp2_with fail)
          (refine (IB.out _).mono ?_; rintro e w' ⟨rfl, rfl⟩; go_wp2_with fail)
          refine (AL.out _ _ rfl).mono ?_
          rintro e w2 ⟨rfl, hw2⟩
          have hb2 : Below w.heap.size w w2 := by rw [← hw2]; exact hb.out.alloc hb.out.size _
          have HB2 := Lib.hid hb2; clear hb2 hw2
          cases ab with
          | true =>
            have HN : Hid (pctL (pathQ m.data.toList) s.data.toList = pctL (pathQ m.data.toList) (s.data.toList.drop (k + 3))) := Lib.hid (by rw [HD.out]; rfl)
            have g3 : IntKind.i64.wrap ((k : Int) + 2 + 1) = (k : Int) + 3 := IntWalk.i64_in _ (by omega)
            go_wp2_with fail
            go_roundw
            case rel => exact ⟨k + 3, by omega, by go_num, HN.out, HB2.out⟩
            case measure => simp [intOf]; omega
          | false =>
            have HN : Hid (pctL (pathQ m.data.toList) s.data.toList = false) := Lib.hid (by rw [HD.out]; rfl)
            go_wp2_with fail
            go_ret
            exact ⟨ret_bool HN.out.symm, HB2.out⟩
        · obtain ⟨r, hr, hr2⟩ := drop_short s k hlt (by omega)
          have HN : Hid (pctL (pathQ m.data.toList) s.data.toList = false) := Lib.hid (by rw [hp.out, hr, pctL_short _ _ _ h37 hr2])
          have g1 : ¬ ((k : Int) + 2) < s.size := by omega
          have g2 : IntKind.i64.wrap ((k : Int) + 2) = (k : Int) + 2 := IntWalk.i64_in _ (by omega)
          have HK := Lib.hid h37; clear h37 hr hr2
          go_wp2_with fail
          (refine (IP.out _).mono ?_; rintro e w' ⟨rfl, rfl⟩; go_wp2_with fail)
          (refine (IB.out _).mono ?_; rintro e w' ⟨rfl, rfl⟩; go_wp2_with fail)
          go_ret
          exact ⟨ret_bool HN.out.symm, hb.out⟩
      · have hc37 : ((s[k].toNat : Int) == 37) = false := by rw [beq_eq_false_iff_ne]; omega
        have hd := hp.out
        rw [drop_cons s k hlt, pctL_plain _ _ _ h37, h0c] at hd
        have HD := Lib.hid hd; clear hd h0c
        have HK := Lib.hid h37; clear h37
        cases pb with
        | true =>
          have HN : Hid (pctL (pathQ m.data.toList) s.data.toList = pctL (pathQ m.data.toList) (s.data.toList.drop (k + 1))) := Lib.hid (by rw [HD.out]; rfl)
          go_wp2_with fail
          (refine (IP.out _).mono ?_; rintro e w' ⟨rfl, rfl⟩; go_wp2_with fail)
          go_roundw
          case rel => exact ⟨k + 1, by omega, by go_num, HN.out, hb.out⟩
          case measure => simp [intOf]; omega
        | false =>
          by_cases hx0 : 0 ≤ x
          · have HN : Hid (pctL (pathQ m.data.toList) s.data.toList = pctL (pathQ m.data.toList) (s.data.toList.drop (k + 1))) := Lib.hid (by rw [HD.out, decide_eq_true hx0]; rfl)
            go_wp2_with fail
            (refine (IP.out _).mono ?_; rintro e w' ⟨rfl, rfl⟩; go_wp2_with fail)
            (refine (IB.out _).mono ?_; rintro e w' ⟨rfl, rfl⟩; go_wp2_with fail)
            go_roundw
            case rel => exact ⟨k + 1, by omega, by go_num, HN.out, hb.out⟩
            case measure => simp [intOf]; omega
          · have HN : Hid (pctL (pathQ m.data.toList) s.data.toList = false) := Lib.hid (by rw [HD.out, decide_eq_false hx0]; rfl)
            have hx1 : x < 0 := by omega
            clear hx0
            go_wp2_with fail
            (refine (IP.out _).mono ?_; rintro e w' ⟨rfl, rfl⟩; go_wp2_with fail)
            (refine (IB.out _).mono ?_; rintro e w' ⟨rfl, rfl⟩; go_wp2_with fail)
            go_ret
            exact ⟨ret_bool HN.out.symm, hb.out⟩
    · obtain rfl : k = s.size := by omega
      have HN : Hid (pctL (pathQ m.data.toList) s.data.toList = true) := Lib.hid (by rw [hp.out, drop_all s _ (Nat.le_refl _)]; rfl)
      go_wp2_with fail
      go_ret
      exact ⟨ret_bool HN.out.symm, hb.out⟩

theorem slash_prefix (l : List UInt8) : Lib.hasPrefix l [47] = (l.head? == some 47) := by
  unfold Lib.hasPrefix
  cases l with
  | nil => rfl
  | cons c r => simp [List.isPrefixOf]; exact BEq.comm

theorem pPath_any (s : ByteArray) (w : World) (hs : s.size ≤ 1000000) :
    Calls Tryd.prog 26 #[.string s] w fun e w' => e = .returned (.bool (pathL s.data.toList)) ∧ Below w.heap.size w w' := by
  have HP := Lib.hid (fun w => hasPrefix_any s ⟨#[47]⟩ w)
  rw [show (⟨#[47]⟩ : ByteArray).data.toList = [47] from rfl, slash_prefix] at HP
  have OF := Lib.hid (fun w => pOf_any s ⟨#[47]⟩ w hs (by decide +kernel))
  rw [show (⟨#[47]⟩ : ByteArray).data.toList = [47] from rfl] at OF
  obtain ⟨hb, hhb⟩ : ∃ hb, (s.data.toList.head? == some 47) = hb := ⟨_, rfl⟩
  have HV : Hid (pathL s.data.toList = (hb && pctL (pathQ [47]) s.data.toList)) := Lib.hid (by unfold pathL; rw [hhb])
  rw [hhb] at HP
  clear hhb
  cases hb with
  | true =>
    go_enter Tryd.func26, Tryd.ntmps26
    go_wp2_with fail
    (refine (HP.out _).mono ?_; rintro e w' ⟨rfl, rfl⟩; go_wp2_with fail)
    refine (OF.out _).mono ?_
    rintro e w2 ⟨rfl, hb2⟩
    have HB2 := Lib.hid hb2; clear hb2
    go_wp2_with fail
    go_ret
    exact ⟨ret_bool (by rw [HV.out]; rfl), HB2.out⟩
  | false =>
    go_enter Tryd.func26, Tryd.ntmps26
    go_wp2_with fail
    (refine (HP.out _).mono ?_; rintro e w' ⟨rfl, rfl⟩; go_wp2_with fail)
    go_ret
    exact ⟨ret_bool (by rw [HV.out]; rfl), Below.refl _ _⟩

theorem pQuery_any (s : ByteArray) (w : World) (hs : s.size ≤ 1000000) :
    Calls Tryd.prog 28 #[.string s] w fun e w' => e = .returned (.bool (queryL s.data.toList)) ∧ Below w.heap.size w w' := by
  have OF := Lib.hid (fun w => pOf_any s ⟨#[47, 63]⟩ w hs (by decide +kernel))
  rw [show (⟨#[47, 63]⟩ : ByteArray).data.toList = [47, 63] from rfl] at OF
  go_enter Tryd.func28, Tryd.ntmps28
  go_wp2_with fail
  refine (OF.out _).mono ?_
  rintro e w2 ⟨rfl, hb2⟩
  have HB2 := Lib.hid hb2; clear hb2
  go_wp2_with fail
  go_ret
  exact ⟨rfl, HB2.out⟩

theorem size0 (s : ByteArray) (h : s.size = 0) : s.data.toList = [] := List.eq_nil_of_length_eq_zero (by rw [← Lib.size_eq]; exact h)
theorem empty_of_size (s : ByteArray) (h : s.size = 0) : s.toList = [] := by rw [Lib.toList_data]; exact size0 s h
theorem nonempty_of_size (s : ByteArray) (h : 0 < s.size) : s.toList.isEmpty = false := by
  rw [Lib.toList_data]
  cases hl : s.data.toList with
  | nil => have h0 : s.size = 0 := by rw [Lib.size_eq, hl]; rfl
           omega
  | cons => rfl

set_option maxRecDepth 100000 in
set_option maxHeartbeats 1000000 in
theorem rOf_any (m : ByteArray) (hm : m.size ≤ 1000) : ∀ (n : Nat) (s : ByteArray) (w : World), s.size ≤ n → s.size ≤ 1000000 →
    Calls Tryd.prog 69 #[.string s, .string m] w fun e w' => e = .returned (.bool (pctL (pathQ m.data.toList) s.data.toList)) ∧ w = w' := by
  intro n
  induction n with
  | zero =>
    intro s w h _
    have h0 : s.size = 0 := by omega
    have h1 := empty_of_size s h0
    have h2 : s.toList.isEmpty = true := by rw [h1]; rfl
    have HV : Hid (pctL (pathQ m.data.toList) s.data.toList = true) := Lib.hid (by rw [size0 s h0]; rfl)
    clear h0 h1
    go_enter Tryd.func69, Tryd.ntmps69
    go_wp2_with fail
    go_ret
    exact ⟨ret_bool HV.out.symm, rfl⟩
  | succ n ih =>
    intro s w h hs
    have IH := Lib.hid ih; clear ih
    by_cases h0 : s.size = 0
    · have h1 := empty_of_size s h0
      have h2 : s.toList.isEmpty = true := by rw [h1]; rfl
      have HV : Hid (pctL (pathQ m.data.toList) s.data.toList = true) := Lib.hid (by rw [size0 s h0]; rfl)
      clear h0 h1
      go_enter Tryd.func69, Tryd.ntmps69
      go_wp2_with fail
      go_ret
      exact ⟨ret_bool HV.out.symm, rfl⟩
    · have hpos : 0 < s.size := by omega
      have h1 := nonempty_of_size s hpos
      have hx255 := u8_255 s[0]
      have hl : s.data.toList = s[0] :: s.data.toList.drop 1 := by
        have := drop_cons s 0 hpos
        simpa using this
      by_cases h37 : s[0].toNat = 37
      · have hc37 : ((s[0].toNat : Int) == 37) = true := by rw [h37]; rfl
        by_cases h2 : 2 < s.size
        · have hd := pctL_pct (pathQ m.data.toList) s[0] s[1] s[2] (s.data.toList.drop 3) h37
          have hl3 := drop3 s 0 h2
          rw [List.drop_zero] at hl3
          simp only [Nat.zero_add] at hl3
          rw [← hl3] at hd
          have R1 := Lib.hid (fun w => rHex_any (s[1].toNat : Int) w (by omega) (u8_255 _))
          have R2 := Lib.hid (fun w => rHex_any (s[2].toNat : Int) w (by omega) (u8_255 _))
          have IH3 := Lib.hid (fun w => IH.out (s.extract 3 s.size) w (by rw [extract_tail_size]; omega) (by rw [extract_tail_size]; omega))
          rw [extract_tail] at IH3
          obtain ⟨a, ha⟩ : ∃ a, bHex (s[1].toNat : Int) = a := ⟨_, rfl⟩
          obtain ⟨b, hb⟩ : ∃ b, bHex (s[2].toNat : Int) = b := ⟨_, rfl⟩
          rw [ha] at hd R1
          rw [hb] at hd R2
          have HD := Lib.hid hd; clear hd ha hb hl hl3 h0 IH
          have HK := Lib.hid h37; clear h37
          have g1 : (2 : Int) < s.size := by omega
          have g2 : (3 : Int) ≤ s.size := by omega
          cases a with
          | false =>
            go_enter Tryd.func69, Tryd.ntmps69
            go_wp2_with fail
            (refine (R1.out _).mono ?_; rintro e w' ⟨rfl, rfl⟩; go_wp2_with fail)
            go_ret
            exact ⟨ret_bool (by rw [HD.out]; rfl), rfl⟩
          | true =>
            cases b with
            | false =>
              go_enter Tryd.func69, Tryd.ntmps69
              go_wp2_with fail
              (refine (R1.out _).mono ?_; rintro e w' ⟨rfl, rfl⟩; go_wp2_with fail)
              (refine (R2.out _).mono ?_; rintro e w' ⟨rfl, rfl⟩; go_wp2_with fail)
              go_ret
              exact ⟨ret_bool (by rw [HD.out]; rfl), rfl⟩
            | true =>
              go_enter Tryd.func69, Tryd.ntmps69
              go_wp2_with fail
              (refine (R1.out _).mono ?_; rintro e w' ⟨rfl, rfl⟩; go_wp2_with fail)
              (refine (R2.out _).mono ?_; rintro e w' ⟨rfl, rfl⟩; go_wp2_with fail)
              (refine (IH3.out _).mono ?_; rintro e w' ⟨rfl, rfl⟩; go_wp2_with fail)
              go_ret
              exact ⟨ret_bool (by rw [HD.out]; rfl), rfl⟩
        · have HV : Hid (pctL (pathQ m.data.toList) s.data.toList = false) := Lib.hid (by rw [hl]; exact pctL_short _ _ _ h37 (by rw [List.length_drop, ← Lib.size_eq]; omega))
          have g1 : ¬ (2 : Int) < s.size := by omega
          have HK := Lib.hid h37; clear h37 hl h0 h2
          go_enter Tryd.func69, Tryd.ntmps69
          go_wp2_with fail
          go_ret
          exact ⟨ret_bool HV.out.symm, rfl⟩
      · have hc37 : ((s[0].toNat : Int) == 37) = false := by rw [beq_eq_false_iff_ne]; omega
        have hd := pctL_plain (pathQ m.data.toList) s[0] (s.data.toList.drop 1) h37
        rw [← hl] at hd
        have RP := Lib.hid (fun w => rPath_any (s[0].toNat : Int) w (by omega) hx255)
        have RI := Lib.hid (fun w => in_any (s[0].toNat : Int) m w (by unfold maxLen; omega))
        have IH1 := Lib.hid (fun w => IH.out (s.extract 1 s.size) w (by rw [extract_tail_size]; omega) (by rw [extract_tail_size]; omega))
        rw [extract_tail] at IH1
        have hq : pathQ m.data.toList (s[0].toNat : Int) = (bPath (s[0].toNat : Int) || bOne (s[0].toNat : Int) m.data.toList) := rfl
        rw [hq] at hd
        obtain ⟨v, hv⟩ : ∃ v, pctL (pathQ m.data.toList) (s.data.toList.drop 1) = v := ⟨_, rfl⟩
        rw [hv] at hd IH1
        obtain ⟨a, ha⟩ : ∃ a, bPath (s[0].toNat : Int) = a := ⟨_, rfl⟩
        obtain ⟨b, hb⟩ : ∃ b, bOne (s[0].toNat : Int) m.data.toList = b := ⟨_, rfl⟩
        rw [ha, hb] at hd
        rw [ha] at RP
        rw [hb] at RI
        have HD := Lib.hid hd; clear hd ha hb hl h0 IH hq hv
        have HK := Lib.hid h37; clear h37
        have g2 : (1 : Int) ≤ s.size := by omega
        cases a with
        | true =>
          go_enter Tryd.func69, Tryd.ntmps69
          go_wp2_with fail
          (refine (RP.out _).mono ?_; rintro e w' ⟨rfl, rfl⟩; go_wp2_with fail)
          (refine (IH1.out _).mono ?_; rintro e w' ⟨rfl, rfl⟩; go_wp2_with fail)
          go_ret
          exact ⟨ret_bool (by rw [HD.out]; rfl), rfl⟩
        | false =>
          cases b with
          | true =>
            go_enter Tryd.func69, Tryd.ntmps69
            go_wp2_with fail
            (refine (RP.out _).mono ?_; rintro e w' ⟨rfl, rfl⟩; go_wp2_with fail)
            (refine (RI.out _).mono ?_; rintro e w' ⟨rfl, rfl⟩; go_wp2_with fail)
            (refine (IH1.out _).mono ?_; rintro e w' ⟨rfl, rfl⟩; go_wp2_with fail)
            go_ret
            exact ⟨ret_bool (by rw [HD.out]; rfl), rfl⟩
          | false =>
            go_enter Tryd.func69, Tryd.ntmps69
            go_wp2_with fail
            (refine (RP.out _).mono ?_; rintro e w' ⟨rfl, rfl⟩; go_wp2_with fail)
            (refine (RI.out _).mono ?_; rintro e w' ⟨rfl, rfl⟩; go_wp2_with fail)
            go_ret
            exact ⟨ret_bool (by rw [HD.out]; rfl), rfl⟩

theorem rOf_all (s m : ByteArray) (w : World) (hm : m.size ≤ 1000) (hs : s.size ≤ 1000000) :
    Calls Tryd.prog 69 #[.string s, .string m] w fun e w' => e = .returned (.bool (pctL (pathQ m.data.toList) s.data.toList)) ∧ w = w' := rOf_any m hm s.size s w (Nat.le_refl _) hs

theorem rPath9_any (s : ByteArray) (w : World) (hs : s.size ≤ 1000000) :
    Calls Tryd.prog 27 #[.string s] w fun e w' => e = .returned (.bool (pathL s.data.toList)) ∧ w = w' := by
  have OF := Lib.hid (fun w => rOf_all s ⟨#[47]⟩ w (by decide) hs)
  rw [show (⟨#[47]⟩ : ByteArray).data.toList = [47] from rfl] at OF
  obtain ⟨v, hv⟩ : ∃ v, pctL (pathQ [47]) s.data.toList = v := ⟨_, rfl⟩
  rw [hv] at OF
  by_cases h0 : s.size = 0
  · have HV : Hid (pathL s.data.toList = false) := Lib.hid (by rw [size0 s h0]; rfl)
    have g0 : ¬ (0 : Int) < s.size := by omega
    clear h0 hv
    go_enter Tryd.func27, Tryd.ntmps27
    go_wp2_with fail
    go_ret
    exact ⟨ret_bool HV.out.symm, rfl⟩
  · have hpos : 0 < s.size := by omega
    have hl : s.data.toList = s[0] :: s.data.toList.drop 1 := by
      have := drop_cons s 0 hpos
      simpa using this
    have hd : pathL s.data.toList = (((s[0].toNat : Int) == 47) && v) := by
      unfold pathL
      rw [hv]
      congr 1
      rw [hl, List.head?_cons, Bool.eq_iff_iff]
      simp only [beq_iff_eq, Option.some.injEq]
      constructor
      · intro e; rw [e]; rfl
      · intro e; exact UInt8.toNat_inj.1 (by rw [show (47 : UInt8).toNat = 47 from rfl]; omega)
    have HD := Lib.hid hd; clear hd hv hl h0
    have g0 : (0 : Int) < s.size := by omega
    cases hb : ((s[0].toNat : Int) == 47) with
    | true =>
      have HB := Lib.hid hb
      go_enter Tryd.func27, Tryd.ntmps27
      go_wp2_with fail
      (refine (OF.out _).mono ?_; rintro e w' ⟨rfl, rfl⟩; go_wp2_with fail)
      go_ret
      exact ⟨ret_bool (by rw [HD.out, HB.out]; rfl), rfl⟩
    | false =>
      have HB := Lib.hid hb
      go_enter Tryd.func27, Tryd.ntmps27
      go_wp2_with fail
      go_ret
      exact ⟨ret_bool (by rw [HD.out, HB.out]; rfl), rfl⟩

theorem rQuery9_any (s : ByteArray) (w : World) (hs : s.size ≤ 1000000) :
    Calls Tryd.prog 29 #[.string s] w fun e w' => e = .returned (.bool (queryL s.data.toList)) ∧ w = w' := by
  have OF := Lib.hid (fun w => rOf_all s ⟨#[47, 63]⟩ w (by decide) hs)
  rw [show (⟨#[47, 63]⟩ : ByteArray).data.toList = [47, 63] from rfl] at OF
  go_enter Tryd.func29, Tryd.ntmps29
  go_wp2_with fail
  (refine (OF.out _).mono ?_; rintro e w' ⟨rfl, rfl⟩; go_wp2_with fail)
  go_ret
  exact ⟨rfl, rfl⟩

theorem markN_take (c : UInt8) (s : ByteArray) (k : Nat) (h : k < s.size) (hall : ∀ x ∈ s.data.toList.take k, x ≠ c) (hx : s[k] = c) : markN c s.data.toList = k := by
  have e : s.data.toList = s.data.toList.take k ++ s[k] :: s.data.toList.drop (k + 1) := by rw [← drop_cons s k h, List.take_append_drop]
  rw [hx] at e
  rw [e, markN_hit _ _ hall, List.length_take, ← Lib.size_eq]
  omega

theorem rMark_any (s : ByteArray) (w : World) (hs : s.size ≤ 1000000) :
    Calls Tryd.prog 34 #[.string s] w fun e w' => e = .returned (.int .i64 (markN 63 s.data.toList : Nat)) ∧ w = w' := by
  go_enter Tryd.func34, Tryd.ntmps34
  go_wp2_with fail
  go_loop [3] (fun i => ∃ k : Nat, k ≤ s.size ∧ i = .int .i64 k ∧ Hid (∀ x ∈ s.data.toList.take k, x ≠ 63)) (fun i => s.size - (intOf i).toNat)
  case atStart => exact ⟨0, Nat.zero_le _, rfl, Lib.hid (by simp)⟩
  case round =>
    obtain ⟨k, hk, rfl, hall⟩ := hrel
    by_cases hlt : k < s.size
    · by_cases hx : s[k] = 63
      · have HV : Hid (markN 63 s.data.toList = k) := Lib.hid (markN_take 63 s k hlt hall.out hx)
        have g1 : ((s[k].toNat : Int) == 63) = true := by rw [hx]; rfl
        have g2 : ((s[k].toNat : Int) != 63) = false := by rw [hx]; rfl
        clear hx
        go_wp2_with fail
        go_ret
        exact ⟨ret_int (by rw [HV.out]), rfl⟩
      · have HN : Hid (∀ x ∈ s.data.toList.take (k + 1), x ≠ 63) := Lib.hid (by
          rw [take_snoc s k hlt]
          intro y hy
          rcases List.mem_append.1 hy with h | h
          · exact hall.out y h
          · simp at h; subst h; exact hx)
        have g1 : ((s[k].toNat : Int) == 63) = false := by
          rw [beq_eq_false_iff_ne]; intro e; exact hx (UInt8.toNat_inj.1 (by rw [show (63 : UInt8).toNat = 63 from rfl]; omega))
        have g2 : ((s[k].toNat : Int) != 63) = true := by rw [bne, g1]; rfl
        clear hx
        go_wp2_with fail
        go_round
        case rel => exact ⟨k + 1, by omega, by go_num, HN.out⟩
        case measure => simp [intOf]; omega
    · obtain rfl : k = s.size := by omega
      have HV : Hid (markN 63 s.data.toList = s.size) := Lib.hid (by
        have h := hall.out
        rw [List.take_of_length_le (by rw [← Lib.size_eq]; omega)] at h
        rw [markN_none h, Lib.size_eq])
      go_wp2_with fail
      go_ret
      exact ⟨ret_int (by rw [HV.out]), rfl⟩

theorem cut63 (s : ByteArray) (w : World) (m : Int) (hs : s.size ≤ 1000000) (hm : w.cell? ⟨0, 0, none⟩ = some (.int .i64 m)) :
    Calls Tryd.prog 72 #[.string s, .string ⟨#[63]⟩] w fun e w' => e = .returned (.tuple #[.string ⟨(s.data.toList.take (markN 63 s.data.toList)).toArray⟩, .string ⟨(s.data.toList.drop (markN 63 s.data.toList + 1)).toArray⟩, .bool (decide (markN 63 s.data.toList < s.data.toList.length))]) ∧ ∃ n, w' = w.drewN n := by
  have h := Tryd.strings_Cut s ⟨#[63]⟩ m w (by omega) hm
  rw [show (⟨#[63]⟩ : ByteArray).data.toList = [63] from rfl, cut_mark] at h
  exact h

def MaxAt (w : World) : Prop := ∃ m, w.cell? ⟨0, 0, none⟩ = some (.int .i64 m) ∧ 0 < w.heap.size
theorem maxAt_below {w w1 : World} (h : MaxAt w) (hb : Below w.heap.size w w1) : MaxAt w1 := by
  obtain ⟨m, h1, h2⟩ := h
  exact ⟨m, by rw [hb.cell (by exact h2)]; exact h1, Nat.lt_of_lt_of_le h2 hb.size⟩

theorem ret_ssbi {a b a' b' : ByteArray} {x y : Bool} {i j : Int} (h1 : a = a') (h2 : b = b') (h3 : x = y) (h4 : i = j) : Ending.returned (.tuple #[.string a, .string b, .bool x, .int .i64 i]) = .returned (.tuple #[.string a', .string b', .bool y, .int .i64 j]) := by rw [h1, h2, h3, h4]

/-- What Cut answers. -/
def cutP (l : List UInt8) : List UInt8 := l.take (markN 63 l)
def cutQ (l : List UInt8) : List UInt8 := l.drop (markN 63 l + 1)
def cutOk (l : List UInt8) : Bool := pathL (cutP l) && queryL (cutQ l)
def cutHas (l : List UInt8) : Bool := decide (markN 63 l < l.length)
def CutPost (w : World) (l : List UInt8) (e : Ending) (w' : World) : Prop :=
  e = .returned (.tuple #[.string ⟨(if cutOk l then cutP l else []).toArray⟩, .string ⟨(if cutOk l then cutQ l else []).toArray⟩, .bool (cutOk l && cutHas l), .int .i64 (if cutOk l then 0 else 2)]) ∧ Below w.heap.size w w'
theorem cutPost_no {w w' : World} {l : List UInt8} (h : cutOk l = false) (hb : Below w.heap.size w w') : CutPost w l (.returned (.tuple #[.string ⟨#[]⟩, .string ⟨#[]⟩, .bool false, .int .i64 2])) w' := by
  unfold CutPost; rw [h]; exact ⟨rfl, hb⟩
theorem cutPost_yes {w w' : World} {l : List UInt8} (h : cutOk l = true) (hb : Below w.heap.size w w') : CutPost w l (.returned (.tuple #[.string ⟨(cutP l).toArray⟩, .string ⟨(cutQ l).toArray⟩, .bool (cutHas l), .int .i64 0])) w' := by
  unfold CutPost; rw [h]; exact ⟨rfl, hb⟩

set_option maxRecDepth 100000 in
set_option maxHeartbeats 1000000 in
theorem pCut_any (s : ByteArray) (w : World) (hs : s.size ≤ 1000000) (hM : MaxAt w) : Calls Tryd.prog 33 #[.string s] w (CutPost w s.data.toList) := by
  obtain ⟨m, hm, _⟩ := hM
  have C := Lib.hid (cut63 s w m hs hm); clear hm
  have hP : (⟨(s.data.toList.take (markN 63 s.data.toList)).toArray⟩ : ByteArray).size ≤ 1000000 := by
    rw [Lib.size_eq]; show (s.data.toList.take _).length ≤ _; rw [List.length_take, ← Lib.size_eq]; omega
  have hQ : (⟨(s.data.toList.drop (markN 63 s.data.toList + 1)).toArray⟩ : ByteArray).size ≤ 1000000 := by
    rw [Lib.size_eq]; show (s.data.toList.drop _).length ≤ _; rw [List.length_drop, ← Lib.size_eq]; omega
  have PP := Lib.hid (fun w => pPath_any _ w hP)
  have QQ := Lib.hid (fun w => pQuery_any _ w hQ)
  have PP : Hid (∀ w, Calls Tryd.prog 26 #[.string ⟨(cutP s.data.toList).toArray⟩] w fun e w' => e = .returned (.bool (pathL (cutP s.data.toList))) ∧ Below w.heap.size w w') := PP
  have QQ : Hid (∀ w, Calls Tryd.prog 28 #[.string ⟨(cutQ s.data.toList).toArray⟩] w fun e w' => e = .returned (.bool (queryL (cutQ s.data.toList))) ∧ Below w.heap.size w w') := QQ
  have C : Hid (Calls Tryd.prog 72 #[.string s, .string ⟨#[63]⟩] w fun e w' => e = .returned (.tuple #[.string ⟨(cutP s.data.toList).toArray⟩, .string ⟨(cutQ s.data.toList).toArray⟩, .bool (cutHas s.data.toList)]) ∧ ∃ n, w' = w.drewN n) := C
  have POST := Lib.hid (fun w' hb h => cutPost_yes (w := w) (w' := w') (l := s.data.toList) h hb)
  have POSTN := Lib.hid (fun w' hb h => cutPost_no (w := w) (w' := w') (l := s.data.toList) h hb)
  have hok : cutOk s.data.toList = (pathL (cutP s.data.toList) && queryL (cutQ s.data.toList)) := rfl
  obtain ⟨a, ha⟩ : ∃ a, pathL (cutP s.data.toList) = a := ⟨_, rfl⟩
  obtain ⟨b, hb⟩ : ∃ b, queryL (cutQ s.data.toList) = b := ⟨_, rfl⟩
  rw [ha] at PP hok
  rw [hb] at QQ hok
  have HOK := Lib.hid hok; clear hok ha hb hP hQ
  obtain ⟨bP, hbP⟩ : ∃ x : ByteArray, ⟨(cutP s.data.toList).toArray⟩ = x := ⟨_, rfl⟩
  obtain ⟨bQ, hbQ⟩ : ∃ x : ByteArray, ⟨(cutQ s.data.toList).toArray⟩ = x := ⟨_, rfl⟩
  obtain ⟨hs, hhs⟩ : ∃ x, cutHas s.data.toList = x := ⟨_, rfl⟩
  rw [hbP] at PP C POST
  rw [hbQ] at QQ C POST
  rw [hhs] at C POST
  clear hbP hbQ hhs
  go_enter Tryd.func33, Tryd.ntmps33
  go_wp2_with fail
  refine C.out.mono ?_
  rintro e w1 ⟨rfl, nd, rfl⟩
  go_wp2_with fail
  refine (PP.out _).mono ?_
  rintro e w2 ⟨rfl, hb2⟩
  have HB2 : Hid (Below w.heap.size w w2) := Lib.hid (bseq (w1 := w.drewN nd) (belowN (Below.refl _ _) nd) hb2)
  clear hb2
  cases a with
  | false =>
    go_wp2_with fail
    refine bodyPost_ret (results_tmp4 rfl _ _ _) rfl ?_
    exact POSTN.out _ HB2.out (by rw [HOK.out]; rfl)
  | true =>
    go_wp2_with fail
    refine (QQ.out _).mono ?_
    rintro e w3 ⟨rfl, hb3⟩
    have HB3 : Hid (Below w.heap.size w w3) := Lib.hid (bseq HB2.out hb3)
    clear hb3
    cases b with
    | false =>
      go_wp2_with fail
      refine bodyPost_ret (results_tmp4 rfl _ _ _) rfl ?_
      exact POSTN.out _ HB3.out (by rw [HOK.out]; rfl)
    | true =>
      go_wp2_with fail
      refine bodyPost_ret (results_tmp4 rfl _ _ _) rfl ?_
      exact POST.out _ HB3.out (by rw [HOK.out]; rfl)

theorem pJoin_any (p q : ByteArray) (has : Bool) (w : World) (hp : p.size ≤ 1000000) (hq : q.size ≤ 1000000) :
    Calls Tryd.prog 35 #[.string p, .string q, .bool has] w fun e w' => e = .returned (.string (if has then p ++ ⟨#[63]⟩ ++ q else p)) ∧ w = w' := by
  cases has with
  | true =>
    go_enter Tryd.func35, Tryd.ntmps35
    go_wp2_with fail
    go_ret
    exact ⟨rfl, rfl⟩
  | false =>
    go_enter Tryd.func35, Tryd.ntmps35
    go_wp2_with fail
    go_ret
    exact ⟨rfl, rfl⟩

end Go.Proofs.YthhpijmkhhdhhaaDoor
