/- quoted.Quote, Either, and the reference's. -/
import Derived.Test.YthhpijmkhhdhhaaQPure
import Derived.Test.YthhpijmkhhdhhaaRFold
namespace Go.Proofs.Ythhpijmkhhdhhaa
open Go.RowKit
set_option linter.unusedVariables false
set_option linter.unusedSimpArgs false

def tT : Option (List UInt8) → ByteArray | some p => ⟨p.toArray⟩ | none => ⟨#[]⟩
def tE : Option (List UInt8) → Int | some p => 0 | none => 2
def quoteO (l : List UInt8) : Option (List UInt8) := if allB bValue l = true then some (quoteL l) else none
theorem eitherL_eq (l : List UInt8) : eitherL l = if tokenL l = true then some l else quoteO l := rfl

theorem ret_si {a c : ByteArray} {b d : Int} (h : a = c) (h2 : b = d) : Ending.returned (.tuple #[.string a, .int .i64 b]) = .returned (.tuple #[.string c, .int .i64 d]) := by rw [h, h2]

theorem esc_yes (x : UInt8) (h : (x.toNat : Int) = 34 ∨ (x.toNat : Int) = 92) : escB x = [92, x] := by unfold escB; rw [if_pos h]
theorem esc_no (x : UInt8) (h1 : ¬ (x.toNat : Int) = 34) (h2 : ¬ (x.toNat : Int) = 92) : escB x = [x] := by unfold escB; rw [if_neg (by rintro (h | h) <;> contradiction)]

theorem esc_take (s : ByteArray) (k : Nat) (h : k < s.size) : (34 :: escL (s.data.toList.take (k + 1))) = (34 :: escL (s.data.toList.take k)) ++ escB s[k] := by
  rw [take_snoc s k h, escL_snoc]; rfl

theorem esc_take_len (s : ByteArray) (k : Nat) : (34 :: escL (s.data.toList.take k)).length ≤ 2 * k + 1 := by
  have h := escL_len (s.data.toList.take k)
  rw [List.length_take] at h
  rw [List.length_cons]; omega

theorem own_le {w w' : World} {base : Nat} {e : TypeId} {size : Nat} {v : Value} {n : Nat} {xs : List Value} (h : w.ownsRow base e size v n xs) (hg : w.grownBy w' v.ownBlock) (hb : base ≤ w.heap.size) : base ≤ w'.heap.size := Nat.le_trans hb hg.size

theorem own_lit (w : World) (e : TypeId) (u : Value) : (w.alloc (.cells #[u] e)).ownsRow w.heap.size e 1 (.slice (some ⟨w.heap.size, 0, none⟩) 1 1) 1 [u] :=
  ⟨by simp, .inr ⟨w.heap.size, 1, #[u], rfl, Nat.le_refl _, heap_alloc_new w _, Nat.le_refl _, by decide, by simp, by simp⟩⟩

theorem quote_snoc {w : World} {B g cp : Nat} {L : List UInt8} {x : UInt8} (h : w.ownsRow B 5 1 (.slice (some ⟨g, 0, none⟩) (L.length + 1) cp) (L.length + 1) (u8cells L ++ [.int .u8 (x.toNat : Int)])) :
    w.ownsRow B 5 1 (.slice (some ⟨g, 0, none⟩) (L.length + 1) cp) (L ++ [x]).length (u8cells (L ++ [x])) := by
  rw [u8cells_append, List.length_append]; exact h

set_option maxRecDepth 100000 in
set_option maxHeartbeats 1000000 in
theorem quote_any (s : ByteArray) (w : World) (hs : s.size ≤ 1000000) :
    Calls Try.prog 74 #[.string s] w fun e w' => e = .returned (.tuple #[.string (tT (quoteO s.data.toList)), .int .i64 (tE (quoteO s.data.toList))]) ∧ Below w.heap.size w w' := by
  have hk := enter_of_name Try.func42 (by kernel_rfl) (by kernel_rfl)
  have hal : Below w.heap.size w (w.alloc (.cells #[.string s] 9)) := (Below.refl _ _).alloc (Nat.le_refl _) _
  have ALL := Lib.hid (all_one _ bValue s (w.alloc (.cells #[.string s] 9)) w.heap.size 0 1 (by unfold maxLen; omega) hk (fun n w' a b => isValue_any n w') (by simp))
  clear hk
  by_cases hv : allB bValue s.data.toList = true
  · rw [hv] at ALL
    have hq : quoteO s.data.toList = some (quoteL s.data.toList) := by unfold quoteO; rw [if_pos hv]
    rw [hq]
    have HB := Lib.hid hal; clear hal
    clear hq hv
    go_enter Try.func74, Try.ntmps74
    go_wp2_with fail
    refine ALL.out.mono ?_
    rintro e w1 ⟨rfl, hw1⟩
    have hb1 := HB.out
    rw [hw1] at hb1
    clear hw1 ALL HB
    have hown : (w1.alloc (.cells #[.int .u8 34] 5)).ownsRow w1.heap.size 5 1 (.slice (some ⟨w1.heap.size, 0, none⟩) 1 1) 1 (u8cells [34]) :=
      own_lit w1 _ _
    have hb2 : Below w.heap.size w (w1.alloc (.cells #[.int .u8 34] 5)) := hb1.alloc hb1.size _
    obtain ⟨B, hB⟩ : ∃ B, B = w1.heap.size := ⟨_, rfl⟩
    have hB2 : B ≤ (w1.alloc (.cells #[.int .u8 34] 5)).heap.size := by simp; omega
    have hB3 : w.heap.size ≤ B := by have := hb1.size; omega
    rw [← hB] at hown
    have HO := Lib.hid hown; clear hown
    have HB := Lib.hid hb2; clear hb2 hb1
    have HBE := Lib.hid hB; clear hB
    go_wp2_with fail
    rw [← HBE.out]
    generalize w1.alloc (.cells #[.int .u8 34] 5) = w2 at HO HB hB2
    go_loopw [4, 5, 13] (fun out _ i wr => ∃ k : Nat, k ≤ s.size ∧ i = .int .i64 k ∧ Hid (wr.ownsRow B 5 1 out (34 :: escL (s.data.toList.take k)).length (u8cells (34 :: escL (s.data.toList.take k)))) ∧ Hid (Below w.heap.size w wr) ∧ B ≤ wr.heap.size) (fun _ _ i _ => s.size - (intOf i).toNat)
    case atStart => exact ⟨0, Nat.zero_le _, rfl, HO.out, HB.out, hB2⟩
    case round =>
      obtain ⟨k, hkk, rfl, hown, hbl, hBl⟩ := hrel
      clear HO HB hB2
      obtain ⟨L, hL⟩ : ∃ L, L = 34 :: escL (s.data.toList.take k) := ⟨_, rfl⟩
      have hlen := esc_take_len s k
      rw [← hL] at hown hlen
      by_cases hlt : k < s.size
      · have hst := esc_take s k hlt
        rw [← hL] at hst
        obtain ⟨x, hx⟩ : ∃ x, s[k] = x := ⟨_, rfl⟩
        rw [hx] at hst
        have HL := Lib.hid hL; clear hL
        have HST := Lib.hid hst; clear hst
        by_cases hc : (x.toNat : Int) = 34 ∨ (x.toNat : Int) = 92
        · have hcase : (((x.toNat : Int) == 34) = true) ∨ (((x.toNat : Int) == 34) = false ∧ ((x.toNat : Int) == 92) = true) := by
            rcases hc with h | h
            · left; simp [h]
            · right; simp [h]
          have HE := Lib.hid (esc_yes x hc)
          clear hc
          rcases hcase with h34 | ⟨h34, h92⟩
          all_goals
            go_wp2_with (at_builtin; refine app_one 29 5 (.int .u8 0) 1 Try.underlying29 info_u8 rfl (by rfl) (.tmp 26) (.tmp 27) (by rfl) wr B _ L.length (u8cells L) (.int .u8 92) (by rfl) hown.out (by rfl) rfl ?_ ?_ ?_ ?_)
            · omega
            · unfold maxLen; omega
            · exact hBl
            intro g cp w3 hown3 hg3 hat3 hbg3 hgl3
            have hB3' : Below w.heap.size w w3 := app_below hbl.out hown.out hg3 hB3 (Nat.le_trans hB3 hBl)
            have hBl3 := own_le hown.out hg3 hBl
            have h3 := quote_snoc (x := 92) hown3
            have hl2 : (L ++ [(92 : UInt8)]).length = L.length + 1 := by simp
            have HO3 := Lib.hid h3; clear h3 hown3 hg3 hat3
            have HB3 := Lib.hid hB3'; clear hB3'
            go_wp2_with (at_builtin; refine app_one 29 5 (.int .u8 0) 1 Try.underlying29 info_u8 rfl (by rfl) (.tmp 29) (.tmp 33) (by rfl) w3 B _ (L ++ [(92 : UInt8)]).length (u8cells (L ++ [(92 : UInt8)])) (.int .u8 (x.toNat : Int)) (by rfl) HO3.out (by rfl) rfl ?_ ?_ ?_ ?_)
            · omega
            · unfold maxLen; omega
            · exact hBl3
            intro g4 cp4 w4 hown4 hg4 hat4 hbg4 hgl4
            have hB4' : Below w.heap.size w w4 := app_below HB3.out HO3.out hg4 hB3 (Nat.le_trans hB3 hBl3)
            have hBl4 := own_le HO3.out hg4 hBl3
            have h4 := quote_snoc (L := L ++ [92]) (x := x) (by rw [hl2]; exact hown4)
            have HO4 := Lib.hid h4; clear h4 hown4 hg4 hat4
            have HB4 := Lib.hid hB4'; clear hB4'
            go_wp2_with fail
            go_roundw
            case rel =>
              refine ⟨k + 1, by omega, by go_num, ?_, HB4.out, hBl4⟩
              have h5 := HO4.out
              have e : (L ++ [92]) ++ [x] = 34 :: escL (s.data.toList.take (k + 1)) := by rw [HST.out, HE.out, List.append_assoc]; rfl
              rw [e, hl2] at h5
              exact h5
            case measure => simp [intOf]; omega
        · have h34 : ((x.toNat : Int) == 34) = false := by simp; omega
          have h92 : ((x.toNat : Int) == 92) = false := by simp; omega
          have HE := Lib.hid (esc_no x (by omega) (by omega))
          clear hc
          go_wp2_with (at_builtin; refine app_one 29 5 (.int .u8 0) 1 Try.underlying29 info_u8 rfl (by rfl) (.tmp 29) (.tmp 33) (by rfl) wr B _ L.length (u8cells L) (.int .u8 (x.toNat : Int)) (by rfl) hown.out (by rfl) rfl ?_ ?_ ?_ ?_)
          · omega
          · unfold maxLen; omega
          · exact hBl
          intro g4 cp4 w4 hown4 hg4 hat4 hbg4 hgl4
          have hB4' : Below w.heap.size w w4 := app_below hbl.out hown.out hg4 hB3 (Nat.le_trans hB3 hBl)
          have hBl4 := own_le hown.out hg4 hBl
          have h4 := quote_snoc (x := x) hown4
          have HO4 := Lib.hid h4; clear h4 hown4 hg4 hat4
          have HB4 := Lib.hid hB4'; clear hB4'
          go_wp2_with fail
          go_roundw
          case rel =>
            refine ⟨k + 1, by omega, by go_num, ?_, HB4.out, hBl4⟩
            have h5 := HO4.out
            have e : L ++ [x] = 34 :: escL (s.data.toList.take (k + 1)) := by rw [HST.out, HE.out]
            rw [e] at h5
            exact h5
          case measure => simp [intOf]; omega
      · obtain rfl : k = s.size := by omega
        have HL := Lib.hid hL; clear hL
        go_wp2_with (at_builtin; refine app_one 29 5 (.int .u8 0) 1 Try.underlying29 info_u8 rfl (by rfl) (.tmp 36) (.tmp 37) (by rfl) wr B _ L.length (u8cells L) (.int .u8 34) (by rfl) hown.out (by rfl) rfl ?_ ?_ ?_ ?_)
        · omega
        · unfold maxLen; omega
        · exact hBl
        intro g4 cp4 w4 hown4 hg4 hat4 hbg4 hgl4
        have hB4' : Below w.heap.size w w4 := app_below hbl.out hown.out hg4 hB3 (Nat.le_trans hB3 hBl)
        have hcv := conv_own w4 B _ _ (quote_snoc (x := 34) hown4)
        have HB4 := Lib.hid hB4'; clear hB4' hown4 hg4 hat4
        go_wp2_with fail
        go_ret2
        refine ⟨ret_si ?_ rfl, HB4.out⟩
        show _ = (⟨(quoteL s.data.toList).toArray⟩ : ByteArray)
        have e : L ++ [34] = quoteL s.data.toList := by rw [HL.out, List.take_of_length_le (by simp)]; rfl
        rw [e]
  · rw [Bool.not_eq_true] at hv
    rw [hv] at ALL
    have hq : quoteO s.data.toList = none := by unfold quoteO; rw [if_neg (by rw [hv]; simp)]
    rw [hq]
    have HB := Lib.hid hal; clear hal
    clear hq hv
    go_enter Try.func74, Try.ntmps74
    go_wp2_with fail
    refine ALL.out.mono ?_
    rintro e w1 ⟨rfl, hw1⟩
    have hb1 := HB.out
    rw [hw1] at hb1
    clear hw1 ALL
    go_wp2_with fail
    go_ret2
    exact ⟨ret_si rfl rfl, hb1⟩

theorem either_any (s : ByteArray) (w : World) (hs : s.size ≤ 1000000) :
    Calls Try.prog 76 #[.string s] w fun e w' => e = .returned (.tuple #[.string (tT (eitherL s.data.toList)), .int .i64 (tE (eitherL s.data.toList))]) ∧ Below w.heap.size w w' := by
  have TK := Lib.hid (token_any s w (by unfold maxLen; omega))
  by_cases ht : tokenL s.data.toList = true
  · have he : eitherL s.data.toList = some s.data.toList := by unfold eitherL; rw [if_pos ht]
    rw [ht] at TK
    rw [he]
    clear he
    go_enter Try.func76, Try.ntmps76
    go_wp2_with fail
    refine TK.out.mono ?_
    rintro e w1 ⟨rfl, hb1⟩
    have HB := Lib.hid hb1; clear hb1
    go_wp2_with fail
    go_ret2
    exact ⟨ret_si (by show s = (⟨s.data.toList.toArray⟩ : ByteArray); apply ByteArray.ext; simp) rfl, HB.out⟩
  · have he : eitherL s.data.toList = quoteO s.data.toList := by rw [eitherL_eq, if_neg ht]
    rw [Bool.not_eq_true] at ht
    rw [ht] at TK
    rw [he]
    clear he
    go_enter Try.func76, Try.ntmps76
    go_wp2_with fail
    refine TK.out.mono ?_
    rintro e w1 ⟨rfl, hb1⟩
    have HB := Lib.hid hb1; clear hb1
    go_wp2_with fail
    refine (quote_any s w1 hs).mono ?_
    rintro e w2 ⟨rfl, hb2⟩
    have HB2 := Lib.hid hb2; clear hb2
    go_wp2_with fail
    go_ret2
    exact ⟨rfl, bseq HB.out HB2.out⟩

/-! The reference's. -/
theorem snoc_bytes (L : List UInt8) (x : UInt8) : (⟨L.toArray⟩ ++ ⟨#[x]⟩ : ByteArray) = ⟨(L ++ [x]).toArray⟩ := by
  apply ByteArray.ext; rw [ByteArray.data_append]; simp

theorem allB_no {q : Int → Bool} {s : ByteArray} {k : Nat} (h : k < s.size) (hq : q (s[k].toNat : Int) = false) : allB q s.data.toList = false := by
  rw [← List.take_append_drop k s.data.toList, allB_append, drop_cons _ _ h, allB_cons, hq]; simp

theorem mk_size (L : List UInt8) : (⟨L.toArray⟩ : ByteArray).size = L.length := by rw [Lib.size_eq]

set_option maxRecDepth 100000 in
set_option maxHeartbeats 1000000 in
theorem rQuote_any (s : ByteArray) (w : World) (hs : s.size ≤ 1000000) :
    Calls Try.prog 75 #[.string s] w fun e w' => e = .returned (.tuple #[.string (tT (quoteO s.data.toList)), .int .i64 (tE (quoteO s.data.toList))]) ∧ w = w' := by
  go_enter Try.func75, Try.ntmps75
  go_wp2_with fail
  go_loop [4, 5] (fun out i => ∃ (k : Nat) (L : List UInt8), k ≤ s.size ∧ i = .int .i64 k ∧ out = .string ⟨L.toArray⟩ ∧ Hid (L = 34 :: escL (s.data.toList.take k)) ∧ Hid (allB bValue (s.data.toList.take k) = true)) (fun _ i => s.size - (intOf i).toNat)
  case atStart => exact ⟨0, [34], Nat.zero_le _, rfl, rfl, rfl, rfl⟩
  case round =>
    obtain ⟨k, L, hk, rfl, rfl, hL, hall⟩ := hrel
    have hlen := esc_take_len s k
    rw [← hL.out] at hlen
    have hsz := mk_size L
    by_cases hlt : k < s.size
    · have hst := esc_take s k hlt
      rw [← hL.out] at hst
      have hx1 := extract_one s k hlt
      have hAL := fun h : bValue (s[k].toNat : Int) = true => (show allB bValue (s.data.toList.take (k + 1)) = true by rw [take_snoc _ _ hlt, allB_append, hall.out]; simpa [allB] using h)
      have hNO := fun h : bValue (s[k].toNat : Int) = false => (show quoteO s.data.toList = none by unfold quoteO; rw [if_neg (by rw [allB_no hlt h]; simp)])
      have hb1 : ((s[k].toNat : Nat) : Int) ≤ 255 := by have := s[k].toNat_lt; omega
      obtain ⟨x, hx⟩ : ∃ x, s[k] = x := ⟨_, rfl⟩
      have HX1 := Lib.hid hx1
      have HST := Lib.hid hst; clear hst
      have HAL := Lib.hid hAL; clear hAL
      have HNO := Lib.hid hNO; clear hNO
      rw [hx] at HST HAL HNO hb1 HX1 hx1
      by_cases hv : bValue (x.toNat : Int) = true
      · by_cases hc : (x.toNat : Int) = 34 ∨ (x.toNat : Int) = 92
        · have hcase : (((x.toNat : Int) == 34) = true) ∨ (((x.toNat : Int) == 34) = false ∧ ((x.toNat : Int) == 92) = true) := by
            rcases hc with h | h
            · left; simp [h]
            · right; simp [h]
          have HE := Lib.hid (esc_yes x hc)
          clear hc
          have HV := Lib.hid hv
          rcases hcase with h34 | ⟨h34, h92⟩
          all_goals
            go_wp2_with fail
            refine (rValue_any _ _ (by omega) hb1).mono ?_
            rintro e w' ⟨rfl, rfl⟩
            rw [HV.out]
            go_wp2_with fail
            go_round
            case rel => exact ⟨k + 1, (L ++ [92]) ++ [x], by omega, by go_num, congrArg Value.string (by rw [← snoc_bytes, ← snoc_bytes]), by show _ = _; rw [HST.out, HE.out, List.append_assoc]; rfl, HAL.out HV.out⟩
            case measure => simp [intOf]; omega
        · have h34 : ((x.toNat : Int) == 34) = false := by simp; omega
          have h92 : ((x.toNat : Int) == 92) = false := by simp; omega
          have HE := Lib.hid (esc_no x (by omega) (by omega))
          clear hc
          have HV := Lib.hid hv
          go_wp2_with fail
          refine (rValue_any _ _ (by omega) hb1).mono ?_
          rintro e w' ⟨rfl, rfl⟩
          rw [HV.out]
          go_wp2_with fail
          go_round
          case rel => exact ⟨k + 1, L ++ [x], by omega, by go_num, congrArg Value.string (by rw [← snoc_bytes]), by show _ = _; rw [HST.out, HE.out], HAL.out HV.out⟩
          case measure => simp [intOf]; omega
      · rw [Bool.not_eq_true] at hv
        have HV := Lib.hid hv
        go_wp2_with fail
        refine (rValue_any _ _ (by omega) hb1).mono ?_
        rintro e w' ⟨rfl, rfl⟩
        rw [HV.out]
        go_wp2_with fail
        go_ret2
        rw [HNO.out HV.out]
        exact ⟨ret_si rfl rfl, rfl⟩
    · obtain rfl : k = s.size := by omega
      go_wp2_with fail
      go_ret2
      have ha := hall.out
      have hl := hL.out
      rw [List.take_of_length_le (by simp)] at ha hl
      have hq : quoteO s.data.toList = some (quoteL s.data.toList) := by unfold quoteO; rw [if_pos ha]
      rw [hq]
      refine ⟨ret_si ?_ rfl, rfl⟩
      show _ = (⟨(quoteL s.data.toList).toArray⟩ : ByteArray)
      have e : quoteL s.data.toList = L ++ [34] := by rw [hl]; rfl
      rw [e, ← snoc_bytes]

theorem rEither_any (s : ByteArray) (w : World) (hs : s.size ≤ 1000000) :
    Calls Try.prog 77 #[.string s] w fun e w' => e = .returned (.tuple #[.string (tT (eitherL s.data.toList)), .int .i64 (tE (eitherL s.data.toList))]) ∧ w = w' := by
  have TK := Lib.hid (rToken_any s w (by unfold maxLen; omega))
  by_cases ht : tokenL s.data.toList = true
  · have he : eitherL s.data.toList = some s.data.toList := by unfold eitherL; rw [if_pos ht]
    rw [ht] at TK
    rw [he]
    clear he
    go_enter Try.func77, Try.ntmps77
    go_wp2_with fail
    refine TK.out.mono ?_
    rintro e w1 ⟨rfl, rfl⟩
    go_wp2_with fail
    go_ret2
    exact ⟨ret_si (by show s = (⟨s.data.toList.toArray⟩ : ByteArray); apply ByteArray.ext; simp) rfl, rfl⟩
  · have he : eitherL s.data.toList = quoteO s.data.toList := by rw [eitherL_eq, if_neg ht]
    rw [Bool.not_eq_true] at ht
    rw [ht] at TK
    rw [he]
    clear he
    go_enter Try.func77, Try.ntmps77
    go_wp2_with fail
    refine TK.out.mono ?_
    rintro e w1 ⟨rfl, rfl⟩
    go_wp2_with fail
    refine (rQuote_any s w hs).mono ?_
    rintro e w2 ⟨rfl, rfl⟩
    go_wp2_with fail
    go_ret2
    exact ⟨rfl, rfl⟩

end Go.Proofs.Ythhpijmkhhdhhaa
