/- quoted.Word, Unquote; at no scanner; the reference's Front and Word. -/
import Derived.Test.YthhpijmkhhdhhaaRead2
import Derived.Test.YthhpijmkhhdhhaaRFold
import Derived.Test.YthhpijmkhhdhhaaScan4
namespace Go.Proofs.Ythhpijmkhhdhhaa
open Go.RowKit
set_option linter.unusedVariables false
set_option linter.unusedSimpArgs false

theorem nil_read (w : World) : Calls Try.prog 80 #[.pointer none] w fun e w' => e = .returned (.tuple #[.string ⟨#[]⟩, .bool false]) ∧ Below w.heap.size w w' := by
  have hal : Below w.heap.size w (w.alloc (.cells #[.pointer none, .slice none 0 0] 120)) := (Below.refl _ _).alloc (Nat.le_refl _) _
  have HA := Lib.hid hal; clear hal
  go_enter Try.func80, Try.ntmps80
  go_wp2_with fail
  (refine (nil_at _).mono ?_; rintro e w' ⟨rfl, rfl⟩; go_wp2_with fail)
  refine (nil_byte _ _).mono ?_
  rintro e w1 ⟨rfl, hw1⟩
  have r0 : w1.cell? ⟨w.heap.size, 0, none⟩ = some (.pointer none) := by rw [← hw1]; simp
  have hb : Below w.heap.size w w1 := by rw [← hw1]; exact HA.out
  have HB := Lib.hid hb; clear hb hw1 HA
  go_wp2_with fail
  go_loopg [6] 0 (fun _ ok wr => ok = .bool false ∧ Hid (w1 = wr))
  case atStart => exact ⟨rfl, rfl⟩
  case round =>
    obtain ⟨rfl, hw⟩ := hrel
    obtain rfl := hw.out
    clear hw
    go_wp2_with fail
    refine (nil_back _ _).mono ?_
    rintro e w2 ⟨rfl, rfl⟩
    go_wp2_with fail
    go_ret2
    exact ⟨rfl, HB.out⟩

theorem nil_word (w : World) : Calls Try.prog 79 #[.pointer none] w fun e w' => e = .returned (.tuple #[.string ⟨#[]⟩, .bool false]) ∧ Below w.heap.size w w' := by
  go_enter Try.func79, Try.ntmps79
  go_wp2_with fail
  (refine (nil_token _).mono ?_; rintro e w' ⟨rfl, rfl⟩; go_wp2_with fail)
  refine (nil_read _).mono ?_
  rintro e w1 ⟨rfl, hb⟩
  have HB := Lib.hid hb; clear hb
  go_wp2_with fail
  go_ret2
  exact ⟨rfl, HB.out⟩

theorem extract_ahead (s : ByteArray) (i n : Nat) : s.extract i (i + n) = ⟨((ahead s i).take n).toArray⟩ := by
  apply ByteArray.ext
  apply Array.ext'
  have := Lib.extract_data s i (i + n)
  rw [this]
  unfold ahead
  simp only [Nat.add_sub_cancel_left]

theorem quoted_word (w : World) (c : Nat) (s : ByteArray) (i : Nat) (h : ScanAt w c s i) :
    Calls Try.prog 79 #[.pointer (some ⟨c, 0, none⟩)] w (FrontPost w c s i (wordL (ahead s i))) := by
  have TK := Lib.hid (scan_token w c s i h)
  by_cases h0 : 0 < takeN bTok (ahead s i)
  · have hw : wordL (ahead s i) = some ((ahead s i).take (takeN bTok (ahead s i)), takeN bTok (ahead s i)) := by unfold wordL; rw [if_pos h0]
    have hd : decide (0 < takeN bTok (ahead s i)) = true := decide_eq_true h0
    rw [hw]
    have HD := Lib.hid hd; clear hd hw h0 h
    go_enter Try.func79, Try.ntmps79
    go_wp2_with fail
    refine TK.out.mono ?_
    rintro e w1 ⟨rfl, hs1, hf1⟩
    rw [HD.out]
    have HS := Lib.hid hs1; clear hs1
    have HF := Lib.hid hf1; clear hf1
    go_wp2_with fail
    go_ret2
    exact ⟨ret_sb (extract_ahead _ _ _) rfl, HS.out, HF.out⟩
  · have hw : wordL (ahead s i) = frontL (ahead s i) := by unfold wordL; rw [if_neg h0]
    have hd : decide (0 < takeN bTok (ahead s i)) = false := decide_eq_false h0
    have hz : i + takeN bTok (ahead s i) = i := by omega
    rw [hw]
    have HD := Lib.hid hd; clear hd hw h0 h
    have HZ := Lib.hid hz; clear hz
    go_enter Try.func79, Try.ntmps79
    go_wp2_with fail
    refine TK.out.mono ?_
    rintro e w1 ⟨rfl, hs1, hf1⟩
    rw [HD.out]
    rw [HZ.out] at hs1
    have RD := Lib.hid (quoted_read w1 c s i hs1)
    have HF := Lib.hid hf1; clear hf1 hs1
    go_wp2_with fail
    refine RD.out.mono ?_
    rintro e w2 ⟨rfl, hs2, hf2⟩
    have HS := Lib.hid hs2; clear hs2
    have HF2 := Lib.hid hf2; clear hf2
    go_wp2_with fail
    go_ret2
    exact ⟨rfl, HS.out, HF.out.trans HF2.out⟩

theorem ret_si' {a c : ByteArray} {b d : Int} (h : a = c) (h2 : b = d) : Ending.returned (.tuple #[.string a, .int .i64 b]) = .returned (.tuple #[.string c, .int .i64 d]) := by rw [h, h2]
theorem below_drewN' {A : Nat} {w w1 : World} (h : Below A w w1) (n : Nat) : Below A w (w1.drewN n) := ⟨h.os, h.tape, h.output, h.size, h.block⟩

/-- What a text stands for, if it is a quoted one. -/
def unqL (l : List UInt8) : Option (List UInt8) := match frontL l with | some p => if p.2 = l.length then some p.1 else none | none => none
def uT : Option (List UInt8) → ByteArray | some p => ⟨p.toArray⟩ | none => ⟨#[]⟩
def uE : Option (List UInt8) → Int | some p => 0 | none => 2

theorem ahead0 (s : ByteArray) : ahead s 0 = s.data.toList := rfl

theorem unquote_any (s : ByteArray) (w : World) (hs : s.size ≤ 1000000) :
    Calls Try.prog 78 #[.string s] w fun e w' => e = .returned (.tuple #[.string (uT (unqL s.data.toList)), .int .i64 (uE (unqL s.data.toList))]) ∧ Below w.heap.size w w' := by
  have SA := scanAt_new s w hs
  have hal : Below w.heap.size w (w.alloc (.cells #[.string s, .int .i64 0] 109)) := (Below.refl _ _).alloc (Nat.le_refl _) _
  have hsz : w.heap.size ≤ (w.alloc (.cells #[.string s, .int .i64 0] 109)).heap.size := by simp
  have hz := Lib.size_eq s
  cases ho : frontL s.data.toList with
  | none =>
    have hu : unqL s.data.toList = none := by unfold unqL; rw [ho]
    rw [hu]
    have HO := Lib.hid ho; clear ho hu
    go_enter Try.func78, Try.ntmps78
    go_wp2_with fail
    refine (scan_new s w).mono ?_
    rintro e w1 ⟨rfl, hw1⟩
    rw [hw1] at SA hal hsz
    clear hw1
    have RD := Lib.hid (quoted_read w1 _ s 0 SA)
    rw [ahead0, HO.out] at RD
    have HAL := Lib.hid hal; clear hal SA
    go_wp2_with fail
    refine RD.out.mono ?_
    rintro e w2 ⟨rfl, hs2, hf2⟩
    have hb2 := HAL.out.trans (hf2.below (Nat.le_refl _) hsz)
    have HB := Lib.hid hb2; clear hb2 hf2
    simp only [oT, oOk]
    go_wp2_with fail
    go_ret2
    exact ⟨rfl, HB.out⟩
  | some p =>
    by_cases hp : p.2 = s.size
    · have hu : unqL s.data.toList = some p.1 := by unfold unqL; rw [ho]; simp only; rw [if_pos (by omega)]
      rw [hu]
      have HO := Lib.hid ho; clear ho hu
      go_enter Try.func78, Try.ntmps78
      go_wp2_with fail
      refine (scan_new s w).mono ?_
      rintro e w1 ⟨rfl, hw1⟩
      rw [hw1] at SA hal hsz
      clear hw1
      have RD := Lib.hid (quoted_read w1 _ s 0 SA)
      rw [ahead0, HO.out] at RD
      have HAL := Lib.hid hal; clear hal SA
      go_wp2_with fail
      refine RD.out.mono ?_
      rintro e w2 ⟨rfl, hs2, hf2⟩
      have hb2 := HAL.out.trans (hf2.below (Nat.le_refl _) hsz)
      have HB := Lib.hid hb2; clear hb2 hf2
      have EN := Lib.hid (scan_end w2 _ s _ hs2)
      have hd : decide (s.size ≤ 0 + oN (some p)) = true := decide_eq_true (by show s.size ≤ 0 + p.2; omega)
      have HD := Lib.hid hd; clear hd hs2
      simp only [oT, oOk]
      go_wp2_with fail
      refine EN.out.mono ?_
      rintro e w3 ⟨rfl, n, rfl⟩
      rw [HD.out]
      go_wp2_with fail
      go_ret2
      exact ⟨ret_si' rfl rfl, below_drewN' HB.out n⟩
    · have hu : unqL s.data.toList = none := by unfold unqL; rw [ho]; simp only; rw [if_neg (by omega)]
      rw [hu]
      have hfi := (frontL_fits ho).2.1
      have HO := Lib.hid ho; clear ho hu
      go_enter Try.func78, Try.ntmps78
      go_wp2_with fail
      refine (scan_new s w).mono ?_
      rintro e w1 ⟨rfl, hw1⟩
      rw [hw1] at SA hal hsz
      clear hw1
      have RD := Lib.hid (quoted_read w1 _ s 0 SA)
      rw [ahead0, HO.out] at RD
      have HAL := Lib.hid hal; clear hal SA
      go_wp2_with fail
      refine RD.out.mono ?_
      rintro e w2 ⟨rfl, hs2, hf2⟩
      have hb2 := HAL.out.trans (hf2.below (Nat.le_refl _) hsz)
      have HB := Lib.hid hb2; clear hb2 hf2
      have EN := Lib.hid (scan_end w2 _ s _ hs2)
      have hd : decide (s.size ≤ 0 + oN (some p)) = false := decide_eq_false (by show ¬ s.size ≤ 0 + p.2; omega)
      have HD := Lib.hid hd; clear hd hs2
      simp only [oT, oOk]
      go_wp2_with fail
      refine EN.out.mono ?_
      rintro e w3 ⟨rfl, n, rfl⟩
      rw [HD.out]
      go_wp2_with fail
      go_ret2
      exact ⟨ret_si' rfl rfl, below_drewN' HB.out n⟩

/-! The reference's Front and Word. -/
def FrontRef (o : Option (List UInt8 × Nat)) : Ending := .returned (.tuple #[.string (oT o), .int .i64 (oN o : Int)])

theorem snoc_bytes' (L : List UInt8) (x : UInt8) : (⟨L.toArray⟩ ++ ⟨#[x]⟩ : ByteArray) = ⟨(L ++ [x]).toArray⟩ := by
  apply ByteArray.ext; rw [ByteArray.data_append]; simp
theorem mk_size' (L : List UInt8) : (⟨L.toArray⟩ : ByteArray).size = L.length := by rw [Lib.size_eq]

/-- What the reference's loop keeps. -/
def FL (s : ByteArray) (k : Nat) (L : List UInt8) : Prop := L.length ≤ k ∧ frontL (ahead s 0) = (bodyL (ahead s k)).map (fun p => (L ++ p.1, p.2 + k))

theorem fl_next {s : ByteArray} {k n : Nat} {L : List UInt8} {x : UInt8} (h : FL s k L) (hn : nextIs s k 34 = false) (hx : nextL (ahead s k) = some (x, n)) : FL s (k + n) (L ++ [x]) := by
  have h0 := nextL_pos hx
  refine ⟨by have := h.1; simp; omega, ?_⟩
  rw [h.2, body_next s k hn x n hx, Option.map_map]
  congr 1
  funext p
  simp only [Function.comp, List.append_assoc, List.singleton_append]
  rw [show p.2 + n + k = p.2 + (k + n) from by omega]

theorem fl_stop {s : ByteArray} {k : Nat} {L : List UInt8} (h : FL s k L) (hn : nextIs s k 34 = false) (hx : nextL (ahead s k) = none) : frontL (ahead s 0) = none := by
  rw [h.2, body_stop s k hn hx]; rfl

set_option maxRecDepth 100000 in
set_option maxHeartbeats 1000000 in
theorem rFront_any (s : ByteArray) (w : World) (hs : s.size ≤ 1000000) :
    Calls Try.prog 81 #[.string s] w fun e w' => e = FrontRef (frontL s.data.toList) ∧ w = w' := by
  by_cases h0 : s.size = 0
  · have hd : s.data.toList = [] := List.length_eq_zero_iff.1 (by have := Lib.size_eq s; omega)
    have hd0 : ((s.size : Int) == 0) = true := by rw [h0]; rfl
    rw [hd]
    clear hd
    go_enter Try.func81, Try.ntmps81
    go_wp2_with fail
    go_ret2
    exact ⟨rfl, rfl⟩
  · have hlt0 : 0 < s.size := by omega
    have hd0 : ((s.size : Int) == 0) = false := by rw [beq_eq_false_iff_ne]; omega
    have hnx := nextIs_at s 0 hlt0 34
    by_cases h34 : ((s[0].toNat : Int) == 34) = true
    · have hst := (front_start s 0 (by rw [hnx]; exact h34)).2
      have hne : ((s[0].toNat : Int) != 34) = false := by simp at h34; simp [h34]
      have HST : Hid (FL s 1 []) := Lib.hid ⟨by simp, hst⟩
      clear hst hnx h34
      go_enter Try.func81, Try.ntmps81
      go_wp2_with fail
      go_loop [4, 5] (fun out i => ∃ (k : Nat) (L : List UInt8), k ≤ s.size ∧ i = .int .i64 k ∧ out = .string ⟨L.toArray⟩ ∧ Hid (FL s k L)) (fun _ i => s.size - (intOf i).toNat)
      case atStart => exact ⟨1, [], by omega, rfl, rfl, HST.out⟩
      case round =>
        obtain ⟨k, L, hk, rfl, rfl, hfl⟩ := hrel
        have hlen := hfl.out.1
        have hsz := mk_size' L
        by_cases hlt : k < s.size
        · have hnk := nextIs_at s k hlt 34
          have hnk2 := nextIs_at s k hlt 92
          have hx1 := extract_one s k hlt
          have hb1 : ((s[k].toNat : Nat) : Int) ≤ 255 := by have := s[k].toNat_lt; omega
          by_cases h34 : ((s[k].toNat : Int) == 34) = true
          · rw [h34] at hnk
            have BE := Lib.hid (body_end s k hnk)
            clear hnk hnk2 hx1
            go_wp2_with fail
            go_ret2
            have hf := hfl.out.2
            rw [BE.out] at hf
            rw [← ahead0, hf]
            refine ⟨?_, rfl⟩
            unfold FrontRef
            simp only [Option.map_some, oT, oN, List.append_nil]
            exact ret_si' rfl (by omega)
          · rw [Bool.not_eq_true] at h34
            rw [h34] at hnk
            have HNK := Lib.hid hnk; clear hnk
            by_cases h92 : ((s[k].toNat : Int) == 92) = true
            · rw [h92] at hnk2
              have hj1 : (if nextIs s k 92 = true then k + 1 else k) = k + 1 := by rw [if_pos hnk2]
              have HJ := Lib.hid hj1; clear hj1 hnk2 hx1
              by_cases hlt2 : k + 1 < s.size
              · have hb2 : ((s[k + 1].toNat : Nat) : Int) ≤ 255 := by have := s[k + 1].toNat_lt; omega
                have hx2 := extract_one s (k + 1) hlt2
                have hdn : (((k : Int) + 1) == (s.size : Int)) = false := by rw [beq_eq_false_iff_ne]; omega
                by_cases hv : bValue (s[k + 1].toNat : Int) = true
                · have NX := Lib.hid (fl_next hfl.out HNK.out (next_yes s k (k + 1) HJ.out hlt2 hv))
                  go_wp2_with fail
                  refine (rValue_any _ _ (by omega) hb2).mono ?_
                  rintro e w' ⟨rfl, rfl⟩
                  rw [hv]
                  clear hv
                  go_wp2_with fail
                  go_round
                  case rel => exact ⟨k + 1 + 1, L ++ [s[k + 1]], by omega, by go_num, congrArg Value.string (by rw [← snoc_bytes']), by have := NX.out; rw [show k + (k + 1 + 1 - k) = k + 1 + 1 from by omega] at this; exact this⟩
                  case measure => simp [intOf]; omega
                · rw [Bool.not_eq_true] at hv
                  have NX := Lib.hid (fl_stop hfl.out HNK.out (next_no s k (k + 1) HJ.out (fun _ => hv)))
                  go_wp2_with fail
                  refine (rValue_any _ _ (by omega) hb2).mono ?_
                  rintro e w' ⟨rfl, rfl⟩
                  rw [hv]
                  go_wp2_with fail
                  go_ret2
                  rw [← ahead0, NX.out]
                  exact ⟨ret_si' rfl rfl, rfl⟩
              · have NX := Lib.hid (fl_stop hfl.out HNK.out (next_no s k (k + 1) HJ.out (fun h => absurd h hlt2)))
                have hdn : (((k : Int) + 1) == (s.size : Int)) = true := by rw [beq_iff_eq]; omega
                go_wp2_with fail
                go_ret2
                rw [← ahead0, NX.out]
                exact ⟨ret_si' rfl rfl, rfl⟩
            · rw [Bool.not_eq_true] at h92
              rw [h92] at hnk2
              have hj1 : (if nextIs s k 92 = true then k + 1 else k) = k := by rw [if_neg (by rw [hnk2]; simp)]
              have HJ := Lib.hid hj1; clear hj1 hnk2
              have hdn : ((k : Int) == (s.size : Int)) = false := by rw [beq_eq_false_iff_ne]; omega
              by_cases hv : bValue (s[k].toNat : Int) = true
              · have NX := Lib.hid (fl_next hfl.out HNK.out (next_yes s k k HJ.out hlt hv))
                go_wp2_with fail
                refine (rValue_any _ _ (by omega) hb1).mono ?_
                rintro e w' ⟨rfl, rfl⟩
                rw [hv]
                clear hv
                go_wp2_with fail
                go_round
                case rel => exact ⟨k + 1, L ++ [s[k]], by omega, by go_num, congrArg Value.string (by rw [← snoc_bytes']), by have := NX.out; rw [show k + (k + 1 - k) = k + 1 from by omega] at this; exact this⟩
                case measure => simp [intOf]; omega
              · rw [Bool.not_eq_true] at hv
                have NX := Lib.hid (fl_stop hfl.out HNK.out (next_no s k k HJ.out (fun _ => hv)))
                go_wp2_with fail
                refine (rValue_any _ _ (by omega) hb1).mono ?_
                rintro e w' ⟨rfl, rfl⟩
                rw [hv]
                go_wp2_with fail
                go_ret2
                rw [← ahead0, NX.out]
                exact ⟨ret_si' rfl rfl, rfl⟩
        · obtain rfl : k = s.size := by omega
          have hf := hfl.out.2
          rw [ahead_end s s.size (Nat.le_refl _)] at hf
          have HFF := Lib.hid hf; clear hf
          go_wp2_with fail
          go_ret2
          rw [← ahead0, HFF.out]
          exact ⟨ret_si' rfl rfl, rfl⟩
    · rw [Bool.not_eq_true] at h34
      rw [h34] at hnx
      have hf := front_none s 0 hnx
      rw [ahead0] at hf
      rw [hf]
      have hne : ((s[0].toNat : Int) != 34) = true := by simp at h34; simp [h34]
      clear hf hnx
      go_enter Try.func81, Try.ntmps81
      go_wp2_with fail
      go_ret2
      exact ⟨ret_si' rfl rfl, rfl⟩

set_option maxRecDepth 100000 in
theorem rWord_any (s : ByteArray) (w : World) (hs : s.size ≤ 1000000) :
    Calls Try.prog 83 #[.string s] w fun e w' => e = FrontRef (wordL s.data.toList) ∧ w = w' := by
  go_enter Try.func83, Try.ntmps83
  go_wp2_with fail
  go_loop [4] (fun i => ∃ k : Nat, k ≤ s.size ∧ i = .int .i64 k ∧ Hid (∀ x ∈ (ahead s 0).take (k - 0), bTok (x.toNat : Int) = true)) (fun i => s.size - (intOf i).toNat)
  case atStart => exact ⟨0, Nat.zero_le _, rfl, by intro x hx; simp at hx⟩
  case round =>
    obtain ⟨k, hk, rfl, hall⟩ := hrel
    by_cases hlt : k < s.size
    · have hb1 : ((s[k].toNat : Nat) : Int) ≤ 255 := by have := s[k].toNat_lt; omega
      by_cases hv : bTok (s[k].toNat : Int) = true
      · have HV := Lib.hid hv
        go_wp2_with fail
        refine (rTok_any _ _ (by omega) hb1).mono ?_
        rintro e w' ⟨rfl, rfl⟩
        rw [HV.out]
        go_wp2_with fail
        go_round
        case rel =>
          refine ⟨k + 1, by omega, by go_num, ?_⟩
          rw [ahead_take_succ s 0 k (Nat.zero_le _) hlt]
          intro x hx
          rcases List.mem_append.1 hx with h | h
          · exact hall.out x h
          · simp at h; subst h; exact HV.out
        case measure => simp [intOf]; omega
      · rw [Bool.not_eq_true] at hv
        have HT := Lib.hid (takeN_step bTok s 0 k hlt hall.out (Nat.zero_le _) hv)
        rw [Nat.sub_zero] at HT
        have hx : wordL s.data.toList = (if 0 < k then some (s.data.toList.take k, k) else frontL s.data.toList) := by
          unfold wordL; rw [← ahead0, HT.out]
        by_cases hk0 : 0 < k
        · rw [if_pos hk0] at hx
          have hd : decide (0 < (k : Int)) = true := by simp; omega
          have hk2 : (k : Int) ≤ s.size := by omega
          have HX := Lib.hid hx; clear hx
          go_wp2_with fail
          refine (rTok_any _ _ (by omega) hb1).mono ?_
          rintro e w' ⟨rfl, rfl⟩
          rw [hv]
          go_wp2_with fail
          go_ret2
          rw [HX.out]
          refine ⟨?_, rfl⟩
          unfold FrontRef
          refine ret_si' ?_ rfl
          have := extract_ahead s 0 k
          rw [Nat.zero_add, ahead0] at this
          exact this
        · rw [if_neg hk0] at hx
          have hd : decide (0 < (k : Int)) = false := by simp; omega
          have HX := Lib.hid hx; clear hx
          have FR := Lib.hid (rFront_any s w hs)
          go_wp2_with fail
          refine (rTok_any _ _ (by omega) hb1).mono ?_
          rintro e w' ⟨rfl, rfl⟩
          rw [hv]
          go_wp2_with fail
          refine FR.out.mono ?_
          rintro e w' ⟨rfl, rfl⟩
          unfold FrontRef
          go_wp2_with fail
          go_ret2
          rw [HX.out]
          exact ⟨rfl, rfl⟩
    · obtain rfl : k = s.size := by omega
      have HT := Lib.hid (takeN_end bTok s 0 hall.out)
      rw [Nat.sub_zero] at HT
      obtain ⟨k, hkk⟩ : ∃ k, s.size = k := ⟨_, rfl⟩
      have hk1 : k ≤ s.size := by omega
      rw [hkk] at HT
      have hdl : decide ((k : Int) < (s.size : Int)) = false := by simp; omega
      have hx : wordL s.data.toList = (if 0 < k then some (s.data.toList.take k, k) else frontL s.data.toList) := by
        unfold wordL; rw [← ahead0, HT.out]
      by_cases hk0 : 0 < k
      · rw [if_pos hk0] at hx
        have hd : decide (0 < (k : Int)) = true := by simp; omega
        have hk2 : (k : Int) ≤ s.size := by omega
        have HX := Lib.hid hx; clear hx
        go_wp2_with fail
        go_ret2
        rw [HX.out]
        refine ⟨?_, rfl⟩
        unfold FrontRef
        refine ret_si' ?_ rfl
        have := extract_ahead s 0 k
        rw [Nat.zero_add, ahead0] at this
        exact this
      · rw [if_neg hk0] at hx
        have hd : decide (0 < (k : Int)) = false := by simp; omega
        have HX := Lib.hid hx; clear hx
        have FR := Lib.hid (rFront_any s w hs)
        go_wp2_with fail
        refine FR.out.mono ?_
        rintro e w' ⟨rfl, rfl⟩
        unfold FrontRef
        go_wp2_with fail
        go_ret2
        rw [HX.out]
        exact ⟨rfl, rfl⟩

end Go.Proofs.Ythhpijmkhhdhhaa
