/- The walks of the laws NumeralReads and NumeralTexts. -/
import Derived.Test.YthhpijmkhhdhhaaDoorFmt16
import Derived.Test.YthhpijmkhhdhhaaDoorTool
namespace Go.Proofs.YthhpijmkhhdhhaaDoor
open Go.RowKit
set_option linter.unusedVariables false
set_option linter.unusedSimpArgs false

theorem rRead10 (s : ByteArray) (most : Int) (w : World) (hs : s.size ≤ 1000000) (hm0 : -9223372036854775808 ≤ most) (hm1 : most ≤ 9223372036854775807) :
    Calls Tryd.prog 18 #[.string s, .int .i64 10, .int .i64 most] w fun e w' => e = .returned (.tuple #[.int .i64 (readV bDigit 10 most s.data.toList), .int .i64 (readE bDigit 10 most s.data.toList)]) ∧ Below w.heap.size w w' :=
  rRead_any 10 (.inl rfl) s most w hs hm0 hm1
theorem rRead16 (s : ByteArray) (most : Int) (w : World) (hs : s.size ≤ 1000000) (hm0 : -9223372036854775808 ≤ most) (hm1 : most ≤ 9223372036854775807) :
    Calls Tryd.prog 18 #[.string s, .int .i64 16, .int .i64 most] w fun e w' => e = .returned (.tuple #[.int .i64 (readV bHex 16 most s.data.toList), .int .i64 (readE bHex 16 most s.data.toList)]) ∧ Below w.heap.size w w' :=
  rRead_any 16 (.inr rfl) s most w hs hm0 hm1

set_option maxRecDepth 100000 in
theorem numeralReads_walk (s : ByteArray) (most : Int) (w : World) (hs : s.size ≤ maxLen) (hm0 : -9223372036854775808 ≤ most) (hm1 : most ≤ 9223372036854775807) (hT : TabAt w) :
    Calls Tryd.prog 3 #[.string s, .int .i64 most] w fun e w' => e = .returned (.bool true) ∧ Below w.heap.size w w' := by
  unfold maxLen at hs
  have AW := Lib.hid (awake3_any w hT); clear hT
  obtain ⟨t, hTx⟩ : ∃ t, cutX 200 s = t := ⟨_, rfl⟩
  have ht : t.size ≤ 200 := by rw [← hTx, cutX_size]; omega
  have hcut : ∀ k, k = min s.size 200 → s.extract 0 k = t := by intro k hk; rw [extract_cutX 200 s k hk, hTx]
  have D1 := Lib.hid (fun w => decimal_any t most w (by omega) hm0 hm1)
  have D2 := Lib.hid (fun w => rRead10 t most w (by omega) hm0 hm1)
  have D3 := Lib.hid (fun w => hex_any t most w (by omega) hm0 hm1)
  have D4 := Lib.hid (fun w => rRead16 t most w (by omega) hm0 hm1)
  obtain ⟨a, ha⟩ : ∃ a, readV bDigit 10 most t.data.toList = a := ⟨_, rfl⟩
  obtain ⟨b, hb⟩ : ∃ b, readE bDigit 10 most t.data.toList = b := ⟨_, rfl⟩
  obtain ⟨c, hc⟩ : ∃ c, readV bHex 16 most t.data.toList = c := ⟨_, rfl⟩
  obtain ⟨d, hd⟩ : ∃ d, readE bHex 16 most t.data.toList = d := ⟨_, rfl⟩
  rw [ha, hb] at D1 D2
  rw [hc, hd] at D3 D4
  have hx : s.extract 0 (min (s.size : Int) 200).toNat = t := hcut _ (by omega)
  clear ha hb hc hd hTx hcut
  go_enter Tryd.func3, Tryd.ntmps3
  go_wp2_with fail
  (refine (AW.out).mono ?_; rintro e w1 ⟨rfl, h1⟩; have H1 := Lib.hid h1; clear h1; go_wp2_with fail)
  (refine (D1.out _).mono ?_; rintro e w2 ⟨rfl, h2⟩; have H2 := Lib.hid h2; clear h2; go_wp2_with fail)
  (refine (D2.out _).mono ?_; rintro e w3 ⟨rfl, h3⟩; have H3 := Lib.hid h3; clear h3; go_wp2_with fail)
  (refine (D3.out _).mono ?_; rintro e w4 ⟨rfl, h4⟩; have H4 := Lib.hid h4; clear h4; go_wp2_with fail)
  (refine (D4.out _).mono ?_; rintro e w5 ⟨rfl, h5⟩; have H5 := Lib.hid h5; clear h5; go_wp2_with fail)
  go_ret
  exact ⟨ret_bool (by simp), (bseq (bseq (bseq (bseq H1.out H2.out) H3.out) H4.out) H5.out)⟩

theorem dec_text_pos (n : Nat) (most : Int) : readV bDigit 10 most (digL 10 n) = (if (n : Int) ≤ most then (n : Int) else 0) ∧ readE bDigit 10 most (digL 10 n) = (if (n : Int) ≤ most then 0 else 7) := readV_dig bDigit 10 (by omega) (by omega) most n (digL_dec n)
theorem hex_text_pos (n : Nat) (most : Int) : readV bHex 16 most (digL 16 n) = (if (n : Int) ≤ most then (n : Int) else 0) ∧ readE bHex 16 most (digL 16 n) = (if (n : Int) ≤ most then 0 else 7) := readV_dig bHex 16 (by omega) (by omega) most n (digL_hex (by omega) (by omega) n)

theorem textB_size (b : Nat) (hb : b = 10 ∨ b = 16) (n : Int) (h : n ≤ 9223372036854775807) : (textB b n).length ≤ 64 := by
  unfold textB
  split
  · simp
  · exact digL_len (by omega) 64 _ (by omega) (by
      have h2 : 2 ^ 64 ≤ b ^ 64 := Nat.pow_le_pow_left (by omega) 64
      have h3 : (2 : Nat) ^ 64 = 18446744073709551616 := by decide
      omega)

set_option maxRecDepth 100000 in
set_option maxHeartbeats 1000000 in
theorem numeralTexts_walk (n most : Int) (w : World) (hn0 : -9223372036854775808 ≤ n) (hn1 : n ≤ 9223372036854775807) (hm0 : -9223372036854775808 ≤ most) (hm1 : most ≤ 9223372036854775807) (hT : TabAt w) (hP : PowAt w) :
    Calls Tryd.prog 4 #[.int .i64 n, .int .i64 most] w fun e w' => e = .returned (.bool true) ∧ Below w.heap.size w w' := by
  have AW := Lib.hid (awake3_any w hT)
  have HT := Lib.hid hT; clear hT
  have HP := Lib.hid hP; clear hP
  obtain ⟨s, hs⟩ : ∃ s : ByteArray, ⟨(textB 10 n).toArray⟩ = s := ⟨_, rfl⟩
  obtain ⟨t, ht⟩ : ∃ t : ByteArray, ⟨(textB 16 n).toArray⟩ = t := ⟨_, rfl⟩
  have hsl : s.data.toList = textB 10 n := by rw [← hs]
  have htl : t.data.toList = textB 16 n := by rw [← ht]
  have hss : s.size ≤ 64 := by rw [Lib.size_eq, hsl]; exact textB_size 10 (.inl rfl) n hn1
  have hts : t.size ≤ 64 := by rw [Lib.size_eq, htl]; exact textB_size 16 (.inr rfl) n hn1
  have T1 := Lib.hid (fun w h => numText_any n w hn0 hn1 h)
  have T2 := Lib.hid (fun w h => hexText_any n w hn1 h)
  have T3 := Lib.hid (fun w => rText3_any 10 (.inl rfl) n w hn1)
  have T4 := Lib.hid (fun w => rText3_any 16 (.inr rfl) n w hn1)
  have D1 := Lib.hid (fun w => decimal_any s most w (by omega) hm0 hm1)
  have D2 := Lib.hid (fun w => hex_any t most w (by omega) hm0 hm1)
  rw [hs] at T1 T3
  rw [ht] at T2 T4
  rw [hsl] at D1
  rw [htl] at D2
  have e1 := neq_selfX s
  have e2 := neq_selfX t
  clear hs ht hsl htl
  have T3 : Hid (∀ w, Calls Tryd.prog 22 #[.int .i64 n, .int .i64 10] w fun e w' => e = .returned (.string s) ∧ Below w.heap.size w w') := T3
  have T4 : Hid (∀ w, Calls Tryd.prog 22 #[.int .i64 n, .int .i64 16] w fun e w' => e = .returned (.string t) ∧ Below w.heap.size w w') := T4
  by_cases hneg : n < 0
  · have v1 : textB 10 n = [] := by unfold textB; rw [if_pos hneg]
    have v2 : textB 16 n = [] := by unfold textB; rw [if_pos hneg]
    rw [v1] at D1
    rw [v2] at D2
    rw [show readV bDigit 10 most [] = 0 from rfl, show readE bDigit 10 most [] = 2 from rfl] at D1
    rw [show readV bHex 16 most [] = 0 from rfl, show readE bHex 16 most [] = 2 from rfl] at D2
    clear v1 v2
    go_enter Tryd.func4, Tryd.ntmps4
    go_wp2_with fail
    (refine (AW.out).mono ?_; rintro e w1 ⟨rfl, h1⟩; have H1 := Lib.hid h1; clear h1; go_wp2_with fail)
    (refine (T1.out _ (powAt_below HP.out H1.out)).mono ?_; rintro e w2 ⟨rfl, h2⟩; have H2 := Lib.hid h2; clear h2; go_wp2_with fail)
    (refine (T2.out _ (tabAt_below HT.out (bseq H1.out H2.out))).mono ?_; rintro e w3 ⟨rfl, h3⟩; have H3 := Lib.hid h3; clear h3; go_wp2_with fail)
    (refine (T3.out _).mono ?_; rintro e w4 ⟨rfl, h4⟩; have H4 := Lib.hid h4; clear h4; go_wp2_with fail)
    (refine (T4.out _).mono ?_; rintro e w5 ⟨rfl, h5⟩; have H5 := Lib.hid h5; clear h5; go_wp2_with fail)
    (refine (D1.out _).mono ?_; rintro e w6 ⟨rfl, h6⟩; have H6 := Lib.hid h6; clear h6; go_wp2_with fail)
    (refine (D2.out _).mono ?_; rintro e w7 ⟨rfl, h7⟩; have H7 := Lib.hid h7; clear h7; go_wp2_with fail)
    go_ret
    exact ⟨rfl, (bseq (bseq (bseq (bseq (bseq (bseq H1.out H2.out) H3.out) H4.out) H5.out) H6.out) H7.out)⟩
  · obtain ⟨m, rfl⟩ : ∃ m : Nat, n = m := ⟨n.toNat, by omega⟩
    have v1 : textB 10 m = digL 10 m := by unfold textB; rw [if_neg hneg]; rfl
    have v2 : textB 16 m = digL 16 m := by unfold textB; rw [if_neg hneg]; rfl
    rw [v1, (dec_text_pos m most).1, (dec_text_pos m most).2] at D1
    rw [v2, (hex_text_pos m most).1, (hex_text_pos m most).2] at D2
    clear v1 v2
    by_cases hgt : most < m
    · rw [if_neg (by omega), if_neg (by omega)] at D1 D2
      go_enter Tryd.func4, Tryd.ntmps4
      go_wp2_with fail
      (refine (AW.out).mono ?_; rintro e w1 ⟨rfl, h1⟩; have H1 := Lib.hid h1; clear h1; go_wp2_with fail)
      (refine (T1.out _ (powAt_below HP.out H1.out)).mono ?_; rintro e w2 ⟨rfl, h2⟩; have H2 := Lib.hid h2; clear h2; go_wp2_with fail)
      (refine (T2.out _ (tabAt_below HT.out (bseq H1.out H2.out))).mono ?_; rintro e w3 ⟨rfl, h3⟩; have H3 := Lib.hid h3; clear h3; go_wp2_with fail)
      (refine (T3.out _).mono ?_; rintro e w4 ⟨rfl, h4⟩; have H4 := Lib.hid h4; clear h4; go_wp2_with fail)
      (refine (T4.out _).mono ?_; rintro e w5 ⟨rfl, h5⟩; have H5 := Lib.hid h5; clear h5; go_wp2_with fail)
      (refine (D1.out _).mono ?_; rintro e w6 ⟨rfl, h6⟩; have H6 := Lib.hid h6; clear h6; go_wp2_with fail)
      (refine (D2.out _).mono ?_; rintro e w7 ⟨rfl, h7⟩; have H7 := Lib.hid h7; clear h7; go_wp2_with fail)
      go_ret
      exact ⟨rfl, (bseq (bseq (bseq (bseq (bseq (bseq H1.out H2.out) H3.out) H4.out) H5.out) H6.out) H7.out)⟩
    · rw [if_pos (by omega), if_pos (by omega)] at D1 D2
      go_enter Tryd.func4, Tryd.ntmps4
      go_wp2_with fail
      (refine (AW.out).mono ?_; rintro e w1 ⟨rfl, h1⟩; have H1 := Lib.hid h1; clear h1; go_wp2_with fail)
      (refine (T1.out _ (powAt_below HP.out H1.out)).mono ?_; rintro e w2 ⟨rfl, h2⟩; have H2 := Lib.hid h2; clear h2; go_wp2_with fail)
      (refine (T2.out _ (tabAt_below HT.out (bseq H1.out H2.out))).mono ?_; rintro e w3 ⟨rfl, h3⟩; have H3 := Lib.hid h3; clear h3; go_wp2_with fail)
      (refine (T3.out _).mono ?_; rintro e w4 ⟨rfl, h4⟩; have H4 := Lib.hid h4; clear h4; go_wp2_with fail)
      (refine (T4.out _).mono ?_; rintro e w5 ⟨rfl, h5⟩; have H5 := Lib.hid h5; clear h5; go_wp2_with fail)
      (refine (D1.out _).mono ?_; rintro e w6 ⟨rfl, h6⟩; have H6 := Lib.hid h6; clear h6; go_wp2_with fail)
      (refine (D2.out _).mono ?_; rintro e w7 ⟨rfl, h7⟩; have H7 := Lib.hid h7; clear h7; go_wp2_with fail)
      go_ret
      exact ⟨ret_bool (by simp), (bseq (bseq (bseq (bseq (bseq (bseq H1.out H2.out) H3.out) H4.out) H5.out) H6.out) H7.out)⟩

end Go.Proofs.YthhpijmkhhdhhaaDoor
