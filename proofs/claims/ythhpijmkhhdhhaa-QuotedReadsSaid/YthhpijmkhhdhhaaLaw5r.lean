/- QuotedReads. -/
import Derived.Test.YthhpijmkhhdhhaaLaw5
import Derived.IntWalk
namespace Go.Proofs.Ythhpijmkhhdhhaa
open Go.RowKit
set_option linter.unusedVariables false
set_option linter.unusedSimpArgs false

theorem scanAt_frC {w w' : World} {c d : Nat} {s : ByteArray} {i : Nat} (h : ScanAt w d s i) (hf : FrC c w w') (hd : d ≠ c) : ScanAt w' d s i := ⟨(hf.block d (lt_of_block h.1) hd).trans h.1, h.2⟩

theorem rFront_at (s : ByteArray) (w : World) (hs : s.size ≤ 1000000) (o : Option (List UInt8 × Nat)) (F : ByteArray) (n : Int) (ho : frontL s.data.toList = o) (h1 : oT o = F) (h2 : (oN o : Int) = n) :
    Calls Try.prog 81 #[.string s] w fun e w' => e = .returned (.tuple #[.string F, .int .i64 n]) ∧ w = w' := by subst ho h1 h2; exact rFront_any s w hs
theorem rWord_at (s : ByteArray) (w : World) (hs : s.size ≤ 1000000) (o : Option (List UInt8 × Nat)) (F : ByteArray) (n : Int) (ho : wordL s.data.toList = o) (h1 : oT o = F) (h2 : (oN o : Int) = n) :
    Calls Try.prog 83 #[.string s] w fun e w' => e = .returned (.tuple #[.string F, .int .i64 n]) ∧ w = w' := by subst ho h1 h2; exact rWord_any s w hs

theorem oOk_pos (o : Option (List UInt8 × Nat)) (h : ∀ p, o = some p → 0 < p.2) : oOk o = decide (0 < oN o) := by
  cases o with
  | none => rfl
  | some p => exact (decide_eq_true (h p rfl)).symm

theorem cut_next (t : ByteArray) (k : Nat) (h : k ≤ t.size) : nextText t 0 (t.extract 0 k) = true ∧ (t.extract 0 k).size = k := by
  have e : (t.extract 0 k).data.toList = t.data.toList.take k := by rw [Lib.extract_data, List.drop_zero, Nat.sub_zero]
  refine ⟨?_, by rw [Lib.size_eq, e, List.length_take, ← Lib.size_eq]; omega⟩
  unfold nextText Lib.hasPrefix
  rw [e, ahead0, List.isPrefixOf_iff_prefix]
  exact List.take_prefix _ _

theorem reads_cases (l : List UInt8) : ∃ (U F : ByteArray) (E : Int) (N : Nat), uT (unqL l) = U ∧ uE (unqL l) = E ∧ oT (frontL l) = F ∧ (oN (frontL l) : Int) = (N : Int) ∧ N ≤ l.length ∧
    ((E = 2 ∧ U = ⟨#[]⟩ ∧ N = 0) ∨ (E = 0 ∧ U = F ∧ 0 < N ∧ N = l.length) ∨ (E = 2 ∧ U = ⟨#[]⟩ ∧ 0 < N ∧ N ≠ l.length)) := by
  refine ⟨_, _, _, _, rfl, rfl, rfl, rfl, ?_, ?_⟩
  · cases h : frontL l with
    | none => simp [oN]
    | some p => have := frontL_fits h; show p.2 ≤ _; omega
  · unfold unqL
    cases h : frontL l with
    | none => left; exact ⟨rfl, rfl, rfl⟩
    | some p =>
      have h2 := frontL_fits h
      right
      simp only
      by_cases hp : p.2 = l.length
      · left; rw [if_pos hp]; exact ⟨rfl, rfl, h2.1, hp⟩
      · right; rw [if_neg hp]; exact ⟨rfl, rfl, h2.1, hp⟩

set_option maxRecDepth 100000 in
set_option maxHeartbeats 4000000 in
theorem quotedReads_walk (s : ByteArray) (fr : Int) (W : World) (hs : s.size ≤ maxLen) (h0 : 0 ≤ fr) (h1 : fr ≤ 255) :
    Calls Try.prog 14 #[.string s, .int .u8 fr] W fun e w' => e = .returned (.bool true) ∧ Below W.heap.size W w' := by
  obtain ⟨t, hT⟩ : ∃ t, cutS 300 s = t := ⟨_, rfl⟩
  have ht : t.size ≤ 300 := by rw [← hT, cutS_size]; omega
  have hl := Lib.size_eq t
  have Q0 := Lib.hid (fun w => few5_at s t w hs hT)
  obtain ⟨U, F, E, N, hU, hE, hF, hN, hNl, hcase⟩ := reads_cases t.data.toList
  have Q1 := Lib.hid (fun w => unquote_at t w (by omega) U E hU hE)
  have Q2 := Lib.hid (fun w => rFront_at t w (by omega) _ F N rfl hF hN)
  obtain ⟨k, hk⟩ : ∃ k, min fr.toNat t.size = k := ⟨_, rfl⟩
  have hkt : k ≤ t.size := by omega
  have hkt2 : (k : Int) ≤ t.size := by omega
  have hmin : min fr (t.size : Int) = (k : Int) := by omega
  have hwr : IntKind.i64.wrap fr = fr := IntWalk.i64_in _ (by omega)
  obtain ⟨hnt, hcs⟩ := cut_next t k hkt
  have hrl := rest_list t k
  have hrs : (t.extract k t.size).size ≤ 1000000 := by rw [Lib.size_eq, hrl, ahead_len]; omega
  obtain ⟨o2, ho2⟩ : ∃ o, frontL (ahead t k) = o := ⟨_, rfl⟩
  obtain ⟨o3, ho3⟩ : ∃ o, wordL (ahead t k) = o := ⟨_, rfl⟩
  have hf2 : oN o2 ≤ 300 := by rw [← ho2]; cases h : frontL (ahead t k) with | none => simp [oN] | some p => have := frontL_fits h; rw [ahead_len] at this; show p.2 ≤ _; omega
  have hf3 : oN o3 ≤ 300 := by rw [← ho3]; cases h : wordL (ahead t k) with | none => simp [oN] | some p => have := wordL_fits h; rw [ahead_len] at this; show p.2 ≤ _; omega
  have hp2 := oOk_pos o2 (fun p hp => (frontL_fits (ho2.trans hp)).1)
  have hp3 := oOk_pos o3 (fun p hp => (wordL_fits (ho3.trans hp)).1)
  have Q3 := Lib.hid (fun w => rFront_at (t.extract k t.size) w hrs o2 _ _ (by rw [hrl]; exact ho2) rfl rfl)
  have Q4 := Lib.hid (fun w => rWord_at (t.extract k t.size) w hrs o3 _ _ (by rw [hrl]; exact ho3) rfl rfl)
  have R2 := Lib.hid (fun (w : World) c (h : ScanAt w c t k) => show Calls Try.prog 80 #[.pointer (some ⟨c, 0, none⟩)] w (FrontPost w c t k o2) by rw [← ho2]; exact quoted_read w c t k h)
  have R3 := Lib.hid (fun (w : World) c (h : ScanAt w c t k) => show Calls Try.prog 79 #[.pointer (some ⟨c, 0, none⟩)] w (FrontPost w c t k o3) by rw [← ho3]; exact quoted_word w c t k h)
  have s2 : IntKind.i64.wrap ((k : Int) + (oN o2 : Int)) = (k : Int) + (oN o2 : Int) := IntWalk.i64_in _ (by omega)
  have s3 : IntKind.i64.wrap ((k : Int) + (oN o3 : Int)) = (k : Int) + (oN o3 : Int) := IntWalk.i64_in _ (by omega)
  have a2 : (((k + oN o2 : Nat) : Int) == (k : Int) + (oN o2 : Int)) = true := by rw [beq_iff_eq]; omega
  have a3 : (((k + oN o3 : Nat) : Int) == (k : Int) + (oN o3 : Int)) = true := by rw [beq_iff_eq]; omega
  have e2 := eqq_self (oT o2)
  have e3 := eqq_self (oT o3)
  have hN300 : (N : Int) ≤ 300 := by omega
  have HNT := Lib.hid hnt; clear hnt
  have HCS := Lib.hid hcs; clear hcs
  rw [← hl] at hcase hNl
  clear hl
  clear ho2 ho3 hrl hrs hN hF hE hU hT hk
  rcases hcase with ⟨rfl, rfl, rfl⟩ | ⟨rfl, rfl, hn1, hn2⟩ | ⟨rfl, rfl, hn1, hn2⟩
  all_goals
    first
    | (have g1 : decide ((0 : Int) < (N : Int)) = true := by simp; omega
       first
       | (have g2 : ((N : Int) == (t.size : Int)) = true := by rw [beq_iff_eq]; omega)
       | (have g2 : ((N : Int) == (t.size : Int)) = false := by rw [beq_eq_false_iff_ne]; omega)
       try (have g3 := neq_self F))
    | skip
    try clear hn2
    go_enter Try.func14, Try.ntmps14
    go_wp2_with fail
    (refine (awake5_any _).mono ?_; rintro e w1 ⟨rfl, h1⟩; have H1 := Lib.hid h1; clear h1; go_wp2_with fail)
    (refine (Q0.out _).mono ?_; rintro e w' ⟨rfl, rfl⟩; go_wp2_with fail)
    (refine (Q1.out _).mono ?_; rintro e w2 ⟨rfl, h2⟩; have H2 := Lib.hid h2; clear h2; go_wp2_with fail)
    (refine (Q2.out _).mono ?_; rintro e w' ⟨rfl, rfl⟩; go_wp2_with fail)
    refine (scan_new t w2).mono ?_
    rintro e w3 ⟨rfl, hw3⟩
    have SA := scanAt_new t w2 (by omega)
    have hb3 : Below w2.heap.size w2 w3 := by rw [← hw3]; exact (Below.refl _ _).alloc (Nat.le_refl _) _
    have hz3 : w3.heap.size = w2.heap.size + 1 := by rw [← hw3]; simp
    rw [hw3] at SA
    have H3 := Lib.hid hb3; clear hb3 hw3
    have HS3 := Lib.hid SA; clear SA
    go_wp2_with fail
    refine (scan_new t w3).mono ?_
    rintro e w4 ⟨rfl, hw4⟩
    have SD := scanAt_new t w3 (by omega)
    have hb4 : Below w3.heap.size w3 w4 := by rw [← hw4]; exact (Below.refl _ _).alloc (Nat.le_refl _) _
    rw [hw4] at SD
    have SC := scanAt_block HS3.out hb4
    have H4 := Lib.hid (bseq H3.out hb4); clear hb4 hw4 H3 HS3
    obtain ⟨c, hc⟩ : ∃ c, w2.heap.size = c := ⟨_, rfl⟩
    obtain ⟨d, hd⟩ : ∃ d, w3.heap.size = d := ⟨_, rfl⟩
    have hcd : d ≠ c := by omega
    have hW2 : W.heap.size ≤ w2.heap.size := ((bseq H1.out H2.out) : Below _ _ _).size
    rw [hc] at SC ⊢
    rw [hd] at SD ⊢
    have TX := Lib.hid (scan_text w4 c t 0 (t.extract 0 k) SC)
    have HD4 := Lib.hid SD; clear SD SC
    go_wp2_with fail
    refine TX.out.mono ?_
    rintro e w5 ⟨rfl, hs5, hf5⟩
    rw [HNT.out] at hs5 ⊢
    rw [if_pos rfl, HCS.out, Nat.zero_add] at hs5
    have hd5 := scanAt_frC HD4.out hf5 hcd
    have H5 := Lib.hid hf5; clear hf5 TX HD4
    have HC5 := Lib.hid hs5; clear hs5
    have TX := Lib.hid (scan_text w5 d t 0 (t.extract 0 k) hd5)
    clear hd5
    go_wp2_with fail
    refine TX.out.mono ?_
    rintro e w6 ⟨rfl, hs6, hf6⟩
    rw [HNT.out] at hs6 ⊢
    rw [if_pos rfl, HCS.out, Nat.zero_add] at hs6
    have hc6 := scanAt_frC HC5.out hf6 hcd.symm
    have H6 := Lib.hid hf6; clear hf6 TX HC5
    have HD6 := Lib.hid hs6; clear hs6
    have HC6 := Lib.hid hc6; clear hc6
    go_wp2_with fail
    refine (R2.out w6 c HC6.out).mono ?_
    rintro e w7 ⟨rfl, hs7, hf7⟩
    have hd7 := scanAt_frC HD6.out hf7 hcd
    have H7 := Lib.hid hf7; clear hf7
    have HC7 := Lib.hid hs7; clear hs7
    have HD7 := Lib.hid hd7; clear hd7 HC6 HD6
    go_wp2_with fail
    (refine (Q3.out _).mono ?_; rintro e w' ⟨rfl, rfl⟩; go_wp2_with fail)
    refine (R3.out w7 d HD7.out).mono ?_
    rintro e w8 ⟨rfl, hs8, hf8⟩
    have hc8 := scanAt_frC HC7.out hf8 hcd.symm
    have H8 := Lib.hid hf8; clear hf8
    have HC8 := Lib.hid hc8; clear hc8
    have HD8 := Lib.hid hs8; clear hs8 HC7 HD7
    go_wp2_with fail
    (refine (Q4.out _).mono ?_; rintro e w' ⟨rfl, rfl⟩; go_wp2_with fail)
    have AT := Lib.hid (scan_at w8 c t _ HC8.out)
    have AT2 := Lib.hid (scan_at w8 d t _ HD8.out)
    refine AT.out.mono ?_
    rintro e w' ⟨rfl, rfl⟩
    go_wp2_with fail
    refine AT2.out.mono ?_
    rintro e w' ⟨rfl, rfl⟩
    go_wp2_with fail
    go_ret
    refine ⟨rfl, ?_⟩
    have z4 := H4.out.size
    have z5 := H5.out.size
    have z6 := H6.out.size
    have z7 := H7.out.size
    have b2 : Below W.heap.size W w2 := (bseq H1.out H2.out)
    exact ((((b2.trans (H4.out.mono hW2)).trans (H5.out.below (by omega) (by omega))).trans (H6.out.below (by omega) (by omega))).trans (H7.out.below (by omega) (by omega))).trans (H8.out.below (by omega) (by omega))

end Go.Proofs.Ythhpijmkhhdhhaa
