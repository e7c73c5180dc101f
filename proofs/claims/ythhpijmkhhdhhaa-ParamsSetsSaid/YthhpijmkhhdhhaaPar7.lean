/- The law's awake of layer 7; ParamsReads. -/
import Derived.Test.YthhpijmkhhdhhaaPar6
namespace Go.Proofs.Ythhpijmkhhdhhaa
open Go.RowKit
set_option linter.unusedVariables false
set_option linter.unusedSimpArgs false

def RowPost (w : World) (o : Option PL) (e : Ending) (w' : World) : Prop :=
  ∃ a c, e = .returned (.tuple #[.slice a (oPs o).length c, .int .i64 (pE o)]) ∧ Below w.heap.size w w' ∧ PsAt w' a (oPs o)

theorem parse_at (s : ByteArray) (w : World) (hs : s.size ≤ 900000) (o : Option PL) (ho : parseL s.data.toList = o) : Calls Try.prog 85 #[.string s] w (RowPost w o) := by
  subst ho
  refine (parse_any s w hs).mono ?_
  rintro e w' ⟨v, rfl, hb, hown⟩
  obtain ⟨a, c, rfl, hp, _⟩ := psAt_own hown
  exact ⟨a, c, rfl, hb, hp⟩

theorem rParse_at (s : ByteArray) (w : World) (hs : s.size ≤ 100000) (o : Option PL) (ho : parseL s.data.toList = o) : Calls Try.prog 86 #[.string s] w (RowPost w o) := by
  subst ho
  refine (rParse_any s w hs).mono ?_
  rintro e w' ⟨v, rfl, hb, hown⟩
  obtain ⟨a, c, rfl, hp, _⟩ := psAt_own hown
  exact ⟨a, c, rfl, hb, hp⟩

theorem text_at (w : World) (a : Option Addr) (n cap : Nat) (ps : PL) (h : PsAt w a ps) (hn : n = ps.length) (hok : PsOk ps) (X : ByteArray) (E : Int) (h1 : tT (textL ps) = X) (h2 : tE (textL ps) = E) :
    Calls Try.prog 88 #[.slice a n cap] w fun e w' => e = .returned (.tuple #[.string X, .int .i64 E]) ∧ Below w.heap.size w w' := by subst h1 h2; exact text_any w a n cap ps h hn hok
theorem rText_at (w : World) (a : Option Addr) (n cap : Nat) (ps : PL) (h : PsAt w a ps) (hn : n = ps.length) (hok : PsOk ps) (X : ByteArray) (E : Int) (h1 : tT (textL ps) = X) (h2 : tE (textL ps) = E) :
    Calls Try.prog 90 #[.slice a n cap] w fun e w' => e = .returned (.tuple #[.string X, .int .i64 E]) ∧ w = w' := by subst h1 h2; exact rText_any w a n cap ps h hn hok

theorem parseF_bound : ∀ (f : Nat) (l : List UInt8) (ps : PL), parseF f l = some ps → ps.length ≤ l.length ∧ ∀ p ∈ ps, p.1.length ≤ l.length ∧ p.2.length ≤ l.length := by
  intro f
  induction f with
  | zero => intro l ps h; cases h
  | succ f ih =>
    intro l ps h
    unfold parseF at h
    split at h
    · cases h
    · next p n h1 =>
      have h0 := oneL_fits h1
      split at h
      · injection h with h; subst h
        refine ⟨by simp; omega, fun q hq => ?_⟩
        simp at hq; subst hq; omega
      · split at h
        · cases h
        · rw [Option.map_eq_some_iff] at h
          obtain ⟨qs, h2, rfl⟩ := h
          obtain ⟨b1, b2⟩ := ih _ _ h2
          rw [List.length_drop] at b1 b2
          refine ⟨by simp; omega, fun q hq => ?_⟩
          rcases List.mem_cons.1 hq with rfl | hq
          · omega
          · have := b2 q hq; omega

theorem parse_ok {l : List UInt8} {ps : PL} (h : parseL l = some ps) (hl : l.length ≤ 200) : PsOk ps := by
  obtain ⟨h1, h2⟩ := parseF_bound _ _ _ h
  exact ⟨by omega, fun p hp => by have := h2 p hp; omega⟩

theorem text_len {ps : PL} {x : List UInt8} (h : textL ps = some x) (hok : PsOk ps) : x.length ≤ ps.length * 3004 := by
  unfold textL at h
  split at h
  · cases h
  · rw [Option.map_eq_some_iff] at h
    obtain ⟨xs, hx, rfl⟩ := h
    have hl := itemsL_len ps xs hx
    rw [← hl]
    refine joinL_len xs fun y hy => ?_
    have : ∀ (ps : PL) (xs : List (List UInt8)), itemsL ps = some xs → (∀ p ∈ ps, p.1.length ≤ 1000 ∧ p.2.length ≤ 1000) → ∀ y ∈ xs, y.length ≤ 3003 := by
      intro ps
      induction ps with
      | nil => intro xs h _ y hy; injection h with h; subst h; simp at hy
      | cons p r ih =>
        intro xs h hp y hy
        unfold itemsL at h
        split at h
        · cases h
        · next x hx =>
          rw [Option.map_eq_some_iff] at h
          obtain ⟨ys, hy2, rfl⟩ := h
          have hp0 := hp p (List.mem_cons_self ..)
          rcases List.mem_cons.1 hy with rfl | hy
          · exact itemL_len hx hp0.1 hp0.2
          · exact ih ys hy2 (fun q hq => hp q (List.mem_cons_of_mem _ hq)) y hy
    exact this ps xs hx hok.2 y hy

theorem psAt_lit (w : World) (u1 u2 : ByteArray) (p : List UInt8 × List UInt8) (h1 : bs p.1 = u1) (h2 : bs p.2 = u2) : PsAt (w.alloc (.cells #[.string u1, .string u2] 85)) (some ⟨w.heap.size, 0, none⟩) [p] := by
  subst h1 h2
  refine .inr ⟨w.heap.size, 0, rfl, by simp, fun j hj => ?_⟩
  obtain rfl : j = 0 := by simpa using hj
  simp

set_option maxRecDepth 100000 in
theorem awake7_any (w : World) :
    Calls Try.prog 84 #[] w fun e w' => e = .returned (.bool true) ∧ Below w.heap.size w w' := by
  have PA := Lib.hid (parse_at ⟨#[102, 111, 114, 61, 95, 97, 59, 104, 111, 115, 116, 61, 34, 120, 58, 49, 34]⟩ w (by decide) (some [([102, 111, 114], [95, 97]), ([104, 111, 115, 116], [120, 58, 49])]) (by decide +kernel))
  go_enter Try.func84, Try.ntmps84
  go_wp2_with fail
  refine PA.out.mono ?_
  rintro e w1 ⟨a, c, rfl, hb1, hp1⟩
  have H1 := Lib.hid hb1; clear hb1 PA
  have HP := Lib.hid hp1; clear hp1
  have TX := Lib.hid (text_at (w1.alloc (.cells #[.string ⟨#[98, 121]⟩, .string ⟨#[97, 32, 98]⟩] 85)) (some ⟨w1.heap.size, 0, none⟩) 1 1 [([98, 121], [97, 32, 98])] (psAt_lit w1 _ _ _ rfl rfl) rfl ⟨by decide, by intro p hp; simp at hp; subst hp; decide⟩ ⟨#[98, 121, 61, 34, 97, 32, 98, 34]⟩ 0 (bytes_ext0 (by decide +kernel)) (by decide +kernel))
  have hal := (Below.refl w1.heap.size w1).alloc (Nat.le_refl _) (.cells #[.string ⟨#[98, 121]⟩, .string ⟨#[97, 32, 98]⟩] 85)
  have HAL := Lib.hid hal; clear hal
  go_wp2_with fail
  refine TX.out.mono ?_
  rintro e w2 ⟨rfl, hb2⟩
  have hb2 := bseq HAL.out hb2
  have hp2 := psAt_below HP.out hb2
  have H2 := Lib.hid hb2; clear hb2 TX HAL
  obtain ⟨b, o, rfl, _, y0, y1⟩ := psAt_at hp2 1 (by decide)
  have x0 : w2.cell? ⟨b, o + 2, none⟩ = some (.string ⟨#[104, 111, 115, 116]⟩) := y0
  have x1 : w2.cell? ⟨b, o + 2 + 1, none⟩ = some (.string ⟨#[120, 58, 49]⟩) := y1
  clear hp2 HP y0 y1
  go_wp2_with fail
  go_ret
  exact ⟨rfl, (bseq H1.out H2.out)⟩

theorem psAt_self {w : World} {a : Option Addr} {ps qs : PL} (h : PsAt w a ps) (e : ps = qs) : PsAt w a qs := by rw [← e]; exact h

set_option maxRecDepth 100000 in
set_option maxHeartbeats 1000000 in
theorem paramsReads_walk (s : ByteArray) (W : World) (hs : s.size ≤ maxLen) :
    Calls Try.prog 15 #[.string s] W fun e w' => e = .returned (.bool true) ∧ Below W.heap.size W w' := by
  unfold maxLen at hs
  obtain ⟨t, hT⟩ : ∃ t, cutS 200 s = t := ⟨_, rfl⟩
  have ht : t.size ≤ 200 := by rw [← hT, cutS_size]; omega
  have hcut : s.extract 0 (min (s.size : Int) 200).toNat = t := by rw [← hT]; exact extract_cutS 200 s _ (by omega)
  have hl := Lib.size_eq t
  cases hp : parseL t.data.toList with
  | none =>
    have P1 := Lib.hid (fun w => parse_at t w (by omega) none hp)
    have P2 := Lib.hid (fun w => rParse_at t w (by omega) none hp)
    clear hp hl hT
    go_enter Try.func15, Try.ntmps15
    go_wp2_with fail
    (refine (awake7_any _).mono ?_; rintro e w1 ⟨rfl, h1⟩; have H1 := Lib.hid h1; clear h1; go_wp2_with fail)
    refine (P1.out _).mono ?_
    rintro e w2 ⟨a2, c2, rfl, hb2, hr2⟩
    have H2 := Lib.hid hb2; clear hb2
    have HR2 := Lib.hid hr2; clear hr2
    go_wp2_with fail
    refine (P2.out _).mono ?_
    rintro e w3 ⟨a3, c3, rfl, hb3, hr3⟩
    have SM := Lib.hid (same_true w3 a2 a3 0 0 c2 c3 [] (psAt_below HR2.out hb3) hr3 rfl rfl (by simp))
    have H3 := Lib.hid hb3; clear hb3 hr3
    simp only [oPs, Option.getD_none, List.length_nil, pE, Option.isSome_none, Bool.false_eq_true, if_false]
    go_wp2_with fail
    (refine (SM.out).mono ?_; rintro e w4 ⟨rfl, h4⟩; have H4 := Lib.hid h4; clear h4; go_wp2_with fail)
    go_ret
    exact ⟨rfl, (bseq (bseq (bseq H1.out H2.out) H3.out) H4.out)⟩
  | some ps =>
    have hok := parse_ok hp (by omega)
    obtain ⟨x, hx⟩ := text_parse hp
    have hxl := text_len hx hok
    have hps := hok.1
    have hpb := (parseF_bound _ _ _ hp).1
    have hxp := parse_text hx
    obtain ⟨X, hX⟩ : ∃ X, bs x = X := ⟨_, rfl⟩
    have hXs : X.size ≤ 900000 := by rw [← hX, bs_size]; have : ps.length * 3004 ≤ 200 * 3004 := Nat.mul_le_mul_right _ (by omega); omega
    have P1 := Lib.hid (fun w => parse_at t w (by omega) (some ps) hp)
    have P2 := Lib.hid (fun w => rParse_at t w (by omega) (some ps) hp)
    have P3 := Lib.hid (fun w => parse_at X w hXs (some ps) (by rw [← hX]; exact hxp))
    have TX := Lib.hid (fun w a c (h : PsAt w a ps) => text_at w a ps.length c ps h rfl hok X 0 (by rw [hx]; exact hX) (by rw [hx]; rfl))
    clear hp hl hT hx hxl hxp hX hpb hok
    go_enter Try.func15, Try.ntmps15
    go_wp2_with fail
    (refine (awake7_any _).mono ?_; rintro e w1 ⟨rfl, h1⟩; have H1 := Lib.hid h1; clear h1; go_wp2_with fail)
    refine (P1.out _).mono ?_
    rintro e w2 ⟨a2, c2, rfl, hb2, hr2⟩
    have H2 := Lib.hid hb2; clear hb2
    have HR2 := Lib.hid hr2; clear hr2
    go_wp2_with fail
    refine (P2.out _).mono ?_
    rintro e w3 ⟨a3, c3, rfl, hb3, hr3⟩
    have HR3 := Lib.hid (psAt_below HR2.out hb3)
    have SM := Lib.hid (same_true w3 a2 a3 ps.length ps.length c2 c3 ps HR3.out hr3 rfl rfl (by omega))
    have H3 := Lib.hid hb3; clear hb3 hr3
    simp only [oPs, Option.getD_some, pE, Option.isSome_some, if_true]
    go_wp2_with fail
    refine SM.out.mono ?_
    rintro e w4 ⟨rfl, hb4⟩
    have HR4 := Lib.hid (psAt_below HR3.out hb4)
    have H4 := Lib.hid hb4; clear hb4
    go_wp2_with fail
    refine (TX.out _ _ _ HR4.out).mono ?_
    rintro e w5 ⟨rfl, hb5⟩
    have HR5 := Lib.hid (psAt_below HR4.out hb5)
    have H5 := Lib.hid hb5; clear hb5
    go_wp2_with fail
    refine (P3.out _).mono ?_
    rintro e w6 ⟨a6, c6, rfl, hb6, hr6⟩
    have HR6 := Lib.hid (psAt_below HR5.out hb6)
    have SM2 := Lib.hid (same_true w6 a6 a2 ps.length ps.length c6 c2 ps hr6 HR6.out rfl rfl (by omega))
    have H6 := Lib.hid hb6; clear hb6 hr6
    simp only [oPs, Option.getD_some, pE, Option.isSome_some, if_true]
    go_wp2_with fail
    (refine (SM2.out).mono ?_; rintro e w7 ⟨rfl, h7⟩; have H7 := Lib.hid h7; clear h7; go_wp2_with fail)
    go_ret
    exact ⟨rfl, (bseq (bseq (bseq (bseq (bseq (bseq H1.out H2.out) H3.out) H4.out) H5.out) H6.out) H7.out)⟩

end Go.Proofs.Ythhpijmkhhdhhaa
