/- ParamsWrites. -/
import Derived.Test.YthhpijmkhhdhhaaArgs7
namespace Go.Proofs.Ythhpijmkhhdhhaa
open Go.RowKit
set_option linter.unusedVariables false
set_option linter.unusedSimpArgs false

theorem psArg_below {w w1 : World} {a : Option Addr} {len : Nat} {ps : PL} (h : PsArg w a len ps) (hb : Below w.heap.size w w1) : PsArg w1 a len ps := ⟨h.1, h.2.1, h.2.2.1, psAt_below h.2.2.2 hb⟩

set_option maxRecDepth 100000 in
set_option maxHeartbeats 1000000 in
theorem paramsWrites_walk (a : Option Addr) (len cap : Nat) (ps : PL) (W : World) (h : PsArg W a len ps) :
    Calls Try.prog 16 #[.slice a len cap] W fun e w' => e = .returned (.bool true) ∧ Below W.heap.size W w' := by
  have HA := Lib.hid h; clear h
  obtain ⟨hok, h8⟩ := few7_ok ps
  have HFW := Lib.hid (fun (w : World) (h : PsArg w a len ps) => few7_any w a len cap ps h)
  generalize few7 ps = qs at hok h8 HFW
  have HOK := Lib.hid hok; clear hok
  cases hx : textL qs with
  | none =>
    have T1 := Lib.hid (fun w a c (h : PsAt w a qs) => text_at w a qs.length c qs h rfl HOK.out ⟨#[]⟩ 2 (by rw [hx]; rfl) (by rw [hx]; rfl))
    have T2 := Lib.hid (fun w a c (h : PsAt w a qs) => rText_at w a qs.length c qs h rfl HOK.out ⟨#[]⟩ 2 (by rw [hx]; rfl) (by rw [hx]; rfl))
    have P1 := Lib.hid (fun w => parse_at ⟨#[]⟩ w (by decide) none (by decide +kernel))
    clear hx
    go_enter Try.func16, Try.ntmps16
    go_wp2_with fail
    (refine (awake7_any _).mono ?_; rintro e w1 ⟨rfl, h1⟩; have H1 := Lib.hid h1; clear h1; go_wp2_with fail)
    refine (HFW.out _ (psArg_below HA.out H1.out)).mono ?_
    rintro e w2 ⟨a2, c2, rfl, hb2, hp2, _, _⟩
    have H2 := Lib.hid hb2; clear hb2
    have R2 := Lib.hid hp2; clear hp2
    go_wp2_with fail
    refine (T1.out _ _ _ R2.out).mono ?_
    rintro e w3 ⟨rfl, hb3⟩
    have R3 := Lib.hid (psAt_below R2.out hb3)
    have H3 := Lib.hid hb3; clear hb3
    go_wp2_with fail
    refine (T2.out _ _ _ R3.out).mono ?_
    rintro e w' ⟨rfl, rfl⟩
    go_wp2_with fail
    refine (P1.out _).mono ?_
    rintro e w4 ⟨a4, c4, rfl, hb4, hp4⟩
    have H4 := Lib.hid hb4; clear hb4 hp4
    simp only [oPs, Option.getD_none, List.length_nil, pE, Option.isSome_none, Bool.false_eq_true, if_false]
    go_wp2_with fail
    go_ret
    exact ⟨rfl, (bseq (bseq (bseq H1.out H2.out) H3.out) H4.out)⟩
  | some x =>
    have hxl := text_len hx HOK.out
    have hxp := parse_text hx
    obtain ⟨X, hX⟩ : ∃ X, bs x = X := ⟨_, rfl⟩
    have hXs : X.size ≤ 900000 := by rw [← hX, bs_size]; have : qs.length * 3004 ≤ 8 * 3004 := Nat.mul_le_mul_right _ (by omega); omega
    have T1 := Lib.hid (fun w a c (h : PsAt w a qs) => text_at w a qs.length c qs h rfl HOK.out X 0 (by rw [hx]; exact hX) (by rw [hx]; rfl))
    have T2 := Lib.hid (fun w a c (h : PsAt w a qs) => rText_at w a qs.length c qs h rfl HOK.out X 0 (by rw [hx]; exact hX) (by rw [hx]; rfl))
    have P1 := Lib.hid (fun w => parse_at X w hXs (some qs) (by rw [← hX]; exact hxp))
    have n1 : (X.toList != X.toList) = false := by simp
    clear hx hxl hxp hX
    go_enter Try.func16, Try.ntmps16
    go_wp2_with fail
    (refine (awake7_any _).mono ?_; rintro e w1 ⟨rfl, h1⟩; have H1 := Lib.hid h1; clear h1; go_wp2_with fail)
    refine (HFW.out _ (psArg_below HA.out H1.out)).mono ?_
    rintro e w2 ⟨a2, c2, rfl, hb2, hp2, _, _⟩
    have H2 := Lib.hid hb2; clear hb2
    have R2 := Lib.hid hp2; clear hp2
    go_wp2_with fail
    refine (T1.out _ _ _ R2.out).mono ?_
    rintro e w3 ⟨rfl, hb3⟩
    have R3 := Lib.hid (psAt_below R2.out hb3)
    have H3 := Lib.hid hb3; clear hb3
    go_wp2_with fail
    refine (T2.out _ _ _ R3.out).mono ?_
    rintro e w' ⟨rfl, rfl⟩
    go_wp2_with fail
    refine (P1.out _).mono ?_
    rintro e w4 ⟨a4, c4, rfl, hb4, hp4⟩
    have R4 := Lib.hid (psAt_below R3.out hb4)
    have SM := Lib.hid (same_true w4 a2 a4 qs.length qs.length c2 c4 qs R4.out hp4 rfl rfl (by omega))
    have H4 := Lib.hid hb4; clear hb4 hp4
    simp only [oPs, Option.getD_some, pE, Option.isSome_some, if_true]
    go_wp2_with fail
    (refine (SM.out).mono ?_; rintro e w5 ⟨rfl, h5⟩; have H5 := Lib.hid h5; clear h5; go_wp2_with fail)
    go_ret
    exact ⟨rfl, (bseq (bseq (bseq (bseq H1.out H2.out) H3.out) H4.out) H5.out)⟩

end Go.Proofs.Ythhpijmkhhdhhaa
