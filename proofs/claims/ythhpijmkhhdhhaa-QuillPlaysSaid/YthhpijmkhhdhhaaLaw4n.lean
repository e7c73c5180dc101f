/- The walk of the law QuillNone. -/
import Derived.Test.YthhpijmkhhdhhaaLaw4
namespace Go.Proofs.Ythhpijmkhhdhhaa
open Go.RowKit
set_option linter.unusedVariables false
set_option linter.unusedSimpArgs false

theorem few4_total (ss : List ByteArray) : (bytesOf (few4 ss)).length ≤ 240 ∧ (few4 ss).length ≤ 6 ∧ ∀ s ∈ few4 ss, s.size ≤ maxLen := by
  have hsm : ∀ s ∈ few4 ss, s.size ≤ 40 := by
    intro s hs
    unfold few4 at hs
    obtain ⟨t, _, rfl⟩ := List.mem_map.1 hs
    rw [cutS_size]; omega
  have h : ∀ l : List ByteArray, (∀ s ∈ l, s.size ≤ 40) → (bytesOf l).length ≤ 40 * l.length := by
    intro l
    induction l with
    | nil => intro _; simp [bytesOf]
    | cons s l ih =>
      intro hl
      have h1 := hl s (by simp)
      have h2 := ih fun s hs => hl s (by simp [hs])
      rw [Lib.size_eq] at h1
      simp only [bytesOf, List.map_cons, List.flatten_cons, List.length_append, List.length_cons] at h2 ⊢
      omega
  have h3 := h _ hsm
  have h4 : (few4 ss).length ≤ 6 := by simp [few4]; omega
  exact ⟨by omega, h4, fun s hs => by have := hsm s hs; unfold maxLen; omega⟩

theorem bytesOf_snoc (ss : List ByteArray) (s : ByteArray) : bytesOf (ss ++ [s]) = bytesOf ss ++ s.data.toList := by
  simp [bytesOf]

theorem putOk_none (F : List ByteArray) : putOk [] 0 F = decide ((bytesOf F).length = 0) := by
  unfold putOk
  rw [decide_eq_decide]
  simp only [List.length_nil]
  omega
theorem putL_none (F : List ByteArray) : putL [] 0 F = [] := by
  unfold putL
  rw [putOk_none]
  by_cases h : (bytesOf F).length = 0
  · rw [decide_eq_true h, List.eq_nil_of_length_eq_zero h]; rfl
  · rw [decide_eq_false h]; rfl
theorem putE_none (F : List ByteArray) : putE [] 0 F = if (bytesOf F).length = 0 then 0 else 10 := by
  unfold putE
  rw [putOk_none]
  simp only [decide_eq_true_eq]

theorem quill_new_at (most x : Int) (hx : max most 0 = x) (w : World) (h0 : -9223372036854775808 ≤ most) (h1 : most ≤ 9223372036854775807) :
    Calls Try.prog 52 #[.int .i64 most] w fun e w' => e = .returned (.pointer (some ⟨w.heap.size, 0, none⟩)) ∧ w.alloc (.cells #[.slice none 0 0, .int .i64 x] 106) = w' := by
  subst hx; exact quill_new most w h0 h1

set_option maxRecDepth 100000 in
theorem quillNone_walk (most : Int) (a : Option Addr) (len cap : Nat) (ss : List ByteArray) (w : World) (h0 : -9223372036854775808 ≤ most) (h1 : most ≤ 9223372036854775807) (h : StrsArg w a len ss) :
    Calls Try.prog 7 #[.int .i64 most, .slice a len cap] w fun e w' => e = .returned (.bool true) ∧ Below w.heap.size w w' := by
  have HSA := Lib.hid h; clear h
  have hft := few4_total ss
  obtain ⟨F, hF⟩ : ∃ F, F = few4 ss := ⟨_, rfl⟩
  rw [← hF] at hft
  have HF := Lib.hid hF; clear hF
  obtain ⟨hf1, hf2, hf3⟩ := hft
  have HF3 := Lib.hid hf3; clear hf3
  have hmm : max (min most 0) 0 = 0 := by omega
  have NEW := Lib.hid (fun w => quill_new_at (min most 0) 0 hmm w (by omega) (by omega)); clear hmm
  go_enter Try.func7, Try.ntmps7
  go_wp2_with fail
  (refine (awake4_any _).mono ?_; rintro e w1 ⟨rfl, h1⟩; have H1 := Lib.hid h1; clear h1; go_wp2_with fail)
  have hsa1 : StrsArg w1 a len ss := by
    obtain ⟨x1, x2, x3, x4⟩ := HSA.out
    refine ⟨x1, x2, x3, ?_⟩
    rcases x4 with x4 | ⟨b, o, y1, y2, y3⟩
    · exact .inl x4
    · exact .inr ⟨b, o, y1, Nat.lt_of_lt_of_le y2 H1.out.size, fun j hj => (H1.out.cell (by exact y2)).trans (y3 j hj)⟩
  refine (few4_any w1 a len cap ss hsa1).mono ?_
  rintro e w2 ⟨v, rfl, hown, hb2⟩
  rw [← HF.out] at hown
  clear hsa1
  obtain ⟨va, vc, hv, hsi, hcap, _⟩ := strsIn_own (B := w2.heap.size) hown
  subst hv
  have HB2 := Lib.hid hb2; clear hb2
  have HSI := Lib.hid hsi; clear hsi
  have HCAP := Lib.hid hcap; clear hcap
  have HO := Lib.hid hown; clear hown
  have hal : Below w2.heap.size w2 (w2.alloc (.cells #[.slice none 0 0, .int .i64 0] 106)) := (Below.refl _ _).alloc (Nat.le_refl _) _
  have hq := quillAt_new 0 w2 w2.heap.size (Nat.le_refl _)
  have hs3 := strsIn_below HSI.out hal
  have PUT := Lib.hid (quill_put' _ w2.heap.size w2.heap.size [] 0 va F.length vc F rfl hq (by decide) (by decide) (by decide) (by simp; omega) hs3 (by unfold maxLen; omega) HF3.out)
  have HAL := Lib.hid hal; clear hal hq hs3 HSI
  have HSI := Lib.hid (strsIn_own (B := w2.heap.size) HO.out)
  go_wp2_with fail
  (refine (NEW.out _).mono ?_; rintro e w' ⟨rfl, rfl⟩; go_wp2_with fail)
  refine PUT.out.mono ?_
  intro e w3 hp
  have hl3 : putL [] 0 F = [] := putL_none F
  have he3 := putE_none F
  by_cases hz : (bytesOf F).length = 0
  · rw [if_pos hz] at he3
    obtain ⟨rfl, hq3, hf3⟩ := put_known hp _ he3 _ hl3
    have hsi3 : StrsIn w3 w2.heap.size va F := by
      obtain ⟨va', vc', e1, h2, _, _⟩ := HSI.out
      obtain ⟨rfl, _, rfl⟩ := Value.slice.inj e1
      exact strsIn_fr (strsIn_below h2 HAL.out) hf3 (heap_alloc_new w2 _) (by decide) (Nat.le_refl _)
    have hbl3 : Below w2.heap.size w2 w3 := HAL.out.trans (hf3.below (by simp))
    have HS3 := Lib.hid hsi3; clear hsi3
    have HB3 := Lib.hid hbl3; clear hbl3
    have HQ3 := Lib.hid hq3; clear hq3 hf3 hp hl3 he3
    have hcat : ((⟨#[]⟩ : ByteArray) ++ ⟨#[]⟩) = ⟨#[]⟩ := by decide +kernel
    have hzb : (((bytesOf F).length : Int) == 0) = decide ((bytesOf F).length = 0) := by rw [Bool.eq_iff_iff]; simp
    rw [decide_eq_true hz] at hzb
    have HZ := Lib.hid hz
    have A4 := Lib.hid (all4_any w3 w2.heap.size va F.length vc F rfl HS3.out (by omega) (by omega))
    have LN := Lib.hid (lineNil w3 w2.heap.size va vc F HS3.out HCAP.out (by omega))
    go_wp2_with fail
    (refine (A4.out).mono ?_; rintro e w' ⟨rfl, rfl⟩; go_wp2_with fail)
    (refine (putNil _ _ _ _).mono ?_; rintro e w' ⟨rfl, rfl⟩; go_wp2_with fail)
    refine LN.out.mono ?_
    rintro e w4 ⟨rfl, hb4⟩
    have HB4 := Lib.hid hb4; clear hb4
    go_wp2_with fail
    (refine (lenNil _).mono ?_; rintro e w' ⟨rfl, rfl⟩; go_wp2_with fail)
    (refine (leftNil _).mono ?_; rintro e w' ⟨rfl, rfl⟩; go_wp2_with fail)
    (refine (textNil _).mono ?_; rintro e w' ⟨rfl, rfl⟩; go_wp2_with fail)
    (refine (takeNil _).mono ?_; rintro e w' ⟨rfl, rfl⟩; go_wp2_with fail)
    have hq4 := quillAt_frT HQ3.out HB4.out
    have T4 := Lib.hid (quill_text w4 _ _ _ _ hq4)
    have L4 := Lib.hid (quill_line w4 w2.heap.size w2.heap.size [] 0 va vc F hq4 (by decide) (by decide) (by decide) (by rw [bytesOf_snoc]; simp [crlf]; omega) (strsIn_below HS3.out HB4.out) HCAP.out (by omega) HF3.out)
    clear hq4
    (refine (T4.out).mono ?_; rintro e w' ⟨rfl, rfl⟩; go_wp2_with fail)
    refine L4.out.mono ?_
    intro e w5 hp
    have he5 : putE [] 0 (F ++ [crlf]) = 10 := by
      rw [putE_none, if_neg]
      rw [bytesOf_snoc]; simp [crlf]
    obtain ⟨rfl, _, hf5⟩ := put_known hp _ he5 _ rfl
    have F5 := Lib.hid hf5; clear hf5 hp he5
    go_wp2_with fail
    go_ret
    exact ⟨rfl, bseq (bseq H1.out HB2.out) ((HB3.out.trans (HB4.out.mono (HB3.out.size))).trans (F5.out.below (by have := HB3.out.size; have := HB4.out.size; omega)))⟩
  · rw [if_neg hz] at he3
    obtain ⟨rfl, hq3, hf3⟩ := put_known hp _ he3 _ hl3
    have hsi3 : StrsIn w3 w2.heap.size va F := by
      obtain ⟨va', vc', e1, h2, _, _⟩ := HSI.out
      obtain ⟨rfl, _, rfl⟩ := Value.slice.inj e1
      exact strsIn_fr (strsIn_below h2 HAL.out) hf3 (heap_alloc_new w2 _) (by decide) (Nat.le_refl _)
    have hbl3 : Below w2.heap.size w2 w3 := HAL.out.trans (hf3.below (by simp))
    have HS3 := Lib.hid hsi3; clear hsi3
    have HB3 := Lib.hid hbl3; clear hbl3
    have HQ3 := Lib.hid hq3; clear hq3 hf3 hp hl3 he3
    have hcat : ((⟨#[]⟩ : ByteArray) ++ ⟨#[]⟩) = ⟨#[]⟩ := by decide +kernel
    have hzb : (((bytesOf F).length : Int) == 0) = decide ((bytesOf F).length = 0) := by rw [Bool.eq_iff_iff]; simp
    rw [decide_eq_false hz] at hzb
    have HZ := Lib.hid hz
    have A4 := Lib.hid (all4_any w3 w2.heap.size va F.length vc F rfl HS3.out (by omega) (by omega))
    have LN := Lib.hid (lineNil w3 w2.heap.size va vc F HS3.out HCAP.out (by omega))
    go_wp2_with fail
    (refine (A4.out).mono ?_; rintro e w' ⟨rfl, rfl⟩; go_wp2_with fail)
    (refine (putNil _ _ _ _).mono ?_; rintro e w' ⟨rfl, rfl⟩; go_wp2_with fail)
    refine LN.out.mono ?_
    rintro e w4 ⟨rfl, hb4⟩
    have HB4 := Lib.hid hb4; clear hb4
    go_wp2_with fail
    (refine (lenNil _).mono ?_; rintro e w' ⟨rfl, rfl⟩; go_wp2_with fail)
    (refine (leftNil _).mono ?_; rintro e w' ⟨rfl, rfl⟩; go_wp2_with fail)
    (refine (textNil _).mono ?_; rintro e w' ⟨rfl, rfl⟩; go_wp2_with fail)
    (refine (takeNil _).mono ?_; rintro e w' ⟨rfl, rfl⟩; go_wp2_with fail)
    have hq4 := quillAt_frT HQ3.out HB4.out
    have T4 := Lib.hid (quill_text w4 _ _ _ _ hq4)
    have L4 := Lib.hid (quill_line w4 w2.heap.size w2.heap.size [] 0 va vc F hq4 (by decide) (by decide) (by decide) (by rw [bytesOf_snoc]; simp [crlf]; omega) (strsIn_below HS3.out HB4.out) HCAP.out (by omega) HF3.out)
    clear hq4
    (refine (T4.out).mono ?_; rintro e w' ⟨rfl, rfl⟩; go_wp2_with fail)
    refine L4.out.mono ?_
    intro e w5 hp
    have he5 : putE [] 0 (F ++ [crlf]) = 10 := by
      rw [putE_none, if_neg]
      rw [bytesOf_snoc]; simp [crlf]
    obtain ⟨rfl, _, hf5⟩ := put_known hp _ he5 _ rfl
    have F5 := Lib.hid hf5; clear hf5 hp he5
    go_wp2_with fail
    go_ret
    exact ⟨rfl, bseq (bseq H1.out HB2.out) ((HB3.out.trans (HB4.out.mono (HB3.out.size))).trans (F5.out.below (by have := HB3.out.size; have := HB4.out.size; omega)))⟩

end Go.Proofs.Ythhpijmkhhdhhaa
