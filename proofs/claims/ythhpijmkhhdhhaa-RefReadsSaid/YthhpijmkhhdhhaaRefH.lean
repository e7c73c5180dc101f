/- uriref.head. -/
import Derived.Test.YthhpijmkhhdhhaaRefF
import Derived.Test.YthhpijmkhhdhhaaQuill2
namespace Go.Proofs.Ythhpijmkhhdhhaa
open Go.RowKit
set_option linter.unusedVariables false
set_option linter.unusedSimpArgs false

theorem quill_new_at (most x : Int) (hx : max most 0 = x) (w : World) (h0 : -9223372036854775808 ≤ most) (h1 : most ≤ 9223372036854775807) :
    Calls Try.prog 52 #[.int .i64 most] w fun e w' => e = .returned (.pointer (some ⟨w.heap.size, 0, none⟩)) ∧ w.alloc (.cells #[.slice none 0 0, .int .i64 x] 106) = w' := by
  subst hx; exact quill_new most w h0 h1

theorem bytesOf_two (x y : ByteArray) : bytesOf [x, y] = x.data.toList ++ y.data.toList := by simp [bytesOf]
/-- Put of two texts that go in. -/
theorem put_two (W : World) (B b : Nat) (l : List UInt8) (most : Int) (x y : ByteArray) (h : QuillAt W B b l most) (hm : most ≤ 100000) (hl : (l.length : Int) + x.size + y.size ≤ most) :
    Calls Try.prog 56 #[.pointer (some ⟨b, 0, none⟩), .slice (some ⟨W.heap.size, 0, none⟩) 2 2] (W.alloc (.cells #[.string x, .string y] 9))
      fun e w' => e = .returned (.int .i64 0) ∧ QuillAt w' B b (l ++ (x.data.toList ++ y.data.toList)) most ∧ FrT B b 5 W w' := by
  have hal : Below W.heap.size W (W.alloc (.cells #[.string x, .string y] 9)) := (Below.refl _ _).alloc (Nat.le_refl _) _
  have hz : (bytesOf [x, y]).length = x.size + y.size := by rw [bytesOf_two, List.length_append, Lib.size_eq, Lib.size_eq]
  have hok : putOk l most [x, y] = true := by
    unfold putOk
    rw [hz, decide_eq_true_eq]
    omega
  have hs : StrsIn (W.alloc (.cells #[.string x, .string y] 9)) B (some ⟨W.heap.size, 0, none⟩) [x, y] := by
    refine .inr ⟨W.heap.size, 0, rfl, by simp, .inr ⟨_, _, heap_alloc_new W _⟩, fun j hj => ?_⟩
    have : j = 0 ∨ j = 1 := by simp at hj; omega
    rcases this with rfl | rfl <;> simp
  have hpre := quill_put' (W.alloc (.cells #[.string x, .string y] 9)) B b l most (some ⟨W.heap.size, 0, none⟩) 2 2 [x, y] rfl (quillAt_frT h hal) (by omega) (by omega) (by omega) (by rw [hz]; omega) hs (by decide)
    (by intro s hs; simp at hs; unfold maxLen; rcases hs with rfl | rfl <;> omega)
  refine hpre.mono ?_
  rintro e w' ⟨rfl, hq, hf⟩
  unfold putL at hq
  unfold putE
  rw [hok, bytesOf_two] at hq
  rw [hok]
  exact ⟨rfl, hq, (FrT.ofBelow hal).trans hf⟩

theorem refAt_frT {B b c : Nat} {w w' : World} {r : RefB} (h : RefAt w b r) (hf : FrT B c 5 w w') (hlt : b < B) : RefAt w' b r := by
  have h' := h
  unfold RefAt at h ⊢
  rw [hf.block b (refAt_lt h') (.inl hlt)]
  exact h

set_option maxRecDepth 100000 in
set_option maxHeartbeats 4000000 in
theorem head_any (r : RefB) (w : World) (hS : r.S.size ≤ 10000) (hA : r.A.size ≤ 10000) :
    Calls Try.prog 123 #[r.val] w fun e w' => e = .returned (.string (mkB (headL r.toV))) ∧ Below w.heap.size w w' := by
  obtain ⟨S, A, Pa, Q, F, ha, hq, hf⟩ := r
  simp only at hS hA
  have hv : headL (⟨S, A, Pa, Q, F, ha, hq, hf⟩ : RefB).toV = (if S.data.toList = [] then [] else S.data.toList ++ [58]) ++ (if ha then 47 :: 47 :: A.data.toList else []) := rfl
  have HV := Lib.hid hv; clear hv
  have HE := Lib.hid (Lib.toList_data S)
  obtain ⟨most, hmost⟩ : ∃ most : Int, (S.size : Int) + (A.size : Int) + 3 = most := ⟨_, rfl⟩
  have g1 : IntKind.i64.wrap ((S.size : Int) + (A.size : Int)) = (S.size : Int) + (A.size : Int) := wrap_small _ (by omega) (by omega)
  have g2 : IntKind.i64.wrap ((S.size : Int) + (A.size : Int) + 3) = most := by rw [wrap_small _ (by omega) (by omega)]; exact hmost
  have NEW := Lib.hid (fun w => quill_new_at most most (by omega) w (by omega) (by omega))
  have hm1 : most ≤ 100000 := by omega
  have HM := Lib.hid hmost; clear hmost
  have r1 : RefAt (w.alloc (.cells (⟨S, A, Pa, Q, F, ha, hq, hf⟩ : RefB).cells 95)) w.heap.size ⟨S, A, Pa, Q, F, ha, hq, hf⟩ := refAt_new w _
  have hb1 : Below w.heap.size w (w.alloc (.cells (⟨S, A, Pa, Q, F, ha, hq, hf⟩ : RefB).cells 95)) := (Below.refl _ _).alloc (Nat.le_refl _) _
  have hz1 : (w.alloc (.cells (⟨S, A, Pa, Q, F, ha, hq, hf⟩ : RefB).cells 95)).heap.size = w.heap.size + 1 := by simp
  have q2 := quillAt_new most (w.alloc (.cells (⟨S, A, Pa, Q, F, ha, hq, hf⟩ : RefB).cells 95)) (w.heap.size + 1) (by rw [hz1]; exact Nat.le_refl _)
  rw [hz1] at q2
  have r2 := refAt_alloc r1 (.cells #[.slice none 0 0, .int .i64 most] 106)
  have hb2 := hb1.alloc hb1.size (.cells #[.slice none 0 0, .int .i64 most] 106)
  obtain ⟨c0, c1, c2, c3, c4, c5, c6, c7⟩ := ref_cells r1
  have R2 := Lib.hid r2; have Q2 := Lib.hid q2; have HB2 := Lib.hid hb2
  clear r1 hb1 hz1 q2 r2 hb2
  show Calls Try.prog 123 #[.agg #[.string S, .string A, .string Pa, .string Q, .string F, .bool ha, .bool hq, .bool hf]] w _
  go_enter Try.func123, Try.ntmps123
  go_wp2_with fail
  refine (NEW.out _).mono ?_
  rintro e w2 ⟨rfl, hw2⟩
  have R2 := Lib.hid (show RefAt w2 w.heap.size ⟨S, A, Pa, Q, F, ha, hq, hf⟩ from by rw [← hw2]; exact R2.out)
  have Q2 := Lib.hid (show QuillAt w2 (w.heap.size + 1) (w.heap.size + 1) [] most from by rw [← hw2]; exact Q2.out)
  have HB2 := Lib.hid (show Below w.heap.size w w2 from by rw [← hw2]; exact HB2.out)
  clear hw2 c0 c1 c2 c3 c4 c5 c6 c7 g1 g2
  obtain ⟨c0, c1, c2, c3, c4, c5, c6, c7⟩ := ref_cells R2.out
  have P1 := Lib.hid (put_two w2 (w.heap.size + 1) (w.heap.size + 1) [] most S ⟨#[58]⟩ Q2.out hm1 (by have := HM.out; show (0 : Int) + S.size + 1 ≤ most; omega))
  go_upto_if 15 with fail
  go_cut [] (fun wx => Below w.heap.size w wx ∧ RefAt wx w.heap.size ⟨S, A, Pa, Q, F, ha, hq, hf⟩ ∧ QuillAt wx (w.heap.size + 1) (w.heap.size + 1) (if S.data.toList = [] then [] else S.data.toList ++ [58]) most)
  case first =>
    cases hse : S.toList.isEmpty with
    | true =>
      have HSE : Hid (S.data.toList = []) := Lib.hid (by rw [← HE.out]; simpa using hse)
      go_wp2_with fail
      go_meet
      exact ⟨HB2.out, R2.out, by rw [if_pos HSE.out]; exact Q2.out⟩
    | false =>
      have HSE : Hid (¬ S.data.toList = []) := Lib.hid (by rw [← HE.out]; simpa using hse)
      go_wp2_with fail
      refine P1.out.mono ?_
      rintro e w3 ⟨rfl, hq3, hf3⟩
      have R3 := Lib.hid (refAt_frT R2.out hf3 (by omega))
      have HB3 := Lib.hid (HB2.out.trans ((hf3.below (by have := refAt_lt R2.out; omega)).mono (by omega)))
      have Q3 := Lib.hid hq3
      clear hq3 hf3
      go_wp2_with fail
      go_meet
      exact ⟨HB3.out, R3.out, by rw [if_neg HSE.out]; exact Q3.out⟩
  case rest =>
    obtain ⟨hb3, r3, q3⟩ := hcut
    obtain ⟨l, hl⟩ : ∃ l, (if S.data.toList = [] then [] else S.data.toList ++ [58]) = l := ⟨_, rfl⟩
    have hll : l.length ≤ S.size + 1 := by
      rw [← hl]
      split
      · simp
      · rw [List.length_append, ← Lib.size_eq]; simp
    rw [hl] at q3 HV
    clear hl P1 Q2 R2 HB2 c0 c1 c2 c3 c4 c5 c6 c7
    have R3 := Lib.hid r3; have HB3 := Lib.hid hb3; have Q3 := Lib.hid q3
    clear r3 hb3 q3
    obtain ⟨c0, c1, c2, c3, c4, c5, c6, c7⟩ := ref_cells R3.out
    have TX := Lib.hid (quill_text wc _ _ l most Q3.out)
    have P2 := Lib.hid (put_two wc (w.heap.size + 1) (w.heap.size + 1) l most ⟨#[47, 47]⟩ A Q3.out hm1 (by have := HM.out; show (l.length : Int) + 2 + A.size ≤ most; omega))
    cases ha with
    | false =>
      go_wp2_with fail
      (refine (TX.out).mono ?_; rintro e w' ⟨rfl, rfl⟩; go_wp2_with fail)
      go_ret
      exact ⟨by rw [HV.out]; simp [mkB], HB3.out⟩
    | true =>
      go_wp2_with fail
      refine P2.out.mono ?_
      rintro e w4 ⟨rfl, hq4, hf4⟩
      have TX := Lib.hid (quill_text w4 _ _ _ most hq4)
      have HB4 := Lib.hid (HB3.out.trans ((hf4.below (by have := refAt_lt R3.out; omega)).mono (by omega)))
      clear hq4 hf4
      go_wp2_with fail
      (refine (TX.out).mono ?_; rintro e w' ⟨rfl, rfl⟩; go_wp2_with fail)
      go_ret
      exact ⟨by rw [HV.out]; rfl, HB4.out⟩

end Go.Proofs.Ythhpijmkhhdhhaa
