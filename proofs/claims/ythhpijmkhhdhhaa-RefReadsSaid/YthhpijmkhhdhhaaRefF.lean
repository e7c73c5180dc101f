/- The reference's Head. -/
import Derived.Test.YthhpijmkhhdhhaaRefE
namespace Go.Proofs.Ythhpijmkhhdhhaa
open Go.RowKit
set_option linter.unusedVariables false
set_option linter.unusedSimpArgs false

set_option maxRecDepth 100000 in
set_option maxHeartbeats 2000000 in
theorem rHead_any (r : RefB) (w : World) (hS : r.S.size ≤ 100000) (hA : r.A.size ≤ 100000) :
    Calls Try.prog 104 #[r.val] w fun e w' => e = .returned (.string (mkB (headL r.toV))) ∧ Below w.heap.size w w' := by
  obtain ⟨S, A, Pa, Q, F, ha, hq, hf⟩ := r
  simp only at hS hA
  have hv : (mkB (headL (⟨S, A, Pa, Q, F, ha, hq, hf⟩ : RefB).toV)).data.toList = (if S.data.toList = [] then [] else S.data.toList ++ [58]) ++ (if ha then 47 :: 47 :: A.data.toList else []) := by rw [mkB_data]; rfl
  have HV := Lib.hid hv; clear hv
  have HE := Lib.hid (Lib.toList_data S)
  have r1 : RefAt (w.alloc (.cells (⟨S, A, Pa, Q, F, ha, hq, hf⟩ : RefB).cells 95)) w.heap.size ⟨S, A, Pa, Q, F, ha, hq, hf⟩ := refAt_new w _
  have hb1 : Below w.heap.size w (w.alloc (.cells (⟨S, A, Pa, Q, F, ha, hq, hf⟩ : RefB).cells 95)) := (Below.refl _ _).alloc (Nat.le_refl _) _
  have HB1 := Lib.hid hb1; clear hb1
  obtain ⟨c0, c1, c2, c3, c4, c5, c6, c7⟩ := ref_cells r1
  clear r1
  show Calls Try.prog 104 #[.agg #[.string S, .string A, .string Pa, .string Q, .string F, .bool ha, .bool hq, .bool hf]] w _
  cases hse : S.toList.isEmpty with
  | true =>
    have HSE : Hid (S.data.toList = []) := Lib.hid (by rw [← HE.out]; simpa using hse)
    cases ha with
    | true =>
      go_enter Try.func104, Try.ntmps104
      go_wp2_with fail
      go_ret
      exact ⟨ret_strX (bytes_extX (by rw [HV.out, HSE.out]; simp [ByteArray.data_append])), HB1.out⟩
    | false =>
      go_enter Try.func104, Try.ntmps104
      go_wp2_with fail
      go_ret
      exact ⟨ret_strX (bytes_extX (by rw [HV.out, HSE.out]; simp)), HB1.out⟩
  | false =>
    have HSE : Hid (¬ S.data.toList = []) := Lib.hid (by rw [← HE.out]; simpa using hse)
    cases ha with
    | true =>
      go_enter Try.func104, Try.ntmps104
      go_wp2_with fail
      go_ret
      exact ⟨ret_strX (bytes_extX (by rw [HV.out, if_neg HSE.out]; simp [ByteArray.data_append])), HB1.out⟩
    | false =>
      go_enter Try.func104, Try.ntmps104
      go_wp2_with fail
      go_ret
      exact ⟨ret_strX (bytes_extX (by rw [HV.out, if_neg HSE.out]; simp [ByteArray.data_append])), HB1.out⟩

end Go.Proofs.Ythhpijmkhhdhhaa
