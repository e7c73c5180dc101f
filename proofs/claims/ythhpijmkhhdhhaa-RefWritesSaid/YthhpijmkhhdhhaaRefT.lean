/- A reference's text: plain law. -/
import Derived.Test.YthhpijmkhhdhhaaRefF
namespace Go.Proofs.Ythhpijmkhhdhhaa
open Go.RowKit
set_option linter.unusedVariables false
set_option linter.unusedSimpArgs false

/-- Does a reference's text, taken apart, give it back? -/
def backB (r : RefB) : Bool := wellL (partsP (textL r.toV)) && refEq (partsP (textL r.toV)).toB r
def textV (r : RefB) : Value := if backB r then .tuple #[.string (mkB (textL r.toV)), .int .i64 0] else .tuple #[.string ⟨#[]⟩, .int .i64 2]

theorem back_yes {r : RefB} (h : backB r = true) : parseV (textL r.toV) = .tuple #[r.val, .int .i64 0] := by
  unfold backB at h
  simp only [Bool.and_eq_true] at h
  unfold parseV
  rw [if_pos h.1, (refEq_iff _ _).1 h.2]
theorem back_parts {l : List UInt8} (h : wellL (partsP l) = true) : backB (partsP l).toB = true := by
  unfold backB
  rw [toV_toB]
  have e : textL (partsP l) = l := by rw [parts_same]; exact text_parts l
  rw [e, h, (refEq_iff _ _).2 rfl]; rfl
theorem text_toB (l : List UInt8) : textL (partsP l).toB.toV = l := by rw [toV_toB, parts_same]; exact text_parts l
theorem textL_length (r : RefB) : (textL r.toV).length ≤ r.S.size + r.A.size + r.Pa.size + r.Q.size + r.F.size + 5 := by
  simp only [Lib.size_eq]
  unfold textL headL RefB.toV
  simp only [List.length_append]
  have h1 : (if r.S.data.toList = [] then ([] : List UInt8) else r.S.data.toList ++ [58]).length ≤ r.S.data.toList.length + 1 := by split <;> simp
  have h2 : (if r.ha = true then (47 :: 47 :: r.A.data.toList) else ([] : List UInt8)).length ≤ r.A.data.toList.length + 2 := by split <;> simp
  have h3 : (if r.hq = true then (63 :: r.Q.data.toList) else ([] : List UInt8)).length ≤ r.Q.data.toList.length + 1 := by split <;> simp
  have h4 : (if r.hf = true then (35 :: r.F.data.toList) else ([] : List UInt8)).length ≤ r.F.data.toList.length + 1 := by split <;> simp
  omega

end Go.Proofs.Ythhpijmkhhdhhaa
