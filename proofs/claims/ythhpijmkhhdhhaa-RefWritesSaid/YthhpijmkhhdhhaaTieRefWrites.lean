/- The closed facts of the row of RefWrites, each by itself. -/
import Derived.Test.YthhpijmkhhdhhaaRows
import Derived.ProofKit
namespace Go.Proofs.Ythhpijmkhhdhhaa.refWrites
open Go.ChangeShapes Go.WideShapes Go.ChangeAt Go.RowKit

theorem k0 : laidOutB Try.prog = true := by kernel_rfl
theorem k1 : mapsRowed Try.prog = true := by kernel_rfl
theorem k2 : (Try.prog.stops == []) = true := by kernel_rfl
theorem k3 : (Try.prog.stopKnobs == []) = true := by kernel_rfl
theorem k4 : (Rows.refWritesRow.inPlace == Try.prog.inPlace 19) = true := by kernel_rfl
theorem k5 : (Rows.refWritesRow.unfollowed == Try.prog.unfollowed 19) = true := by kernel_rfl
theorem k6 : (Rows.refWritesRow.recurses == Try.prog.recurses 19) = true := by kernel_rfl
theorem k7 : (Rows.refWritesRow.named == Try.prog.varsNamed 19) = true := by kernel_rfl
theorem k8 : (Rows.refWritesRow.plainKeys == Try.prog.plainKeys) = true := by kernel_rfl
theorem k9 : Try.prog.stopsHeard = true := by kernel_rfl
theorem k10 : Try.prog.mayEnter = true := by kernel_rfl
theorem k11 : (Rows.refWritesRow.lifted == Try.prog.liftsFinal) = true := by kernel_rfl
theorem k12 : (Try.prog.make == some Rows.refWritesRow.make) = true := by kernel_rfl
theorem closed : joinedFacts Try.pinned.checked.prog 19 Try.f19 Rows.refWritesSpec Rows.refWritesRow = true := by
  unfold joinedFacts
  rw [show Try.pinned.checked.prog = Try.prog from rfl, k0, k1, k2, k3, k4, k5, k6, k7, k8, k9, k10, k11, k12]
  kernel_rfl

end Go.Proofs.Ythhpijmkhhdhhaa.refWrites
