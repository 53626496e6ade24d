/- The closed facts of the row of FnExactStewCountOf, each by itself. -/
import Derived.Test.YtnmknkdbeccmhaaRows
import Derived.WalkKit
import Derived.ProofKit
import Derived.OpenShut
import Derived.ShutString
import Derived.ChangeOld
import Derived.Below
import Derived.SizedLaws
namespace Go.Proofs.Ytnmknkdbeccmhaa.fnExactStewCountOf
open Go.ChangeShapes Go.WideShapes Go.ChangeAt Go.RowKit
theorem named : Try.pinned.checked.prog.funcNamed Rows.fnExactStewCountOfRow.func = some 6 := by kernel_rfl
theorem instanced : Try.f6.isInstance Try.pinned.checked.prog Rows.fnExactStewCountOfRow.origin Rows.fnExactStewCountOfRow.targs := of_decide_eq_true (by kernel_rfl)
theorem wrapped : Try.f6.isWrapper Try.pinned.checked.prog Rows.fnExactStewCountOfRow.wrapper Rows.fnExactStewCountOfRow.mainSum := by
  unfold Func.isWrapper; first | (rw [if_pos (by decide +kernel)]; kernel_rfl) | (rw [if_neg (by decide +kernel)]; exact ⟨rfl, rfl⟩)
theorem j1 : Rows.fnExactStewCountOfRow.wf (OpenSpec.ofChange Rows.fnExactStewCountOfSpec) = true := by kernel_rfl
theorem j2 : laidOutB Try.pinned.checked.prog = true := by kernel_rfl
theorem j3 : mapsRowed Try.pinned.checked.prog = true := by kernel_rfl
theorem joined : joinedFacts Try.pinned.checked.prog 6 Try.f6 Rows.fnExactStewCountOfSpec Rows.fnExactStewCountOfRow = true := by kernel_rfl
end Go.Proofs.Ytnmknkdbeccmhaa.fnExactStewCountOf
