/- The closed facts of the row of FnExactStewMayEnd, each by itself. -/
import Derived.Test.YtnmknkdbeccmhaaRows
import Derived.WalkKit
import Derived.ProofKit
import Derived.OpenShut
import Derived.ShutString
import Derived.ChangeOld
import Derived.Below
import Derived.SizedLaws
namespace Go.Proofs.Ytnmknkdbeccmhaa.fnExactStewMayEnd
open Go.ChangeShapes Go.WideShapes Go.ChangeAt Go.RowKit
theorem named : Try.pinned.checked.prog.funcNamed Rows.fnExactStewMayEndRow.func = some 7 := by kernel_rfl
theorem instanced : Try.f7.isInstance Try.pinned.checked.prog Rows.fnExactStewMayEndRow.origin Rows.fnExactStewMayEndRow.targs := of_decide_eq_true (by kernel_rfl)
theorem wrapped : Try.f7.isWrapper Try.pinned.checked.prog Rows.fnExactStewMayEndRow.wrapper Rows.fnExactStewMayEndRow.mainSum := by
  unfold Func.isWrapper; first | (rw [if_pos (by decide +kernel)]; kernel_rfl) | (rw [if_neg (by decide +kernel)]; exact ⟨rfl, rfl⟩)
theorem j1 : Rows.fnExactStewMayEndRow.wf (OpenSpec.ofChange Rows.fnExactStewMayEndSpec) = true := by kernel_rfl
theorem j2 : laidOutB Try.pinned.checked.prog = true := by kernel_rfl
theorem j3 : mapsRowed Try.pinned.checked.prog = true := by kernel_rfl
theorem joined : joinedFacts Try.pinned.checked.prog 7 Try.f7 Rows.fnExactStewMayEndSpec Rows.fnExactStewMayEndRow = true := by kernel_rfl
end Go.Proofs.Ytnmknkdbeccmhaa.fnExactStewMayEnd
