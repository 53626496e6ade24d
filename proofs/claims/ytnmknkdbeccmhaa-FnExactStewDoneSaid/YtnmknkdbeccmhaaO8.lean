/- The closed facts of the row of FnExactStewDone, each by itself. -/
import Derived.Test.YtnmknkdbeccmhaaRows
import Derived.WalkKit
import Derived.ProofKit
import Derived.OpenShut
import Derived.ShutString
import Derived.ChangeOld
import Derived.Below
import Derived.SizedLaws
namespace Go.Proofs.Ytnmknkdbeccmhaa.fnExactStewDone
open Go.ChangeShapes Go.WideShapes Go.ChangeAt Go.RowKit
theorem named : Try.pinned.checked.prog.funcNamed Rows.fnExactStewDoneRow.func = some 8 := by kernel_rfl
theorem instanced : Try.f8.isInstance Try.pinned.checked.prog Rows.fnExactStewDoneRow.origin Rows.fnExactStewDoneRow.targs := of_decide_eq_true (by kernel_rfl)
theorem wrapped : Try.f8.isWrapper Try.pinned.checked.prog Rows.fnExactStewDoneRow.wrapper Rows.fnExactStewDoneRow.mainSum := by
  unfold Func.isWrapper; first | (rw [if_pos (by decide +kernel)]; kernel_rfl) | (rw [if_neg (by decide +kernel)]; exact ⟨rfl, rfl⟩)
theorem j1 : Rows.fnExactStewDoneRow.wf (OpenSpec.ofChange Rows.fnExactStewDoneSpec) = true := by kernel_rfl
theorem j2 : laidOutB Try.pinned.checked.prog = true := by kernel_rfl
theorem j3 : mapsRowed Try.pinned.checked.prog = true := by kernel_rfl
theorem joined : joinedFacts Try.pinned.checked.prog 8 Try.f8 Rows.fnExactStewDoneSpec Rows.fnExactStewDoneRow = true := by kernel_rfl
end Go.Proofs.Ytnmknkdbeccmhaa.fnExactStewDone
