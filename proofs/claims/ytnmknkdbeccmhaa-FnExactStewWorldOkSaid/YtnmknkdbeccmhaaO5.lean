/- The closed facts of the row of FnExactStewWorldOk, each by itself. -/
import Derived.Test.YtnmknkdbeccmhaaRows
import Derived.WalkKit
import Derived.ProofKit
import Derived.OpenShut
import Derived.ShutString
import Derived.ChangeOld
import Derived.Below
import Derived.SizedLaws
namespace Go.Proofs.Ytnmknkdbeccmhaa.fnExactStewWorldOk
open Go.ChangeShapes Go.WideShapes Go.ChangeAt Go.RowKit
theorem named : Try.pinned.checked.prog.funcNamed Rows.fnExactStewWorldOkRow.func = some 5 := by kernel_rfl
theorem instanced : Try.f5.isInstance Try.pinned.checked.prog Rows.fnExactStewWorldOkRow.origin Rows.fnExactStewWorldOkRow.targs := of_decide_eq_true (by kernel_rfl)
theorem wrapped : Try.f5.isWrapper Try.pinned.checked.prog Rows.fnExactStewWorldOkRow.wrapper Rows.fnExactStewWorldOkRow.mainSum := by
  unfold Func.isWrapper; first | (rw [if_pos (by decide +kernel)]; kernel_rfl) | (rw [if_neg (by decide +kernel)]; exact ⟨rfl, rfl⟩)
theorem j1 : Rows.fnExactStewWorldOkRow.wf (OpenSpec.ofChange Rows.fnExactStewWorldOkSpec) = true := by kernel_rfl
theorem j2 : laidOutB Try.pinned.checked.prog = true := by kernel_rfl
theorem j3 : mapsRowed Try.pinned.checked.prog = true := by kernel_rfl
theorem joined : joinedFacts Try.pinned.checked.prog 5 Try.f5 Rows.fnExactStewWorldOkSpec Rows.fnExactStewWorldOkRow = true := by kernel_rfl
end Go.Proofs.Ytnmknkdbeccmhaa.fnExactStewWorldOk
