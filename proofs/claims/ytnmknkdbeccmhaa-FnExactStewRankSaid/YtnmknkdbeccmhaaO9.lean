/- The closed facts of the row of FnExactStewRank, each by itself. -/
import Derived.Test.YtnmknkdbeccmhaaRows
import Derived.WalkKit
import Derived.ProofKit
import Derived.OpenShut
import Derived.ShutString
import Derived.ChangeOld
import Derived.Below
import Derived.SizedLaws
namespace Go.Proofs.Ytnmknkdbeccmhaa.fnExactStewRank
open Go.ChangeShapes Go.WideShapes Go.ChangeAt Go.RowKit
theorem named : Try.pinned.checked.prog.funcNamed Rows.fnExactStewRankRow.func = some 9 := by kernel_rfl
theorem instanced : Try.f9.isInstance Try.pinned.checked.prog Rows.fnExactStewRankRow.origin Rows.fnExactStewRankRow.targs := of_decide_eq_true (by kernel_rfl)
theorem wrapped : Try.f9.isWrapper Try.pinned.checked.prog Rows.fnExactStewRankRow.wrapper Rows.fnExactStewRankRow.mainSum := by
  unfold Func.isWrapper; first | (rw [if_pos (by decide +kernel)]; kernel_rfl) | (rw [if_neg (by decide +kernel)]; exact ⟨rfl, rfl⟩)
theorem j1 : Rows.fnExactStewRankRow.wf (OpenSpec.ofChange Rows.fnExactStewRankSpec) = true := by kernel_rfl
theorem j2 : laidOutB Try.pinned.checked.prog = true := by kernel_rfl
theorem j3 : mapsRowed Try.pinned.checked.prog = true := by kernel_rfl
theorem joined : joinedFacts Try.pinned.checked.prog 9 Try.f9 Rows.fnExactStewRankSpec Rows.fnExactStewRankRow = true := by kernel_rfl
end Go.Proofs.Ytnmknkdbeccmhaa.fnExactStewRank
