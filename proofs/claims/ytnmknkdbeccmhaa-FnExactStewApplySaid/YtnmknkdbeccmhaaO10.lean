/- The closed facts of the row of FnExactStewApply, each by itself. (Printed by wip/geno.py.) -/
import Derived.Test.YtnmknkdbeccmhaaRows
import Derived.WalkKit
import Derived.ProofKit
import Derived.OpenShut
import Derived.ShutString
import Derived.ChangeOld
import Derived.Below
import Derived.SizedLaws
namespace Go.Proofs.Ytnmknkdbeccmhaa.fnExactStewApply
open Go.ChangeShapes Go.WideShapes Go.ChangeAt Go.RowKit
theorem named : Try.pinned.checked.prog.funcNamed Rows.fnExactStewApplyRow.func = some 11 := by kernel_rfl
theorem instanced : Try.f11.isInstance Try.pinned.checked.prog Rows.fnExactStewApplyRow.origin Rows.fnExactStewApplyRow.targs := of_decide_eq_true (by kernel_rfl)
theorem wrapped : Try.f11.isWrapper Try.pinned.checked.prog Rows.fnExactStewApplyRow.wrapper Rows.fnExactStewApplyRow.mainSum := by
  unfold Func.isWrapper; first | (rw [if_pos (by decide +kernel)]; kernel_rfl) | (rw [if_neg (by decide +kernel)]; exact ⟨rfl, rfl⟩)
theorem k0 : (Rows.fnExactStewApplyRow.wf (OpenSpec.ofChange Rows.fnExactStewApplySpec)) = true := by kernel_rfl
theorem k1 : (laidOutB Try.pinned.checked.prog) = true := by kernel_rfl
theorem k2 : (mapsRowed Try.pinned.checked.prog) = true := by kernel_rfl
theorem k3 : (Try.f11.params.all (Try.pinned.checked.prog.readableRec ·)) = true := by kernel_rfl
theorem k4 : (namedTie Try.pinned.checked.prog Rows.fnExactStewApplyRow.named Rows.fnExactStewApplySpec.vars) = true := by kernel_rfl
theorem k5 : (Rows.fnExactStewApplyRow.stops == []) = true := by kernel_rfl
theorem k6 : (Try.pinned.checked.prog.stops == []) = true := by kernel_rfl
theorem k7 : (Rows.fnExactStewApplyRow.knobs == []) = true := by kernel_rfl
theorem k8 : (Try.pinned.checked.prog.stopKnobs == []) = true := by kernel_rfl
theorem k9 : (Rows.fnExactStewApplyRow.inPlace == Try.pinned.checked.prog.inPlace 11) = true := by kernel_rfl
theorem k10 : (Rows.fnExactStewApplyRow.unfollowed == Try.pinned.checked.prog.unfollowed 11) = true := by kernel_rfl
theorem k11 : (Rows.fnExactStewApplyRow.recurses == Try.pinned.checked.prog.recurses 11) = true := by kernel_rfl
theorem k12 : (Rows.fnExactStewApplyRow.named == Try.pinned.checked.prog.varsNamed 11) = true := by kernel_rfl
theorem k13 : (Rows.fnExactStewApplyRow.maps == (Try.f11.params.toList ++ Rows.fnExactStewApplySpec.plain.varTypes Try.pinned.checked.prog).any (Try.pinned.checked.prog.mapsRec ·)) = true := by kernel_rfl
theorem k14 : (Rows.fnExactStewApplyRow.ifaces == (Try.f11.params.toList ++ Rows.fnExactStewApplySpec.plain.varTypes Try.pinned.checked.prog).any (Try.pinned.checked.prog.ifacesRec ·)) = true := by kernel_rfl
theorem k15 : (Rows.fnExactStewApplyRow.mapsOut == Try.pinned.checked.prog.mapsAmong Try.f11.resultTypes.toList) = true := by kernel_rfl
theorem k16 : (Rows.fnExactStewApplyRow.loops == (Try.f11.params.toList ++ Rows.fnExactStewApplySpec.plain.varTypes Try.pinned.checked.prog).any (Try.pinned.checked.prog.loopsFrom ·)) = true := by kernel_rfl
theorem k17 : (Rows.fnExactStewApplyRow.wideKeys == (Try.f11.params.toList ++ Rows.fnExactStewApplySpec.plain.varTypes Try.pinned.checked.prog ++ Try.f11.resultTypes.toList).any (Try.pinned.checked.prog.wideKeysFrom ·)) = true := by kernel_rfl
theorem k18 : (Rows.fnExactStewApplySpec.vars.all (Try.pinned.checked.prog.varReadable ·)) = true := by kernel_rfl
theorem k19 : (Try.f11.resultTypes.all (fun T => Try.pinned.checked.prog.readableRec T && decide (T < Try.pinned.checked.prog.types.size))) = true := by kernel_rfl
theorem k20 : (Rows.fnExactStewApplyRow.ifacesOut == Try.f11.resultTypes.toList.any (Try.pinned.checked.prog.ifacesRec ·)) = true := by kernel_rfl
theorem k21 : (Rows.fnExactStewApplyRow.loopsOut == Try.f11.resultTypes.toList.any (Try.pinned.checked.prog.loopsFrom ·)) = true := by kernel_rfl
theorem k22 : (Rows.fnExactStewApplyRow.plainKeys == Try.pinned.checked.prog.plainKeys) = true := by kernel_rfl
theorem k23 : (Rows.fnExactStewApplyRow.shortTexts.isNone) = true := by kernel_rfl
theorem k24 : (Try.pinned.checked.prog.stopsHeard) = true := by kernel_rfl
theorem k25 : (Try.pinned.checked.prog.mayEnter) = true := by kernel_rfl
theorem k26 : (Rows.fnExactStewApplyRow.lifted == Try.pinned.checked.prog.liftsFinal) = true := by kernel_rfl
theorem k27 : (Try.pinned.checked.prog.make == some Rows.fnExactStewApplyRow.make) = true := by kernel_rfl
theorem k28 : (Rows.fnExactStewApplyRow.kinds == (if Rows.fnExactStewApplyRow.domain.isEmpty then [] else Try.f11.params.toList.map fun T => match Try.pinned.checked.prog.underlying T with | some (.int k) => some k | _ => none)) = true := by kernel_rfl
theorem k29 : (Rows.fnExactStewApplyRow.pinned == Rows.fnExactStewApplyRow.pinnedBy) = true := by kernel_rfl
theorem k30 : (Rows.fnExactStewApplyRow.veiled == (Try.f11.params.toList ++ Rows.fnExactStewApplySpec.plain.varTypes Try.pinned.checked.prog ++ Try.f11.resultTypes.toList).any (Try.pinned.checked.prog.veiledRec ·)) = true := by kernel_rfl
theorem k31 : (Rows.fnExactStewApplyRow.veiledFits Try.pinned.checked.prog Try.f11.params.toList (Try.f11.params.toList ++ Rows.fnExactStewApplySpec.plain.varTypes Try.pinned.checked.prog ++ Try.f11.resultTypes.toList)) = true := by kernel_rfl
end Go.Proofs.Ytnmknkdbeccmhaa.fnExactStewApply
