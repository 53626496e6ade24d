/- The closed facts of the row of FnExactStewApply, each by itself. (Printed by wip/geno.py.) -/
import Derived.Test.YtnmknkdbeccmhaaO10
import Derived.Test.YtnmknkdbeccmhaaRows
import Derived.WalkKit
import Derived.ProofKit
import Derived.OpenShut
import Derived.ShutString
import Derived.ChangeOld
import Derived.Below
import Derived.SizedLaws
namespace Go.Proofs.Ytnmknkdbeccmhaa.fnExactStewApply
open Go.ChangeShapes Go.WideShapes Go.ChangeAt Go.RowKit
theorem and_mk {a b : Bool} (ha : a = true) (hb : b = true) : (a && b) = true := by rw [ha, hb]; rfl
set_option maxRecDepth 100000 in
theorem joined : joinedFacts Try.pinned.checked.prog 11 Try.f11 Rows.fnExactStewApplySpec Rows.fnExactStewApplyRow = true := by
  unfold joinedFacts
  with_reducible refine and_mk ?_ k31
  with_reducible refine and_mk ?_ k30
  with_reducible refine and_mk ?_ k29
  refine and_mk ?_ (by first | exact k28 | kernel_rfl)
  with_reducible refine and_mk ?_ k27
  with_reducible refine and_mk ?_ k26
  with_reducible refine and_mk ?_ k25
  with_reducible refine and_mk ?_ k24
  with_reducible refine and_mk ?_ k23
  with_reducible refine and_mk ?_ k22
  with_reducible refine and_mk ?_ k21
  with_reducible refine and_mk ?_ k20
  with_reducible refine and_mk ?_ k19
  with_reducible refine and_mk ?_ k18
  with_reducible refine and_mk ?_ k17
  with_reducible refine and_mk ?_ k16
  with_reducible refine and_mk ?_ k15
  with_reducible refine and_mk ?_ k14
  with_reducible refine and_mk ?_ k13
  with_reducible refine and_mk ?_ k12
  with_reducible refine and_mk ?_ k11
  with_reducible refine and_mk ?_ k10
  with_reducible refine and_mk ?_ k9
  with_reducible refine and_mk ?_ k8
  with_reducible refine and_mk ?_ k7
  with_reducible refine and_mk ?_ k6
  with_reducible refine and_mk ?_ k5
  with_reducible refine and_mk ?_ k4
  with_reducible refine and_mk ?_ k3
  with_reducible refine and_mk ?_ k2
  with_reducible refine and_mk ?_ k1
  exact k0
end Go.Proofs.Ytnmknkdbeccmhaa.fnExactStewApply
