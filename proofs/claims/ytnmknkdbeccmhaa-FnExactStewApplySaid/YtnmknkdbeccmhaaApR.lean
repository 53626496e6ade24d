/- The law FnExactStewApply holds: at every book and act (of whatever size) the program's StewApply answers as the reference's, writes into no argument, keeps nothing of one, and its answer owns its memory. No condition. -/
import Derived.Test.YtnmknkdbeccmhaaRows
import Derived.Test.YtnmknkdbeccmhaaAp18
import Derived.Test.YtnmknkdbeccmhaaAp31
import Derived.Test.YtnmknkdbeccmhaaO10b
namespace Go.Proofs.Ytnmknkdbeccmhaa.fnExactStewApply
open Go.ChangeShapes Go.WideShapes Go.ChangeAt Go.RowKit
set_option linter.unusedVariables false
theorem own : ownKnob Try.prog.godebug = none := by kernel_rfl
theorem laidOut : laidOutB Try.prog = true := by kernel_rfl
set_option maxRecDepth 100000 in
theorem lifted (os : Os) (started : os.Started) (H : Type) (enc : TypeId × Value → H) :
    ReturnsInHanded {} Try.checked os 11 .any (Rows.fnExactStewApplySpec.pre6 enc Try.prog Try.f11 Rows.fnExactStewApplyRow.domain false) (Rows.fnExactStewApplySpec.post enc Try.prog Try.f11 false true false false) := by
  refine returnsInHanded_of_change_sized (C := Try.checked) own started (by kernel_rfl) Try.func11
    (ChangeSpec.witness6 (enc := enc) (C := Try.checked) false ⟨#[], #[.agg #[.int .i64 0, .slice none 0 0, .slice none 0 0, .slice none 0 0], .agg #[.string ⟨#[]⟩, .int .i64 0, .int .i64 0, .int .i64 0, .int .i64 0, .bool false, .slice none 0 0, .bool false]], []⟩ 8 (by kernel_rfl) (by kernel_rfl) (by kernel_rfl) (by kernel_rfl)) ?_
  intro W base args ds gs before hval0 hW hcnd hsz0 _
  have hval : ∀ (j : Nat) t v, Try.f11.params[j]? = some t → args[j]? = some v → Value.okWide Try.prog W .any base t v := hval0
  have hW' := hW
  obtain ⟨p, q, hA0, hV, rfl, hfz, hnd⟩ := hW
  have hA : DataW.TrodAll enc Try.prog W 0 (fun _ => true) true Try.f11.params.toList args.toList ds p := hA0
  rw [Try.params11] at hA hval
  obtain ⟨v0, vs0, d0, ds0, p0, q0, hargs, rfl, rfl, h0, r0⟩ := trodAll_cons hA
  obtain ⟨v1, vs1, d1, ds1, p1, q1, hargs1, rfl, rfl, h1, r1⟩ := trodAll_cons r0
  obtain ⟨rfl, rfl, rfl⟩ := trodAll_nil r1
  obtain rfl : args = #[v0, v1] := by cases args; simp_all
  obtain ⟨rfl, rfl⟩ := trodVars_none hV
  have k0 := h0
  have lt0 : ∀ x ∈ p0, x.block < W.heap.size := by obtain ⟨m, hm⟩ := k0; exact DataW.trod_lt m _ _ _ hm
  have k1 := h1
  have lt1 : ∀ x ∈ p1, x.block < W.heap.size := by obtain ⟨m, hm⟩ := k1; exact DataW.trod_lt m _ _ _ hm
  obtain ⟨a, A, c, rfl, r4, l4, ls⟩ := open_act (hval 1 71 v1 rfl rfl) h1
  obtain ⟨b, A1, A2, A3, c1, c2, c3, rfl, ⟨r1', r2, r3⟩, ⟨l1, l2, l3⟩, s1, s2, s3⟩ := open_book (hval 0 27 v0 rfl rfl) h0
  clear hA0 hval0 hsz0
  refine (fnExactStewApply_c b a W r1' r2 r3 r4 l1 l2 l3 l4 ls s1 s2 s3).mono fun e W' ⟨he, bel⟩ => ?_
  subst he
  exact ⟨_, rfl, _, _, _, [], _, [], hW', trodAll_mk1 (shut_bool Try.underlying4 _), (trodAll_cons_mk (Below.trod laidOut (by kernel_rfl) (of_decide_eq_true (by kernel_rfl)) k0 bel lt0) (trodAll_cons_mk (Below.trod laidOut (by kernel_rfl) (of_decide_eq_true (by kernel_rfl)) k1 bel lt1) trodAll_mk0)), rfl, bel.frame _, fun h => by cases h⟩
theorem over : Rows.fnExactStewApplyRow.holds Try.pinned (OpenSpec.ofChange Rows.fnExactStewApplySpec) :=
  OpenClaim.holds_of_wide 11 Try.f11 rfl rfl rfl rfl rfl rfl rfl ⟨rfl, rfl, rfl, rfl, rfl⟩ rfl rfl rfl rfl rfl named Try.func11 joined
    instanced wrapped (fun os started H enc _ => lifted os started H enc)
end Go.Proofs.Ytnmknkdbeccmhaa.fnExactStewApply
namespace Go.Proofs.Ytnmknkdbeccmhaa
theorem fnExactStewApply_holds : Rows.FnExactStewApplySaid := fnExactStewApply.over
#print axioms fnExactStewApply_holds
end Go.Proofs.Ytnmknkdbeccmhaa
