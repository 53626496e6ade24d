/- The law FnExactStewRank holds: at every book (of whatever size) the program's StewRank answers as the reference's, and writes nothing into its argument. No condition. -/
import Derived.Test.YtnmknkdbeccmhaaRows
import Derived.Test.YtnmknkdbeccmhaaD0
import Derived.Test.YtnmknkdbeccmhaaL9
import Derived.Test.YtnmknkdbeccmhaaO9
namespace Go.Proofs.Ytnmknkdbeccmhaa.fnExactStewRank
open Go.ChangeShapes Go.WideShapes Go.ChangeAt Go.RowKit
set_option linter.unusedVariables false
theorem own : ownKnob Try.prog.godebug = none := by kernel_rfl
theorem laidOut : laidOutB Try.prog = true := by kernel_rfl
set_option maxRecDepth 100000 in
theorem lifted (os : Os) (started : os.Started) (H : Type) (enc : TypeId × Value → H) :
    ReturnsInHanded {} Try.checked os 9 .any (Rows.fnExactStewRankSpec.pre6 enc Try.prog Try.f9 Rows.fnExactStewRankRow.domain false) (Rows.fnExactStewRankSpec.post enc Try.prog Try.f9 false true false false) := by
  refine returnsInHanded_of_change_sized (C := Try.checked) own started (by kernel_rfl) Try.func9
    (ChangeSpec.witness6 (enc := enc) (C := Try.checked) false ⟨#[], #[.agg #[.int .i64 0, .slice none 0 0, .slice none 0 0, .slice none 0 0]], []⟩ 8 (by kernel_rfl) (by kernel_rfl) (by kernel_rfl) (by kernel_rfl)) ?_
  intro W base args ds gs before hval0 hW hcnd hsz0 _
  have hval : ∀ (j : Nat) t v, Try.f9.params[j]? = some t → args[j]? = some v → Value.okWide Try.prog W .any base t v := hval0
  have hW' := hW
  obtain ⟨p, q, hA0, hV, rfl, hfz, hnd⟩ := hW
  have hA : DataW.TrodAll enc Try.prog W 0 (fun _ => true) true Try.f9.params.toList args.toList ds p := hA0
  rw [Try.params9] at hA hval
  obtain ⟨v0, vs0, d0, ds0, p0, q0, hargs, rfl, rfl, h0, r0⟩ := trodAll_cons hA
  obtain ⟨rfl, rfl, rfl⟩ := trodAll_nil r0
  obtain rfl : args = #[v0] := by cases args; simp_all
  obtain ⟨rfl, rfl⟩ := trodVars_none hV
  have k0 := h0
  have lt0 : ∀ x ∈ p0, x.block < W.heap.size := by obtain ⟨m, hm⟩ := k0; exact DataW.trod_lt m _ _ _ hm
  obtain ⟨b, A1, A2, A3, c1, c2, c3, rfl, ⟨r1, r2, r3⟩, ⟨l1, l2, l3⟩, s1, s2, s3⟩ := open_book (hval 0 27 v0 rfl rfl) h0
  clear hA0 hval0 hsz0
  refine (fnExactStewRank_c b W r1 r2 r3 l1 l2 l3 s1 s2 s3).mono fun e W' ⟨he, bel⟩ => ?_
  subst he
  exact ⟨_, rfl, _, _, _, [], _, [], hW', trodAll_mk1 (shut_bool Try.underlying4 _), (trodAll_cons_mk (Below.trod laidOut (by kernel_rfl) (of_decide_eq_true (by kernel_rfl)) k0 bel lt0) trodAll_mk0), rfl, bel.frame _, fun h => by cases h⟩
theorem over : Rows.fnExactStewRankRow.holds Try.pinned (OpenSpec.ofChange Rows.fnExactStewRankSpec) :=
  OpenClaim.holds_of_wide 9 Try.f9 rfl rfl rfl rfl rfl rfl rfl ⟨rfl, rfl, rfl, rfl, rfl⟩ rfl rfl rfl rfl rfl named Try.func9 joined
    instanced wrapped (fun os started H enc _ => lifted os started H enc)
end Go.Proofs.Ytnmknkdbeccmhaa.fnExactStewRank
namespace Go.Proofs.Ytnmknkdbeccmhaa
theorem fnExactStewRank_holds : Rows.FnExactStewRankSaid := fnExactStewRank.over
#print axioms fnExactStewRank_holds
end Go.Proofs.Ytnmknkdbeccmhaa
