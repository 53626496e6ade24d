/- The laws' acts, opened: what is handed in reads as plain data. -/
import Derived.Test.YtnmknkdbeccmhaaAp15
import Derived.Test.YtnmknkdbeccmhaaAp1
namespace Go.Proofs.Ytnmknkdbeccmhaa
open Go.ChangeShapes Go.WideShapes Go.ChangeAt Go.RowKit
set_option linter.unusedSimpArgs false
set_option linter.unusedVariables false

theorem array8 {α : Type} {cs : Array α} (h : cs.size = 8) : ∃ c0 c1 c2 c3 c4 c5 c6 c7, cs = #[c0, c1, c2, c3, c4, c5, c6, c7] := by
  obtain ⟨l⟩ := cs
  match l, h with
  | [c0, c1, c2, c3, c4, c5, c6, c7], _ => exact ⟨c0, c1, c2, c3, c4, c5, c6, c7, rfl⟩
theorem cells_EndS : Try.prog.cellsOf 69 = 1 := by kernel_rfl
section
variable {H : Type} {enc : TypeId × Value → H} {w : World} {base : Nat} {spare : Nat → Bool} {held : Bool}
theorem elem_End {fuel : Nat} {cs : List Value} {y : DataW H × List MemPlace} (h : DataW.trod enc Try.prog w base spare held fuel 176 cs = some y) : ∃ x : SEnd, cs = endC x ∧ True := by
  obtain ⟨xs, m, -, -, hlen, hxl, hf⟩ := DataW.trod_struct Try.underlying176 h
  rw [show Try.prog.cellsOf 176 = 2 by kernel_rfl] at hlen
  obtain ⟨v0, v1, rfl⟩ := len2 hlen
  have q0 : DataW.trod enc Try.prog w base spare held m 3 (([v0, v1].drop 0).take (Try.prog.cellsOf 3)) = xs[0]? := hf 0 _ rfl
  have q1 : DataW.trod enc Try.prog w base spare held m 3 (([v0, v1].drop 1).take (Try.prog.cellsOf 3)) = xs[1]? := hf 1 _ rfl
  rw [List.getElem?_eq_getElem (by rw [hxl]; decide)] at q0
  rw [cells_int] at q0
  simp only [List.drop_succ_cons, List.drop_zero, List.take_succ_cons, List.take_zero] at q0
  obtain ⟨x0, e0, -, -⟩ := DataW.trod_int Try.underlying3 q0
  simp only [List.cons.injEq, and_true] at e0
  subst e0
  rw [List.getElem?_eq_getElem (by rw [hxl]; decide)] at q1
  rw [cells_int] at q1
  simp only [List.drop_succ_cons, List.drop_zero, List.take_succ_cons, List.take_zero] at q1
  obtain ⟨x1, e1, -, -⟩ := DataW.trod_int Try.underlying3 q1
  simp only [List.cons.injEq, and_true] at e1
  subst e1
  exact ⟨⟨x0, x1⟩, rfl, trivial⟩
theorem open_EndS {fuel : Nat} {v : Value} {x : DataW H × List MemPlace} (h : DataW.trod enc Try.prog w base spare held fuel 69 [v] = some x) : ∃ A c xs, v = .slice A xs.length c ∧ Rows 2 endC w A xs ∧ xs.length ≤ 9223372036854775807 := by
  obtain ⟨A, c, xs, e, r, l, -⟩ := open_rows (S := fun _ => True) Try.underlying69 (by kernel_rfl) endC_len (by omega) elem_End h
  exact ⟨A, c, xs, e, r, l⟩
set_option maxRecDepth 100000 in
/-- A law's act: a value, read as an act. -/
theorem open_act {r : Reach} {b0 : Nat} {v : Value} {d : DataW H} {p : List MemPlace} (hv : Value.okWide Try.prog w r b0 71 v) (h : DataW.Trod enc Try.prog w base spare held 71 v d p) :
    ∃ (a : SAct) (A : Option Addr) (c : Nat), v = .agg #[.string a.service, .int .i64 a.version, .int .i64 a.create, .int .i64 a.want, .int .i64 a.cool, .bool a.scale, .slice A a.ends.length c, .bool a.drop] ∧ Rows 2 endC w A a.ends ∧ a.ends.length ≤ 9223372036854775807 ∧ (a.service.size : Int) ≤ 9223372036854775807 := by
  obtain ⟨cs, rfl, hsz⟩ := okWide_struct Try.underlying71 hv
  obtain ⟨v0, v1, v2, v3, v4, v5, v6, v7, rfl⟩ := array8 (hsz.trans (show Try.prog.cellsOf 71 = 8 by kernel_rfl))
  obtain ⟨fuel, hf⟩ := h
  obtain ⟨xs, m, -, -, hlen, hxl, hf⟩ := DataW.trod_struct Try.underlying71 hf
  have q0 : DataW.trod enc Try.prog w base spare held m 9 (([v0, v1, v2, v3, v4, v5, v6, v7].drop 0).take (Try.prog.cellsOf 9)) = xs[0]? := hf 0 _ rfl
  have q1 : DataW.trod enc Try.prog w base spare held m 3 (([v0, v1, v2, v3, v4, v5, v6, v7].drop 1).take (Try.prog.cellsOf 3)) = xs[1]? := hf 1 _ rfl
  have q2 : DataW.trod enc Try.prog w base spare held m 3 (([v0, v1, v2, v3, v4, v5, v6, v7].drop 2).take (Try.prog.cellsOf 3)) = xs[2]? := hf 2 _ rfl
  have q3 : DataW.trod enc Try.prog w base spare held m 3 (([v0, v1, v2, v3, v4, v5, v6, v7].drop 3).take (Try.prog.cellsOf 3)) = xs[3]? := hf 3 _ rfl
  have q4 : DataW.trod enc Try.prog w base spare held m 3 (([v0, v1, v2, v3, v4, v5, v6, v7].drop 4).take (Try.prog.cellsOf 3)) = xs[4]? := hf 4 _ rfl
  have q5 : DataW.trod enc Try.prog w base spare held m 4 (([v0, v1, v2, v3, v4, v5, v6, v7].drop 5).take (Try.prog.cellsOf 4)) = xs[5]? := hf 5 _ rfl
  have q6 : DataW.trod enc Try.prog w base spare held m 69 (([v0, v1, v2, v3, v4, v5, v6, v7].drop 6).take (Try.prog.cellsOf 69)) = xs[6]? := hf 6 _ rfl
  have q7 : DataW.trod enc Try.prog w base spare held m 4 (([v0, v1, v2, v3, v4, v5, v6, v7].drop 7).take (Try.prog.cellsOf 4)) = xs[7]? := hf 7 _ rfl
  rw [List.getElem?_eq_getElem (by rw [hxl]; decide)] at q0
  rw [cells_string] at q0
  simp only [List.drop_succ_cons, List.drop_zero, List.take_succ_cons, List.take_zero] at q0
  obtain ⟨x0, e0, -, z0⟩ := DataW.trod_string Try.underlying9 q0
  simp only [List.cons.injEq, and_true] at e0
  subst e0
  rw [List.getElem?_eq_getElem (by rw [hxl]; decide)] at q1
  rw [cells_int] at q1
  simp only [List.drop_succ_cons, List.drop_zero, List.take_succ_cons, List.take_zero] at q1
  obtain ⟨x1, e1, -, -⟩ := DataW.trod_int Try.underlying3 q1
  simp only [List.cons.injEq, and_true] at e1
  subst e1
  rw [List.getElem?_eq_getElem (by rw [hxl]; decide)] at q2
  rw [cells_int] at q2
  simp only [List.drop_succ_cons, List.drop_zero, List.take_succ_cons, List.take_zero] at q2
  obtain ⟨x2, e2, -, -⟩ := DataW.trod_int Try.underlying3 q2
  simp only [List.cons.injEq, and_true] at e2
  subst e2
  rw [List.getElem?_eq_getElem (by rw [hxl]; decide)] at q3
  rw [cells_int] at q3
  simp only [List.drop_succ_cons, List.drop_zero, List.take_succ_cons, List.take_zero] at q3
  obtain ⟨x3, e3, -, -⟩ := DataW.trod_int Try.underlying3 q3
  simp only [List.cons.injEq, and_true] at e3
  subst e3
  rw [List.getElem?_eq_getElem (by rw [hxl]; decide)] at q4
  rw [cells_int] at q4
  simp only [List.drop_succ_cons, List.drop_zero, List.take_succ_cons, List.take_zero] at q4
  obtain ⟨x4, e4, -, -⟩ := DataW.trod_int Try.underlying3 q4
  simp only [List.cons.injEq, and_true] at e4
  subst e4
  rw [List.getElem?_eq_getElem (by rw [hxl]; decide)] at q5
  rw [cells_bool] at q5
  simp only [List.drop_succ_cons, List.drop_zero, List.take_succ_cons, List.take_zero] at q5
  obtain ⟨x5, e5, -⟩ := DataW.trod_bool Try.underlying4 q5
  simp only [List.cons.injEq, and_true] at e5
  subst e5
  rw [List.getElem?_eq_getElem (by rw [hxl]; decide)] at q6
  rw [cells_EndS] at q6
  simp only [List.drop_succ_cons, List.drop_zero, List.take_succ_cons, List.take_zero] at q6
  obtain ⟨A, c, es, rfl, r, l⟩ := open_EndS q6
  rw [List.getElem?_eq_getElem (by rw [hxl]; decide)] at q7
  rw [cells_bool] at q7
  simp only [List.drop_succ_cons, List.drop_zero, List.take_succ_cons, List.take_zero] at q7
  obtain ⟨x7, e7, -⟩ := DataW.trod_bool Try.underlying4 q7
  simp only [List.cons.injEq, and_true] at e7
  subst e7
  have z : (x0.size : Int) ≤ 9223372036854775807 := by have := z0; unfold maxLen at this; omega
  exact ⟨⟨x0, x1, x2, x3, x4, x5, es, x7⟩, A, c, rfl, r, l, z⟩
end
end Go.Proofs.Ytnmknkdbeccmhaa
