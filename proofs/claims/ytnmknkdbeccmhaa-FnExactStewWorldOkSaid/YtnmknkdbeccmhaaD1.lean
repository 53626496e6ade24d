/- The laws' worlds, opened: what is handed in reads as plain data. -/
import Derived.Test.YtnmknkdbeccmhaaD0
import Derived.Test.YtnmknkdbeccmhaaB21
namespace Go.Proofs.Ytnmknkdbeccmhaa
open Go.ChangeShapes Go.WideShapes Go.ChangeAt Go.RowKit
set_option linter.unusedSimpArgs false
set_option linter.unusedVariables false

theorem len4 {α : Type} {l : List α} (h : l.length = 4) : ∃ a b c d, l = [a, b, c, d] := by match l, h with | [a, b, c, d], _ => exact ⟨a, b, c, d, rfl⟩
theorem array5 {α : Type} {cs : Array α} (h : cs.size = 5) : ∃ c0 c1 c2 c3 c4, cs = #[c0, c1, c2, c3, c4] := by
  obtain ⟨l⟩ := cs
  match l, h with
  | [c0, c1, c2, c3, c4], _ => exact ⟨c0, c1, c2, c3, c4, rfl⟩
theorem cells_SvcS : Try.prog.cellsOf 23 = 1 := by kernel_rfl
theorem cells_CpyS : Try.prog.cellsOf 24 = 1 := by kernel_rfl
theorem cells_BrtS : Try.prog.cellsOf 25 = 1 := by kernel_rfl
theorem cells_BookS : Try.prog.cellsOf 38 = 1 := by kernel_rfl
theorem cells_Book : Try.prog.cellsOf 27 = 4 := by kernel_rfl
section
variable {H : Type} {enc : TypeId × Value → H} {w : World} {base : Nat} {spare : Nat → Bool} {held : Bool}
theorem elem_Book {fuel : Nat} {cs : List Value} {y : DataW H × List MemPlace} (h : DataW.trod enc Try.prog w base spare held fuel 27 cs = some y) : ∃ x : BookV, cs = bvC x ∧ (BVok w x ∧ SmallBook x.b) := by
  obtain ⟨xs, m, -, -, hlen, hxl, hf⟩ := DataW.trod_struct Try.underlying27 h
  rw [cells_Book] at hlen
  obtain ⟨v0, v1, v2, v3, rfl⟩ := len4 hlen
  have q0 : DataW.trod enc Try.prog w base spare held m 3 (([v0, v1, v2, v3].drop 0).take (Try.prog.cellsOf 3)) = xs[0]? := hf 0 _ rfl
  have q1 : DataW.trod enc Try.prog w base spare held m 23 (([v0, v1, v2, v3].drop 1).take (Try.prog.cellsOf 23)) = xs[1]? := hf 1 _ rfl
  have q2 : DataW.trod enc Try.prog w base spare held m 24 (([v0, v1, v2, v3].drop 2).take (Try.prog.cellsOf 24)) = xs[2]? := hf 2 _ rfl
  have q3 : DataW.trod enc Try.prog w base spare held m 25 (([v0, v1, v2, v3].drop 3).take (Try.prog.cellsOf 25)) = xs[3]? := hf 3 _ rfl
  rw [List.getElem?_eq_getElem (by rw [hxl]; decide), cells_int] at q0
  rw [List.getElem?_eq_getElem (by rw [hxl]; decide), cells_SvcS] at q1
  rw [List.getElem?_eq_getElem (by rw [hxl]; decide), cells_CpyS] at q2
  rw [List.getElem?_eq_getElem (by rw [hxl]; decide), cells_BrtS] at q3
  simp only [List.drop_succ_cons, List.drop_zero, List.take_succ_cons, List.take_zero] at q0 q1 q2 q3
  obtain ⟨z, e0, -, -⟩ := DataW.trod_int Try.underlying3 q0
  simp only [List.cons.injEq, and_true] at e0
  subst e0
  obtain ⟨A1, c1, xs1, rfl, r1, l1, s1⟩ := open_SvcS q1
  obtain ⟨A2, c2, xs2, rfl, r2, l2, s2⟩ := open_CpyS q2
  obtain ⟨A3, c3, xs3, rfl, r3, l3, s3⟩ := open_BrtS q3
  exact ⟨⟨⟨z, xs1, xs2, xs3⟩, A1, A2, A3, c1, c2, c3⟩, rfl, ⟨r1, r2, r3⟩, ⟨l1, l2, l3⟩, s1, s2, s3⟩
theorem books_rows {w : World} {A : Option Addr} {es : List BookV} (h : Rows 4 bvC w A es) (hok : ∀ e ∈ es, BVok w e) : BooksAt w A (es.map (·.b)) := fun hne => by
  obtain ⟨bl, o, e, hc⟩ := h (by rintro rfl; exact hne rfl)
  refine ⟨bl, o, e, fun i x hx => ?_⟩
  rw [List.getElem?_map] at hx
  obtain ⟨e', he, rfl⟩ := Option.map_eq_some_iff.1 hx
  obtain ⟨r1, r2, r3⟩ := hok e' (List.mem_of_getElem? he)
  exact ⟨e'.A1, e'.c1, e'.A2, e'.c2, e'.A3, e'.c3, hc i e' he 0 _ rfl, hc i e' he 1 _ rfl, hc i e' he 2 _ rfl, hc i e' he 3 _ rfl, r1, r2, r3⟩
theorem open_BookS {fuel : Nat} {v : Value} {x : DataW H × List MemPlace} (h : DataW.trod enc Try.prog w base spare held fuel 38 [v] = some x) : ∃ A c xs, v = .slice A xs.length c ∧ BooksAt w A xs ∧ xs.length ≤ 9223372036854775807 ∧ ∀ b ∈ xs, SmallBook b := by
  obtain ⟨A, c, es, rfl, hr, hl, hs⟩ := open_rows (S := fun x => BVok w x ∧ SmallBook x.b) Try.underlying38 cells_Book bvC_len (by omega) elem_Book h
  refine ⟨A, c, es.map (·.b), by simp, books_rows hr fun e he => (hs e he).1, by simpa using hl, fun b hb => ?_⟩
  obtain ⟨e, he, rfl⟩ := List.mem_map.1 hb
  exact (hs e he).2
set_option maxRecDepth 100000 in
/-- A law's world: a value, read as a world. -/
theorem open_world {r : Reach} {b0 : Nat} {v : Value} {d : DataW H} {p : List MemPlace} (hv : Value.okWide Try.prog w r b0 40 v) (h : DataW.Trod enc Try.prog w base spare held 40 v d p) :
    ∃ (x : Wld) (AP A1 A2 A3 : Option Addr) (cP c1 c2 c3 : Nat), v = .agg #[.slice AP x.past.length cP, .int .i64 x.book.now, .slice A1 x.book.svcs.length c1, .slice A2 x.book.cps.length c2, .slice A3 x.book.brs.length c3] ∧
      (BooksAt w AP x.past ∧ Rows 13 svcC w A1 x.book.svcs ∧ Rows 7 cpyC w A2 x.book.cps ∧ Rows 2 brtC w A3 x.book.brs) ∧ x.past.length ≤ 9223372036854775807 ∧ (∀ b ∈ x.past, SmallBook b) ∧ SmallBook x.book := by
  obtain ⟨cs, rfl, hsz⟩ := okWide_struct Try.underlying40 hv
  obtain ⟨v0, v1, v2, v3, v4, rfl⟩ := array5 (hsz.trans (show Try.prog.cellsOf 40 = 5 by kernel_rfl))
  obtain ⟨fuel, hf⟩ := h
  obtain ⟨xs, m, -, -, hlen, hxl, hf⟩ := DataW.trod_struct Try.underlying40 hf
  have q0 : DataW.trod enc Try.prog w base spare held m 38 (([v0, v1, v2, v3, v4].drop 0).take (Try.prog.cellsOf 38)) = xs[0]? := hf 0 _ rfl
  have q1 : DataW.trod enc Try.prog w base spare held m 27 (([v0, v1, v2, v3, v4].drop 1).take (Try.prog.cellsOf 27)) = xs[1]? := hf 1 _ rfl
  rw [List.getElem?_eq_getElem (by rw [hxl]; decide), cells_BookS] at q0
  rw [List.getElem?_eq_getElem (by rw [hxl]; decide), cells_Book] at q1
  simp only [List.drop_succ_cons, List.drop_zero, List.take_succ_cons, List.take_zero] at q0 q1
  obtain ⟨AP, cP, ps, rfl, rp, lp, sp⟩ := open_BookS q0
  obtain ⟨⟨bk, A1, A2, A3, c1, c2, c3⟩, he, ⟨r1, r2, r3⟩, sb⟩ := elem_Book q1
  simp only [bvC, List.cons.injEq, and_true] at he
  obtain ⟨rfl, rfl, rfl, rfl⟩ := he
  exact ⟨⟨ps, bk⟩, AP, A1, A2, A3, cP, c1, c2, c3, rfl, ⟨rp, r1, r2, r3⟩, lp, sp, sb⟩
end
end Go.Proofs.Ytnmknkdbeccmhaa
