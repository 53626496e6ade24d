/- The laws' arguments, opened: what is handed in reads as plain data. -/
import Derived.Test.YtnmknkdbeccmhaaRows
import Derived.Test.YtnmknkdbeccmhaaAp3
import Derived.ProofKit
import Derived.Lib.SmallJoins
import Derived.SizedLaws
import Derived.ShutString
import Derived.OpenShut
import Derived.ChangeOld
namespace Go.Proofs.Ytnmknkdbeccmhaa
open Go.ChangeShapes Go.WideShapes Go.ChangeAt Go.RowKit
set_option linter.unusedSimpArgs false
set_option linter.unusedVariables false

theorem svcC_len' (s : Svc) : (svcC s).length = 13 := rfl
theorem cpyC_len' (s : Cpy) : (cpyC s).length = 7 := rfl
theorem brtC_len' (s : Brt) : (brtC s).length = 2 := rfl
theorem len2 {α : Type} {l : List α} (h : l.length = 2) : ∃ a b, l = [a, b] := by match l, h with | [a, b], _ => exact ⟨a, b, rfl⟩
theorem len7 {α : Type} {l : List α} (h : l.length = 7) : ∃ a b c d e f g, l = [a, b, c, d, e, f, g] := by match l, h with | [a, b, c, d, e, f, g], _ => exact ⟨a, b, c, d, e, f, g, rfl⟩
theorem len13 {α : Type} {l : List α} (h : l.length = 13) : ∃ a b c d e f g a' b' c' d' e' f', l = [a, b, c, d, e, f, g, a', b', c', d', e', f'] := by match l, h with | [a, b, c, d, e, f, g, a', b', c', d', e', f'], _ => exact ⟨a, b, c, d, e, f, g, a', b', c', d', e', f', rfl⟩
theorem cells_int : Try.prog.cellsOf 3 = 1 := by kernel_rfl
theorem cells_bool : Try.prog.cellsOf 4 = 1 := by kernel_rfl
theorem cells_string : Try.prog.cellsOf 9 = 1 := by kernel_rfl
section
variable {H : Type} {enc : TypeId × Value → H} {w : World} {base : Nat} {spare : Nat → Bool} {held : Bool}
theorem list_of {α : Type} {Q : Nat → α → Prop} : ∀ n : Nat, (∀ i, i < n → ∃ x, Q i x) → ∃ xs : List α, xs.length = n ∧ ∀ i x, xs[i]? = some x → Q i x
  | 0, _ => ⟨[], rfl, fun i x h => by simp at h⟩
  | n + 1, h => by
    obtain ⟨xs, hl, hx⟩ := list_of n fun i hi => h i (by omega)
    obtain ⟨x, hq⟩ := h n (by omega)
    refine ⟨xs ++ [x], by simp [hl], fun i y hy => ?_⟩
    by_cases hi : i < n
    · rw [List.getElem?_append_left (by omega)] at hy
      exact hx i y hy
    · rw [List.getElem?_append_right (by omega)] at hy
      have : i = n := by
        have h1 := (List.getElem?_eq_some_iff.1 hy).1
        simp at h1
        omega
      subst this
      rw [hl, Nat.sub_self] at hy
      simp at hy
      subst hy
      exact hq
/-- A slice whose elements are known to read as such and such. -/
theorem open_rows {α : Type} {t e n : Nat} {cs : α → List Value} {S : α → Prop} {fuel : Nat} {v : Value} {x : DataW H × List MemPlace} (ht : Try.prog.underlying t = some (.slice e)) (hC : Try.prog.cellsOf e = n) (hn : ∀ x, (cs x).length = n) (h0 : 0 < n)
    (hel : ∀ {fuel : Nat} {c : List Value} {y : DataW H × List MemPlace}, DataW.trod enc Try.prog w base spare held fuel e c = some y → ∃ x, c = cs x ∧ S x)
    (h : DataW.trod enc Try.prog w base spare held fuel t [v] = some x) : ∃ A c xs, v = .slice A xs.length c ∧ Rows n cs w A xs ∧ xs.length ≤ 9223372036854775807 ∧ ∀ x ∈ xs, S x := by
  rcases DataW.trod_slice ht h with ⟨hv, -⟩ | ⟨a, len, cap, elems, rest, m, -, hv, -, -, hl, hc, hlen, hi, -, -⟩
  · simp only [List.cons.injEq, and_true] at hv
    exact ⟨none, 0, [], hv, Rows.nil _, by simp, by simp⟩
  · simp only [List.cons.injEq, and_true] at hv
    have hx : ∀ i, i < len → ∃ x, (∀ j, j < n → w.cell? ((a.add (i * n)).add j) = (cs x)[j]?) ∧ S x := by
      intro i hil
      have h1 := hi i hil
      rw [List.getElem?_eq_getElem (by omega), Option.bind_eq_some_iff] at h1
      obtain ⟨c, h2, h3⟩ := h1
      obtain ⟨x, rfl, hs⟩ := hel h3
      obtain ⟨-, -, hat⟩ := World.cells?_some h2
      rw [hC] at hat
      exact ⟨x, hat, hs⟩
    obtain ⟨xs, hxl, hq⟩ := list_of len hx
    unfold maxLen at hc
    refine ⟨some a, cap, xs, by rw [hv, hxl], fun hne => ?_, by omega, fun x hxm => ?_⟩
    · have hpos : 0 < xs.length := List.length_pos_iff.2 hne
      obtain ⟨x0, hx0⟩ := ex_at hpos
      have hs : a.spot = none := by
        have h2 := (hq 0 x0 hx0).1 0 h0
        rw [Nat.zero_mul] at h2
        have h3 : (a.add 0).add 0 = a := rfl
        rw [h3, List.getElem?_eq_getElem (by rw [hn]; exact h0)] at h2
        cases hsp : a.spot with
        | none => rfl
        | some z =>
          unfold World.cell? at h2
          split at h2
          · simp [hsp] at h2
          · simp at h2
      obtain ⟨b, o, sp⟩ := a
      subst hs
      refine ⟨b, o, rfl, fun i x hxi j u hu => ?_⟩
      have hj : j < n := by rw [← hn x]; exact (List.getElem?_eq_some_iff.1 hu).1
      have h4 := (hq i x hxi).1 j hj
      rw [hu] at h4
      have h5 : ((⟨b, o, none⟩ : Addr).add (i * n)).add j = ⟨b, o + i * n + j, none⟩ := by
        unfold Addr.add
        by_cases e1 : i * n = 0 <;> by_cases e2 : j = 0 <;> simp [e1, e2]
      rw [← h5]
      exact h4
    · obtain ⟨i, hi⟩ := List.mem_iff_getElem?.1 hxm
      exact (hq i x hi).2

theorem elem_Svc {fuel : Nat} {cs : List Value} {y : DataW H × List MemPlace} (h : DataW.trod enc Try.prog w base spare held fuel 157 cs = some y) : ∃ x : Svc, cs = svcC x ∧ (x.name.size ≤ 9223372036854775807) := by
  obtain ⟨xs, m, -, -, hlen, hxl, hf⟩ := DataW.trod_struct Try.underlying157 h
  rw [show Try.prog.cellsOf 157 = 13 by kernel_rfl] at hlen
  obtain ⟨v0, v1, v2, v3, v4, v5, v6, v7, v8, v9, v10, v11, v12, rfl⟩ := len13 hlen
  have q0 : DataW.trod enc Try.prog w base spare held m 9 (([v0, v1, v2, v3, v4, v5, v6, v7, v8, v9, v10, v11, v12].drop 0).take (Try.prog.cellsOf 9)) = xs[0]? := hf 0 _ rfl
  have q1 : DataW.trod enc Try.prog w base spare held m 3 (([v0, v1, v2, v3, v4, v5, v6, v7, v8, v9, v10, v11, v12].drop 1).take (Try.prog.cellsOf 3)) = xs[1]? := hf 1 _ rfl
  have q2 : DataW.trod enc Try.prog w base spare held m 4 (([v0, v1, v2, v3, v4, v5, v6, v7, v8, v9, v10, v11, v12].drop 2).take (Try.prog.cellsOf 4)) = xs[2]? := hf 2 _ rfl
  have q3 : DataW.trod enc Try.prog w base spare held m 3 (([v0, v1, v2, v3, v4, v5, v6, v7, v8, v9, v10, v11, v12].drop 3).take (Try.prog.cellsOf 3)) = xs[3]? := hf 3 _ rfl
  have q4 : DataW.trod enc Try.prog w base spare held m 3 (([v0, v1, v2, v3, v4, v5, v6, v7, v8, v9, v10, v11, v12].drop 4).take (Try.prog.cellsOf 3)) = xs[4]? := hf 4 _ rfl
  have q5 : DataW.trod enc Try.prog w base spare held m 3 (([v0, v1, v2, v3, v4, v5, v6, v7, v8, v9, v10, v11, v12].drop 5).take (Try.prog.cellsOf 3)) = xs[5]? := hf 5 _ rfl
  have q6 : DataW.trod enc Try.prog w base spare held m 3 (([v0, v1, v2, v3, v4, v5, v6, v7, v8, v9, v10, v11, v12].drop 6).take (Try.prog.cellsOf 3)) = xs[6]? := hf 6 _ rfl
  have q7 : DataW.trod enc Try.prog w base spare held m 3 (([v0, v1, v2, v3, v4, v5, v6, v7, v8, v9, v10, v11, v12].drop 7).take (Try.prog.cellsOf 3)) = xs[7]? := hf 7 _ rfl
  have q8 : DataW.trod enc Try.prog w base spare held m 3 (([v0, v1, v2, v3, v4, v5, v6, v7, v8, v9, v10, v11, v12].drop 8).take (Try.prog.cellsOf 3)) = xs[8]? := hf 8 _ rfl
  have q9 : DataW.trod enc Try.prog w base spare held m 3 (([v0, v1, v2, v3, v4, v5, v6, v7, v8, v9, v10, v11, v12].drop 9).take (Try.prog.cellsOf 3)) = xs[9]? := hf 9 _ rfl
  have q10 : DataW.trod enc Try.prog w base spare held m 3 (([v0, v1, v2, v3, v4, v5, v6, v7, v8, v9, v10, v11, v12].drop 10).take (Try.prog.cellsOf 3)) = xs[10]? := hf 10 _ rfl
  have q11 : DataW.trod enc Try.prog w base spare held m 3 (([v0, v1, v2, v3, v4, v5, v6, v7, v8, v9, v10, v11, v12].drop 11).take (Try.prog.cellsOf 3)) = xs[11]? := hf 11 _ rfl
  have q12 : DataW.trod enc Try.prog w base spare held m 3 (([v0, v1, v2, v3, v4, v5, v6, v7, v8, v9, v10, v11, v12].drop 12).take (Try.prog.cellsOf 3)) = xs[12]? := hf 12 _ rfl
  rw [List.getElem?_eq_getElem (by rw [hxl]; decide)] at q0
  rw [cells_string] at q0
  simp only [List.drop_succ_cons, List.drop_zero, List.take_succ_cons, List.take_zero] at q0
  obtain ⟨x0, e0, -, z0⟩ := DataW.trod_string Try.underlying9 q0
  simp only [List.cons.injEq, and_true] at e0
  subst e0
  rw [List.getElem?_eq_getElem (by rw [hxl]; decide)] at q1
  rw [cells_int] at q1
  simp only [List.drop_succ_cons, List.drop_zero, List.take_succ_cons, List.take_zero] at q1
  obtain ⟨x1, e1, -, -⟩ := DataW.trod_int Try.underlying3 q1
  simp only [List.cons.injEq, and_true] at e1
  subst e1
  rw [List.getElem?_eq_getElem (by rw [hxl]; decide)] at q2
  rw [cells_bool] at q2
  simp only [List.drop_succ_cons, List.drop_zero, List.take_succ_cons, List.take_zero] at q2
  obtain ⟨x2, e2, -⟩ := DataW.trod_bool Try.underlying4 q2
  simp only [List.cons.injEq, and_true] at e2
  subst e2
  rw [List.getElem?_eq_getElem (by rw [hxl]; decide)] at q3
  rw [cells_int] at q3
  simp only [List.drop_succ_cons, List.drop_zero, List.take_succ_cons, List.take_zero] at q3
  obtain ⟨x3, e3, -, -⟩ := DataW.trod_int Try.underlying3 q3
  simp only [List.cons.injEq, and_true] at e3
  subst e3
  rw [List.getElem?_eq_getElem (by rw [hxl]; decide)] at q4
  rw [cells_int] at q4
  simp only [List.drop_succ_cons, List.drop_zero, List.take_succ_cons, List.take_zero] at q4
  obtain ⟨x4, e4, -, -⟩ := DataW.trod_int Try.underlying3 q4
  simp only [List.cons.injEq, and_true] at e4
  subst e4
  rw [List.getElem?_eq_getElem (by rw [hxl]; decide)] at q5
  rw [cells_int] at q5
  simp only [List.drop_succ_cons, List.drop_zero, List.take_succ_cons, List.take_zero] at q5
  obtain ⟨x5, e5, -, -⟩ := DataW.trod_int Try.underlying3 q5
  simp only [List.cons.injEq, and_true] at e5
  subst e5
  rw [List.getElem?_eq_getElem (by rw [hxl]; decide)] at q6
  rw [cells_int] at q6
  simp only [List.drop_succ_cons, List.drop_zero, List.take_succ_cons, List.take_zero] at q6
  obtain ⟨x6, e6, -, -⟩ := DataW.trod_int Try.underlying3 q6
  simp only [List.cons.injEq, and_true] at e6
  subst e6
  rw [List.getElem?_eq_getElem (by rw [hxl]; decide)] at q7
  rw [cells_int] at q7
  simp only [List.drop_succ_cons, List.drop_zero, List.take_succ_cons, List.take_zero] at q7
  obtain ⟨x7, e7, -, -⟩ := DataW.trod_int Try.underlying3 q7
  simp only [List.cons.injEq, and_true] at e7
  subst e7
  rw [List.getElem?_eq_getElem (by rw [hxl]; decide)] at q8
  rw [cells_int] at q8
  simp only [List.drop_succ_cons, List.drop_zero, List.take_succ_cons, List.take_zero] at q8
  obtain ⟨x8, e8, -, -⟩ := DataW.trod_int Try.underlying3 q8
  simp only [List.cons.injEq, and_true] at e8
  subst e8
  rw [List.getElem?_eq_getElem (by rw [hxl]; decide)] at q9
  rw [cells_int] at q9
  simp only [List.drop_succ_cons, List.drop_zero, List.take_succ_cons, List.take_zero] at q9
  obtain ⟨x9, e9, -, -⟩ := DataW.trod_int Try.underlying3 q9
  simp only [List.cons.injEq, and_true] at e9
  subst e9
  rw [List.getElem?_eq_getElem (by rw [hxl]; decide)] at q10
  rw [cells_int] at q10
  simp only [List.drop_succ_cons, List.drop_zero, List.take_succ_cons, List.take_zero] at q10
  obtain ⟨x10, e10, -, -⟩ := DataW.trod_int Try.underlying3 q10
  simp only [List.cons.injEq, and_true] at e10
  subst e10
  rw [List.getElem?_eq_getElem (by rw [hxl]; decide)] at q11
  rw [cells_int] at q11
  simp only [List.drop_succ_cons, List.drop_zero, List.take_succ_cons, List.take_zero] at q11
  obtain ⟨x11, e11, -, -⟩ := DataW.trod_int Try.underlying3 q11
  simp only [List.cons.injEq, and_true] at e11
  subst e11
  rw [List.getElem?_eq_getElem (by rw [hxl]; decide)] at q12
  rw [cells_int] at q12
  simp only [List.drop_succ_cons, List.drop_zero, List.take_succ_cons, List.take_zero] at q12
  obtain ⟨x12, e12, -, -⟩ := DataW.trod_int Try.underlying3 q12
  simp only [List.cons.injEq, and_true] at e12
  subst e12
  exact ⟨⟨x0, x1, x2, x3, x4, x5, x6, x7, x8, x9, x10, x11, x12⟩, rfl, z0⟩
theorem open_SvcS {fuel : Nat} {v : Value} {x : DataW H × List MemPlace} (h : DataW.trod enc Try.prog w base spare held fuel 23 [v] = some x) : ∃ A c xs, v = .slice A xs.length c ∧ Rows 13 svcC w A xs ∧ xs.length ≤ 9223372036854775807 ∧ SmallSvc xs :=
  open_rows Try.underlying23 (by kernel_rfl) svcC_len' (by omega) elem_Svc h

theorem elem_Cpy {fuel : Nat} {cs : List Value} {y : DataW H × List MemPlace} (h : DataW.trod enc Try.prog w base spare held fuel 159 cs = some y) : ∃ x : Cpy, cs = cpyC x ∧ (x.service.size ≤ 9223372036854775807 ∧ x.berth.size ≤ 9223372036854775807) := by
  obtain ⟨xs, m, -, -, hlen, hxl, hf⟩ := DataW.trod_struct Try.underlying159 h
  rw [show Try.prog.cellsOf 159 = 7 by kernel_rfl] at hlen
  obtain ⟨v0, v1, v2, v3, v4, v5, v6, rfl⟩ := len7 hlen
  have q0 : DataW.trod enc Try.prog w base spare held m 9 (([v0, v1, v2, v3, v4, v5, v6].drop 0).take (Try.prog.cellsOf 9)) = xs[0]? := hf 0 _ rfl
  have q1 : DataW.trod enc Try.prog w base spare held m 3 (([v0, v1, v2, v3, v4, v5, v6].drop 1).take (Try.prog.cellsOf 3)) = xs[1]? := hf 1 _ rfl
  have q2 : DataW.trod enc Try.prog w base spare held m 3 (([v0, v1, v2, v3, v4, v5, v6].drop 2).take (Try.prog.cellsOf 3)) = xs[2]? := hf 2 _ rfl
  have q3 : DataW.trod enc Try.prog w base spare held m 3 (([v0, v1, v2, v3, v4, v5, v6].drop 3).take (Try.prog.cellsOf 3)) = xs[3]? := hf 3 _ rfl
  have q4 : DataW.trod enc Try.prog w base spare held m 3 (([v0, v1, v2, v3, v4, v5, v6].drop 4).take (Try.prog.cellsOf 3)) = xs[4]? := hf 4 _ rfl
  have q5 : DataW.trod enc Try.prog w base spare held m 4 (([v0, v1, v2, v3, v4, v5, v6].drop 5).take (Try.prog.cellsOf 4)) = xs[5]? := hf 5 _ rfl
  have q6 : DataW.trod enc Try.prog w base spare held m 9 (([v0, v1, v2, v3, v4, v5, v6].drop 6).take (Try.prog.cellsOf 9)) = xs[6]? := hf 6 _ rfl
  rw [List.getElem?_eq_getElem (by rw [hxl]; decide)] at q0
  rw [cells_string] at q0
  simp only [List.drop_succ_cons, List.drop_zero, List.take_succ_cons, List.take_zero] at q0
  obtain ⟨x0, e0, -, z0⟩ := DataW.trod_string Try.underlying9 q0
  simp only [List.cons.injEq, and_true] at e0
  subst e0
  rw [List.getElem?_eq_getElem (by rw [hxl]; decide)] at q1
  rw [cells_int] at q1
  simp only [List.drop_succ_cons, List.drop_zero, List.take_succ_cons, List.take_zero] at q1
  obtain ⟨x1, e1, -, -⟩ := DataW.trod_int Try.underlying3 q1
  simp only [List.cons.injEq, and_true] at e1
  subst e1
  rw [List.getElem?_eq_getElem (by rw [hxl]; decide)] at q2
  rw [cells_int] at q2
  simp only [List.drop_succ_cons, List.drop_zero, List.take_succ_cons, List.take_zero] at q2
  obtain ⟨x2, e2, -, -⟩ := DataW.trod_int Try.underlying3 q2
  simp only [List.cons.injEq, and_true] at e2
  subst e2
  rw [List.getElem?_eq_getElem (by rw [hxl]; decide)] at q3
  rw [cells_int] at q3
  simp only [List.drop_succ_cons, List.drop_zero, List.take_succ_cons, List.take_zero] at q3
  obtain ⟨x3, e3, -, -⟩ := DataW.trod_int Try.underlying3 q3
  simp only [List.cons.injEq, and_true] at e3
  subst e3
  rw [List.getElem?_eq_getElem (by rw [hxl]; decide)] at q4
  rw [cells_int] at q4
  simp only [List.drop_succ_cons, List.drop_zero, List.take_succ_cons, List.take_zero] at q4
  obtain ⟨x4, e4, -, -⟩ := DataW.trod_int Try.underlying3 q4
  simp only [List.cons.injEq, and_true] at e4
  subst e4
  rw [List.getElem?_eq_getElem (by rw [hxl]; decide)] at q5
  rw [cells_bool] at q5
  simp only [List.drop_succ_cons, List.drop_zero, List.take_succ_cons, List.take_zero] at q5
  obtain ⟨x5, e5, -⟩ := DataW.trod_bool Try.underlying4 q5
  simp only [List.cons.injEq, and_true] at e5
  subst e5
  rw [List.getElem?_eq_getElem (by rw [hxl]; decide)] at q6
  rw [cells_string] at q6
  simp only [List.drop_succ_cons, List.drop_zero, List.take_succ_cons, List.take_zero] at q6
  obtain ⟨x6, e6, -, z6⟩ := DataW.trod_string Try.underlying9 q6
  simp only [List.cons.injEq, and_true] at e6
  subst e6
  exact ⟨⟨x0, x1, x2, x3, x4, x5, x6⟩, rfl, ⟨z0, z6⟩⟩
theorem open_CpyS {fuel : Nat} {v : Value} {x : DataW H × List MemPlace} (h : DataW.trod enc Try.prog w base spare held fuel 24 [v] = some x) : ∃ A c xs, v = .slice A xs.length c ∧ Rows 7 cpyC w A xs ∧ xs.length ≤ 9223372036854775807 ∧ SmallCpy xs :=
  open_rows Try.underlying24 (by kernel_rfl) cpyC_len' (by omega) elem_Cpy h

theorem elem_Brt {fuel : Nat} {cs : List Value} {y : DataW H × List MemPlace} (h : DataW.trod enc Try.prog w base spare held fuel 161 cs = some y) : ∃ x : Brt, cs = brtC x ∧ (x.name.size ≤ 9223372036854775807) := by
  obtain ⟨xs, m, -, -, hlen, hxl, hf⟩ := DataW.trod_struct Try.underlying161 h
  rw [show Try.prog.cellsOf 161 = 2 by kernel_rfl] at hlen
  obtain ⟨v0, v1, rfl⟩ := len2 hlen
  have q0 : DataW.trod enc Try.prog w base spare held m 9 (([v0, v1].drop 0).take (Try.prog.cellsOf 9)) = xs[0]? := hf 0 _ rfl
  have q1 : DataW.trod enc Try.prog w base spare held m 4 (([v0, v1].drop 1).take (Try.prog.cellsOf 4)) = xs[1]? := hf 1 _ rfl
  rw [List.getElem?_eq_getElem (by rw [hxl]; decide)] at q0
  rw [cells_string] at q0
  simp only [List.drop_succ_cons, List.drop_zero, List.take_succ_cons, List.take_zero] at q0
  obtain ⟨x0, e0, -, z0⟩ := DataW.trod_string Try.underlying9 q0
  simp only [List.cons.injEq, and_true] at e0
  subst e0
  rw [List.getElem?_eq_getElem (by rw [hxl]; decide)] at q1
  rw [cells_bool] at q1
  simp only [List.drop_succ_cons, List.drop_zero, List.take_succ_cons, List.take_zero] at q1
  obtain ⟨x1, e1, -⟩ := DataW.trod_bool Try.underlying4 q1
  simp only [List.cons.injEq, and_true] at e1
  subst e1
  exact ⟨⟨x0, x1⟩, rfl, z0⟩
theorem open_BrtS {fuel : Nat} {v : Value} {x : DataW H × List MemPlace} (h : DataW.trod enc Try.prog w base spare held fuel 25 [v] = some x) : ∃ A c xs, v = .slice A xs.length c ∧ Rows 2 brtC w A xs ∧ xs.length ≤ 9223372036854775807 ∧ SmallBrt xs :=
  open_rows Try.underlying25 (by kernel_rfl) brtC_len' (by omega) elem_Brt h

set_option maxRecDepth 100000 in
/-- A law's book: a value, read as a book. -/
theorem open_book {r : Reach} {b0 : Nat} {v : Value} {d : DataW H} {p : List MemPlace} (hv : Value.okWide Try.prog w r b0 27 v) (h : DataW.Trod enc Try.prog w base spare held 27 v d p) :
    ∃ (b : Book) (A1 A2 A3 : Option Addr) (c1 c2 c3 : Nat), v = .agg #[.int .i64 b.now, .slice A1 b.svcs.length c1, .slice A2 b.cps.length c2, .slice A3 b.brs.length c3] ∧
      (Rows 13 svcC w A1 b.svcs ∧ Rows 7 cpyC w A2 b.cps ∧ Rows 2 brtC w A3 b.brs) ∧ (b.svcs.length ≤ 9223372036854775807 ∧ b.cps.length ≤ 9223372036854775807 ∧ b.brs.length ≤ 9223372036854775807) ∧ SmallSvc b.svcs ∧ SmallCpy b.cps ∧ SmallBrt b.brs := by
  obtain ⟨v0, v1, v2, v3, y0, y1, y2, y3, n, rfl, -, -, h0, h1, h2, h3⟩ := Joins.open_agg4 Try.underlying27 (by kernel_rfl) (by kernel_rfl) hv h
  obtain ⟨z, e0, -, -⟩ := DataW.trod_int Try.underlying3 h0
  simp only [List.cons.injEq, and_true] at e0
  subst e0
  obtain ⟨A1, c1, xs1, rfl, r1, l1, s1⟩ := open_SvcS h1
  obtain ⟨A2, c2, xs2, rfl, r2, l2, s2⟩ := open_CpyS h2
  obtain ⟨A3, c3, xs3, rfl, r3, l3, s3⟩ := open_BrtS h3
  exact ⟨⟨z, xs1, xs2, xs3⟩, A1, A2, A3, c1, c2, c3, rfl, ⟨r1, r2, r3⟩, ⟨l1, l2, l3⟩, s1, s2, s3⟩
end
end Go.Proofs.Ytnmknkdbeccmhaa
