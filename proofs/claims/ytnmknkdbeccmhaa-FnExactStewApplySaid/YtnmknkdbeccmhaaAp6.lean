/- Appending a slice that reads as a list to a row of the call's own. -/
import Derived.Test.YtnmknkdbeccmhaaAp4
import Derived.Laws.OwnMore
namespace Go.Proofs.Ytnmknkdbeccmhaa
open Go.RowKit
set_option linter.unusedSimpArgs false

theorem flat_at {α : Type} {n : Nat} {cs : α → List Value} (hn : ∀ x, (cs x).length = n) : ∀ (xs : List α) (j : Nat) (u : Value), (xs.flatMap cs)[j]? = some u → ∃ i r x, j = i * n + r ∧ xs[i]? = some x ∧ (cs x)[r]? = some u
  | [], j, u, h => by simp at h
  | x :: xs, j, u, h => by
    rw [List.flatMap_cons] at h
    by_cases hj : j < n
    · rw [List.getElem?_append_left (by rw [hn]; exact hj)] at h
      exact ⟨0, j, x, by omega, rfl, h⟩
    · rw [List.getElem?_append_right (by rw [hn]; omega), hn] at h
      obtain ⟨i, r, y, h1, h2, h3⟩ := flat_at hn xs (j - n) u h
      exact ⟨i + 1, r, y, by rw [Nat.add_mul]; omega, by simpa using h2, h3⟩
theorem rows_cells {α : Type} {n : Nat} {cs : α → List Value} {w : World} {bl o : Nat} {xs : List α} (hn : ∀ x, (cs x).length = n) (h : Rows n cs w (some ⟨bl, o, none⟩) xs) : ∀ j u, (xs.flatMap cs)[j]? = some u → w.cell? ((⟨bl, o, none⟩ : Addr).add j) = some u := by
  intro j u hu
  obtain ⟨i, r, x, rfl, hx, hr⟩ := flat_at hn xs j u hu
  obtain ⟨b, o', e, hc⟩ := h.at_ hx
  simp only [Option.some.injEq, Addr.mk.injEq] at e
  obtain ⟨rfl, rfl, -⟩ := e
  have e1 : (⟨bl, o, none⟩ : Addr).add (i * n + r) = ⟨bl, o + i * n + r, none⟩ := by
    unfold Addr.add
    by_cases e2 : i * n = 0 <;> by_cases e3 : r = 0 <;> simp [e2, e3, Nat.add_assoc]
  rw [e1]
  exact hc r u hr
theorem svcC_one (x : Svc) : ∀ u ∈ svcC x, u.oneCell' = true := by simp [svcC, Value.oneCell']
theorem cpyC_one (x : Cpy) : ∀ u ∈ cpyC x, u.oneCell' = true := by simp [cpyC, Value.oneCell']
theorem brtC_one (x : Brt) : ∀ u ∈ brtC x, u.oneCell' = true := by simp [brtC, Value.oneCell']
theorem run_append_nil {P : Program} {w : World} (base : Nat) (t ty e : TypeId) (i : TypeInfo) (size c : Nat) (ht : P.underlying t = some (.slice e)) (hi : P.info? e = some i)
    (v : Value) (n : Nat) (xs : List Value) (hown : w.ownsRow base e size v n xs) : (Builtin.append_ #[t, t] ty #[v, .slice none 0 c]).run P w = .ok v w := by
  rcases hown.2 with ⟨rfl, rfl⟩ | ⟨g, cap, cur, rfl, _, _, hnc, _⟩
  · simp [Builtin.append_, run_underlying ht, sizeOf, typeInfo, hi, Builtin.lenOf, Builtin.firstCells]
  · simp [Builtin.append_, run_underlying ht, sizeOf, typeInfo, hi, Builtin.lenOf, Builtin.firstCells, hnc, storeCells]
/-- 'append(own, ys...)', ys a slice that reads as a list (nil or not). -/
theorem run_append_rows {P : Program} {α : Type} {n bytes base : Nat} {cs : α → List Value} {w : World} (t ty e : TypeId) (i : TypeInfo) (z : Value) (ht : P.underlying t = some (.slice e)) (hi : P.info? e = some i) (hz : i.zero = some z) (hsize : i.size = n) (hby : i.bytes = bytes) (hzs : z.cells.size = n) (hsz : 0 < n)
    (hn : ∀ x, (cs x).length = n) (h1 : ∀ x, ∀ u ∈ cs x, u.oneCell' = true)
    (v : Value) (xs ys : List α) (hown : w.ownsRow base e n v xs.length (xs.flatMap cs)) (A : Option Addr) (c : Nat) (hr : Rows n cs w A ys)
    (h63 : xs.length + ys.length ≤ maxLen) (hbytes : (xs.length + ys.length) * bytes ≤ 140737488355328) (hbase : base ≤ w.heap.size) :
    ∃ v' w', (Builtin.append_ #[t, t] ty #[v, .slice A ys.length c]).run P w = .ok v' w' ∧ w'.ownsRow base e n v' (xs ++ ys).length ((xs ++ ys).flatMap cs) ∧ w.grownBy w' v.ownBlock := by
  by_cases hy : ys = []
  · subst hy
    cases A with
    | none => exact ⟨v, w, run_append_nil base t ty e i n c ht hi v xs.length _ hown, by simpa using hown, World.grownBy.refl _ _⟩
    | some p =>
      obtain ⟨v', w', hr, h2, h3, -⟩ := run_append_own (P := P) w base t ty e i z n bytes ht hi hz hsize hby hzs hsz v xs.length _ hown p 0 c [] (by simp) (by simp) (by simp) (by simpa using h63) (by simpa using hbytes) hbase
      exact ⟨v', w', hr, by simpa using h2, h3⟩
  · obtain ⟨b, o, rfl, -⟩ := hr hy
    obtain ⟨v', w', hrun, h2, h3, -⟩ := run_append_own (P := P) w base t ty e i z n bytes ht hi hz hsize hby hzs hsz v xs.length _ hown ⟨b, o, none⟩ ys.length c (ys.flatMap cs) (flat_len hn ys) (rows_cells hn hr) (fun u hu => by
      obtain ⟨x, -, hx⟩ := List.mem_flatMap.1 hu
      exact h1 x u hx) h63 hbytes hbase
    exact ⟨v', w', hrun, by simpa using h2, h3⟩
/-- The same onto a row that has no room at all: nothing that was there is written. -/
theorem run_append_fresh {P : Program} {α : Type} {n bytes base g : Nat} {cs : α → List Value} {w : World} (t ty e : TypeId) (i : TypeInfo) (z : Value) (ht : P.underlying t = some (.slice e)) (hi : P.info? e = some i) (hz : i.zero = some z) (hsize : i.size = n) (hby : i.bytes = bytes) (hzs : z.cells.size = n) (hsz : 0 < n)
    (hn : ∀ x, (cs x).length = n) (h1 : ∀ x, ∀ u ∈ cs x, u.oneCell' = true)
    (ys : List α) (hown : w.ownsRow base e n (.slice (some ⟨g, 0, none⟩) 0 0) 0 []) (A : Option Addr) (c : Nat) (hr : Rows n cs w A ys)
    (h63 : ys.length ≤ maxLen) (hbytes : ys.length * bytes ≤ 140737488355328) (hbase : base ≤ w.heap.size) :
    ∃ v' w', (Builtin.append_ #[t, t] ty #[.slice (some ⟨g, 0, none⟩) 0 0, .slice A ys.length c]).run P w = .ok v' w' ∧ w'.ownsRow base e n v' ys.length (ys.flatMap cs) ∧ Grow w w' := by
  by_cases hy : ys = []
  · subst hy
    refine ⟨.slice (some ⟨g, 0, none⟩) 0 0, w, ?_, by simpa using hown, Grow.refl w⟩
    cases A with
    | none => exact run_append_nil base t ty e i n c ht hi _ 0 [] hown
    | some p => simp [Builtin.append_, run_underlying ht, sizeOf, typeInfo, hi, Builtin.lenOf, Builtin.firstCells, loadCells, loadCellsFrom, storeCells]
  · obtain ⟨b, o, rfl, -⟩ := hr hy
    have hpos : 0 < ys.length := List.length_pos_iff.2 hy
    have hcells : ∀ u ∈ ys.flatMap cs, u.oneCell' = true := fun u hu => by
      obtain ⟨x, -, hx⟩ := List.mem_flatMap.1 hu
      exact h1 x u hx
    obtain ⟨v', w', hrun, h2, -, -⟩ := run_append_own (P := P) w base t ty e i z n bytes ht hi hz hsize hby hzs hsz _ 0 [] hown ⟨b, o, none⟩ ys.length c (ys.flatMap cs) (flat_len hn ys) (rows_cells hn hr) hcells (by simpa using h63) (by simpa using hbytes) hbase
    have hfit : Builtin.nextslicecap (0 + ys.length) 0 * i.bytes ≤ 281474976710656 := by
      have e1 : Builtin.nextslicecap (0 + ys.length) 0 = ys.length := by unfold Builtin.nextslicecap; rw [if_pos (by omega)]; omega
      rw [e1, hby]
      omega
    have hrun2 := run_append_grow (P := P) w t ty e i z ht hi hz ⟨g, 0, none⟩ 0 0 [] (by simp) (by simp) ⟨b, o, none⟩ ys.length c (ys.flatMap cs) (by rw [hsize]; exact flat_len hn ys) (rows_cells hn hr) (by omega) (by unfold maxLen at h63; omega) hfit
    rw [hrun] at hrun2
    simp only [Result.ok.injEq] at hrun2
    refine ⟨v', w', hrun, by simpa using h2, ?_⟩
    rw [hrun2.2]
    exact (Grow.refl w).drew.alloc _
theorem wp_append_fresh {P : Program} {α : Type} {n bytes base g : Nat} {cs : α → List Value} {w : World} {o : Oper} {a : Act} {K : Act → World → Prop} {Q : Exit → Act → World → Prop} (s x : Operand) (t : TypeId)
    (ho : o.op = .call { callee := .builtin .append, args := #[s, x], argTypes := #[t, t] })
    (e : TypeId) (i : TypeInfo) (z : Value) (ht : P.underlying t = some (.slice e)) (hi : P.info? e = some i) (hz : i.zero = some z) (hsize : i.size = n) (hby : i.bytes = bytes) (hzs : z.cells.size = n) (hsz : 0 < n)
    (hn : ∀ x, (cs x).length = n) (h1 : ∀ x, ∀ u ∈ cs x, u.oneCell' = true)
    (ys : List α) (hs : a.eval s = .slice (some ⟨g, 0, none⟩) 0 0) (hown : w.ownsRow base e n (.slice (some ⟨g, 0, none⟩) 0 0) 0 []) (A : Option Addr) (c : Nat) (hx : a.eval x = .slice A ys.length c) (hr : Rows n cs w A ys)
    (h63 : ys.length ≤ maxLen) (hbytes : ys.length * bytes ≤ 140737488355328) (hbase : base ≤ w.heap.size)
    (h : ∀ v' w', w'.ownsRow base e n v' ys.length (ys.flatMap cs) → Grow w w' → K (a.put o.dst v') w') : o.wp P a w K Q := by
  obtain ⟨v', w', hrun, h2, h3⟩ := run_append_fresh (P := P) (w := w) t o.type e i z ht hi hz hsize hby hzs hsz hn h1 ys hown A c hr h63 hbytes hbase
  unfold Oper.wp execOp
  simp only [ho, resolve, invoke, builtin, Sem.run_bind, Sem.run_pure, Result.andThen_ok, List.map_toArray, List.map_cons, List.map_nil, hs, hx, hrun]
  exact h v' w' h2 h3
theorem wp_append_rows {P : Program} {α : Type} {n bytes base : Nat} {cs : α → List Value} {w : World} {o : Oper} {a : Act} {K : Act → World → Prop} {Q : Exit → Act → World → Prop} (s x : Operand) (t : TypeId)
    (ho : o.op = .call { callee := .builtin .append, args := #[s, x], argTypes := #[t, t] })
    (e : TypeId) (i : TypeInfo) (z : Value) (ht : P.underlying t = some (.slice e)) (hi : P.info? e = some i) (hz : i.zero = some z) (hsize : i.size = n) (hby : i.bytes = bytes) (hzs : z.cells.size = n) (hsz : 0 < n)
    (hn : ∀ x, (cs x).length = n) (h1 : ∀ x, ∀ u ∈ cs x, u.oneCell' = true)
    (v : Value) (xs ys : List α) (hs : a.eval s = v) (hown : w.ownsRow base e n v xs.length (xs.flatMap cs)) (A : Option Addr) (c : Nat) (hx : a.eval x = .slice A ys.length c) (hr : Rows n cs w A ys)
    (h63 : xs.length + ys.length ≤ maxLen) (hbytes : (xs.length + ys.length) * bytes ≤ 140737488355328) (hbase : base ≤ w.heap.size)
    (h : ∀ v' w', w'.ownsRow base e n v' (xs ++ ys).length ((xs ++ ys).flatMap cs) → w.grownBy w' v.ownBlock → K (a.put o.dst v') w') : o.wp P a w K Q := by
  obtain ⟨v', w', hrun, h2, h3⟩ := run_append_rows (P := P) (w := w) t o.type e i z ht hi hz hsize hby hzs hsz hn h1 v xs ys hown A c hr h63 hbytes hbase
  unfold Oper.wp execOp
  simp only [ho, resolve, invoke, builtin, Sem.run_bind, Sem.run_pure, Result.andThen_ok, List.map_toArray, List.map_cons, List.map_nil, hs, hx, hrun]
  exact h v' w' h2 h3
theorem wpList_append_rows {P : Program} {α : Type} {n bytes base : Nat} {cs : α → List Value} {w : World} {ops : Array Oper} {rest : List Oper} {o : Oper} {a : Act} {Q : Exit → Act → World → Prop} (hgd : o.guard = none) (s x : Operand) (t : TypeId)
    (ho : o.op = .call { callee := .builtin .append, args := #[s, x], argTypes := #[t, t] })
    (e : TypeId) (i : TypeInfo) (z : Value) (ht : P.underlying t = some (.slice e)) (hi : P.info? e = some i) (hz : i.zero = some z) (hsize : i.size = n) (hby : i.bytes = bytes) (hzs : z.cells.size = n) (hsz : 0 < n)
    (hn : ∀ x, (cs x).length = n) (h1 : ∀ x, ∀ u ∈ cs x, u.oneCell' = true)
    (v : Value) (xs ys : List α) (hs : a.eval s = v) (hown : w.ownsRow base e n v xs.length (xs.flatMap cs)) (A : Option Addr) (c : Nat) (hx : a.eval x = .slice A ys.length c) (hr : Rows n cs w A ys)
    (h63 : xs.length + ys.length ≤ maxLen) (hbytes : (xs.length + ys.length) * bytes ≤ 140737488355328) (hbase : base ≤ w.heap.size)
    (h : ∀ v' w', w'.ownsRow base e n v' (xs ++ ys).length ((xs ++ ys).flatMap cs) → w.grownBy w' v.ownBlock → wpList P ops Q rest (a.put o.dst v') w') : wpList P ops Q (o :: rest) a w :=
  wpList_plain hgd fun _ hK => wp_append_rows s x t ho e i z ht hi hz hsize hby hzs hsz hn h1 v xs ys hs hown A c hx hr h63 hbytes hbase fun v' w' h2 h3 => hK _ _ (h v' w' h2 h3)
end Go.Proofs.Ytnmknkdbeccmhaa
