/- Blocks known whole: what 'copy' and 'clear' do to them; a row of one's own as such a block. Plain laws on the cells of a row into which elements are put, or out of which they are struck. Rows out of which elements are struck: plain laws, and a row's element stored whole. -/
import Derived.Test.YtnmknkdbeccmhaaAp23
import Derived.Test.YtnmknkdbeccmhaaAp20
import Derived.Laws.CopyRow
import Derived.Laws.IdiomCopy
import Derived.Lib.AppendZerosOnto
import Derived.Lib.Overlaps
namespace Go.Proofs.Ytnmknkdbeccmhaa
open Go.RowKit
set_option linter.unusedSimpArgs false
set_option linter.unusedVariables false

/-- Block g holds the cells L, all of them free to be written. -/
def BlkIs (w : World) (g : Nat) (T : TypeId) (L : List Value) : Prop := w.heap[g]? = some (.cells L.toArray T (0, 0))
section
variable {P : Program} {w w' : World} {g : Nat} {T : TypeId} {L : List Value}
theorem add_lit (g o k : Nat) : (⟨g, o, none⟩ : Addr).add k = ⟨g, o + k, none⟩ := by
  unfold Addr.add
  by_cases e : k = 0 <;> simp [e]
theorem BlkIs.cell (h : BlkIs w g T L) (j : Nat) : w.cell? ⟨g, j, none⟩ = L[j]? := by
  rw [cell_of_row w g j _ _ _ h]
  simp
theorem BlkIs.lt (h : BlkIs w g T L) : g < w.heap.size := blk_lt h
theorem BlkIs.frozen (h : BlkIs w g T L) (j : Nat) : w.frozen? ⟨g, j, none⟩ = false := frozen_of_row w g j _ _ h
theorem BlkIs.setRow (h : BlkIs w g T L) (M : List Value) : BlkIs (w.setRow g M.toArray) g T M := setRow_heap w g _ _ _ _ h
theorem grown_setRow (w : World) (g : Nat) (M : Array Value) : w.grownBy (w.setRow g M) (some g) :=
  ⟨rfl, rfl, rfl, by simp, fun k hk hr => setRow_other w g k M (fun e => hr (by rw [e]))⟩
theorem own_open {base n N c sz : Nat} {xs : List Value} (h : w.ownsRow base T sz (.slice (some ⟨g, 0, none⟩) n c) N xs) : N = n ∧ xs.length = n * sz ∧ base ≤ g ∧ n ≤ c ∧ c ≤ maxLen ∧ ∃ L, BlkIs w g T L ∧ L.length = c * sz ∧ L.take (n * sz) = xs := by
  obtain ⟨hl, h⟩ := h
  rcases h with ⟨h, -⟩ | ⟨g', cap, cur, e, hb, hg, h1, h2, h3, h4⟩
  · simp at h
  · simp only [Value.slice.injEq, Option.some.injEq, Addr.mk.injEq] at e
    obtain ⟨⟨rfl, -, -⟩, rfl, rfl⟩ := e
    exact ⟨rfl, hl, hb, h1, h2, cur.toList, by simpa [BlkIs] using hg, by simpa using h3, h4⟩
theorem own_shut {base n c sz : Nat} {xs : List Value} (hB : BlkIs w g T L) (hb : base ≤ g) (hn : n ≤ c) (hc : c ≤ maxLen) (hL : L.length = c * sz) (hx : L.take (n * sz) = xs) : w.ownsRow base T sz (.slice (some ⟨g, 0, none⟩) n c) n xs := by
  refine ⟨?_, .inr ⟨g, c, L.toArray, rfl, hb, hB, hn, hc, by simpa using hL, by simpa using hx⟩⟩
  rw [← hx, List.length_take, hL, Nat.min_eq_left (Nat.mul_le_mul_right _ hn)]
theorem run_copy_row {cs : List Value} (t ty e : TypeId) (i : TypeInfo) (sz o dLen dCap sLen sCap : Nat) (a : Addr) (ht : P.underlying t = some (.slice e)) (hi : P.info? e = some i) (hsz : i.size = sz) (hB : BlkIs w g T L) (hn : cs.length = Nat.min sLen dLen * sz)
    (hsrc : ∀ j v, cs[j]? = some v → w.cell? (a.add j) = some v) (hfit : o + cs.length ≤ L.length) (h1 : ∀ v ∈ cs, v.oneCell' = true) :
    (Builtin.copy_ #[t, t] ty #[.slice (some ⟨g, o, none⟩) dLen dCap, .slice (some a) sLen sCap]).run P w = .ok (goInt (Nat.min sLen dLen)) (w.setRow g (L.take o ++ cs ++ L.drop (o + cs.length)).toArray) := by
  have hl := run_loadCells_list (P := P) w a cs hsrc
  have hst := run_storeCells_at P g o T cs 0 L.toArray w hB (by simpa using hfit) h1
  simp only [Nat.add_zero] at hst
  rw [hn] at hl
  rw [← hsz] at hl
  simp [Builtin.copy_, run_underlying ht, Builtin.lenOf, Builtin.firstCells, sizeOf, typeInfo, hi, hl, hst]
theorem run_clear_row (t ty e : TypeId) (i : TypeInfo) (z : Value) (o n c : Nat) (ht : P.underlying t = some (.slice e)) (hi : P.info? e = some i) (hz : i.zero = some z) (hn : 0 < n) (hB : BlkIs w g T L)
    (hfit : o + (Builtin.zeroCells z.cells n).toList.length ≤ L.length) (h1 : ∀ v ∈ (Builtin.zeroCells z.cells n).toList, v.oneCell' = true) :
    (Builtin.clear_ #[t] ty #[.slice (some ⟨g, o, none⟩) n c]).run P w = .ok (.tuple #[]) (w.setRow g (L.take o ++ (Builtin.zeroCells z.cells n).toList ++ L.drop (o + (Builtin.zeroCells z.cells n).toList.length)).toArray) := by
  have hst := run_storeCells_at P g o T (Builtin.zeroCells z.cells n).toList 0 L.toArray w hB (by simpa using hfit) h1
  simp only [Nat.add_zero] at hst
  obtain ⟨m, rfl⟩ : ∃ m, n = m + 1 := ⟨n - 1, by omega⟩
  simp [Builtin.clear_, run_underlying ht, zeroValue, typeInfo, hi, hz, hst]
theorem zero_len (z : Value) (n : Nat) : (Builtin.zeroCells z.cells n).toList.length = n * z.cells.size := by simp [Builtin.zeroCells]
theorem zero_one {z : Value} (n : Nat) (h : ∀ k, k < z.cells.size → (z.cells[k]!).oneCell' = true) : ∀ v ∈ (Builtin.zeroCells z.cells n).toList, v.oneCell' = true := by
  intro v hv
  simp only [Builtin.zeroCells, Array.toList_map, List.mem_map] at hv
  obtain ⟨k, hk, rfl⟩ := hv
  have hp : 0 < z.cells.size := by
    rcases Nat.eq_zero_or_pos z.cells.size with e | e
    · rw [e] at hk; simp at hk
    · exact e
  exact h _ (Nat.mod_lt _ hp)
end
end Go.Proofs.Ytnmknkdbeccmhaa
namespace Go.Proofs.Ytnmknkdbeccmhaa
open Go.RowKit
set_option linter.unusedSimpArgs false
set_option linter.unusedVariables false

theorem put_lists {α : Type} (L F X : List α) (p q m : Nat) (hL : p + q + m ≤ L.length) (hF : L.take (p + q) = F) (hX : X.length = m) (M1 M2 : List α) (h1 : M1 = L.take (p + m) ++ (L.drop p).take q ++ L.drop (p + m + q)) (h2 : M2 = M1.take p ++ X ++ M1.drop (p + m)) :
    M1.length = L.length ∧ M2.length = L.length ∧ M2.take (p + q + m) = F.take p ++ X ++ F.drop p := by
  have l1 : (L.take (p + m)).length = p + m := by rw [List.length_take]; omega
  have l2 : ((L.drop p).take q).length = q := by rw [List.length_take, List.length_drop]; omega
  have e1 : M1.take p = L.take p := by
    rw [h1, List.append_assoc, List.take_append_of_le_length (by rw [l1]; omega), List.take_take, Nat.min_eq_left (by omega)]
  have e2 : M1.drop (p + m) = (L.drop p).take q ++ L.drop (p + m + q) := by
    rw [h1, List.append_assoc, List.drop_left' l1]
  have e3 : M1.length = L.length := by rw [h1, List.length_append, List.length_append, l1, l2, List.length_drop]; omega
  have l3 : (L.take p ++ X ++ (L.drop p).take q).length = p + q + m := by rw [List.length_append, List.length_append, List.length_take, hX, l2]; omega
  have e4 : M2 = (L.take p ++ X ++ (L.drop p).take q) ++ L.drop (p + m + q) := by rw [h2, e1, e2]; simp
  refine ⟨e3, ?_, ?_⟩
  · rw [e4, List.length_append, l3, List.length_drop]; omega
  · rw [e4, List.take_left' l3, ← hF, List.take_take, Nat.min_eq_left (by omega), List.drop_take]
    congr 2
    omega
theorem flat_take {α : Type} {n : Nat} {cs : α → List Value} (hn : ∀ x, (cs x).length = n) (xs : List α) (k : Nat) : (xs.flatMap cs).take (k * n) = (xs.take k).flatMap cs := by
  induction xs generalizing k with
  | nil => simp
  | cons x xs ih =>
    cases k with
    | zero => simp
    | succ k =>
      rw [List.flatMap_cons, List.take_succ_cons, List.flatMap_cons, ← ih k, List.take_append, List.take_of_length_le (by rw [hn, Nat.add_mul]; omega), hn]
      congr 2
      rw [Nat.add_mul]; omega
theorem flat_drop {α : Type} {n : Nat} {cs : α → List Value} (hn : ∀ x, (cs x).length = n) (xs : List α) (k : Nat) : (xs.flatMap cs).drop (k * n) = (xs.drop k).flatMap cs := by
  induction xs generalizing k with
  | nil => simp
  | cons x xs ih =>
    cases k with
    | zero => simp
    | succ k =>
      rw [List.flatMap_cons, List.drop_succ_cons, ← ih k, List.drop_append, List.drop_of_length_le (by rw [hn, Nat.add_mul]; omega), hn, List.nil_append]
      congr 1
      rw [Nat.add_mul]; omega
theorem flat_put {α : Type} {n : Nat} {cs : α → List Value} (hn : ∀ x, (cs x).length = n) (xs : List α) (x : α) (k : Nat) : (xs.flatMap cs).take (k * n) ++ cs x ++ (xs.flatMap cs).drop (k * n) = (putIn k [x] xs).flatMap cs := by
  rw [flat_take hn, flat_drop hn]
  simp [putIn]
/-- The same where a new row is made: z the zeros. -/
theorem put_new {α : Type} (F X Z : List α) (p q m : Nat) (hF : F.length = p + q) (hX : X.length = m) (hZ : q + m ≤ Z.length) (M1 M2 : List α) (h1 : M1 = (F.take p ++ Z).take p ++ X ++ (F.take p ++ Z).drop (p + m)) (h2 : M2 = M1.take (p + m) ++ F.drop p ++ M1.drop (p + m + q)) :
    M1.length = p + Z.length ∧ M2.length = p + Z.length ∧ M2.take (p + q + m) = F.take p ++ X ++ F.drop p := by
  have l0 : (F.take p).length = p := by rw [List.length_take]; omega
  have e0 : M1 = F.take p ++ X ++ Z.drop m := by rw [h1, List.take_left' l0, List.drop_append, l0]; simp [List.drop_of_length_le (show (F.take p).length ≤ p + m by omega)]
  have l1 : (F.take p ++ X).length = p + m := by rw [List.length_append, l0, hX]
  have e1 : M1.take (p + m) = F.take p ++ X := by rw [e0, List.take_left' l1]
  have e2 : M1.length = p + Z.length := by rw [e0, List.length_append, l1, List.length_drop]; omega
  have l2 : (F.take p ++ X ++ F.drop p).length = p + m + q := by rw [List.length_append, l1, List.length_drop]; omega
  refine ⟨e2, ?_, ?_⟩
  · rw [h2, e1, List.length_append, l2, List.length_drop, e2]; omega
  · rw [h2, e1, show p + q + m = p + m + q by omega, List.take_left' l2]
theorem own_cells_one {α : Type} {n N : Nat} {cs : α → List Value} {xs : List α} {L : List Value} (h : L.take (N * n) = xs.flatMap cs) (h1 : ∀ x, ∀ u ∈ cs x, u.oneCell' = true) {p q : Nat} (hq : p + q ≤ N * n) {v : Value} (hv : v ∈ (L.drop p).take q) : v.oneCell' = true := by
  have hm : v ∈ L.take (N * n) := by
    rw [List.mem_iff_getElem?] at hv ⊢
    obtain ⟨j, hj⟩ := hv
    rw [List.getElem?_take] at hj
    split at hj
    · rename_i hlt
      rw [List.getElem?_drop] at hj
      exact ⟨p + j, by rw [List.getElem?_take, if_pos (by omega)]; exact hj⟩
    · cases hj
  rw [h] at hm
  obtain ⟨x, -, hx⟩ := List.mem_flatMap.1 hm
  exact h1 x v hx
/-- An append whose run is known. -/
theorem wpList_append_run {P : Program} {w w' : World} {v' vs vx : Value} {ops : Array Oper} {rest : List Oper} {o : Oper} {a : Act} {Q : Exit → Act → World → Prop} (hgd : o.guard = none) (s x : Operand) (ts : Array TypeId)
    (ho : o.op = .call { callee := .builtin .append, args := #[s, x], argTypes := ts }) (hs : a.eval s = vs) (hx : a.eval x = vx) (hrun : (Builtin.append_ ts o.type #[vs, vx]).run P w = .ok v' w') (h : wpList P ops Q rest (a.put o.dst v') w') : wpList P ops Q (o :: rest) a w :=
  wpList_plain hgd fun K hK => by
    unfold Oper.wp execOp
    simp only [ho, resolve, invoke, builtin, Sem.run_bind, Sem.run_pure, Result.andThen_ok, List.map_toArray, List.map_cons, List.map_nil, hs, hx, hrun]
    exact hK _ _ h
end Go.Proofs.Ytnmknkdbeccmhaa
namespace Go.Proofs.Ytnmknkdbeccmhaa
open Go.RowKit
set_option linter.unusedSimpArgs false
set_option linter.unusedVariables false

theorem fIdx_first {α : Type} {p : α → Bool} : ∀ {xs : List α} {k i : Nat}, fIdx p xs k = some i → k ≤ i ∧ i - k < xs.length ∧ (xs.take (i - k + 1)).filter (fun x => !p x) = xs.take (i - k)
  | [], _, _, h => by simp [fIdx] at h
  | x :: xs, k, i, h => by
    unfold fIdx at h
    by_cases hx : p x = true
    · rw [if_pos hx] at h
      obtain rfl := Option.some.inj h
      simp [hx]
    · rw [if_neg hx] at h
      obtain ⟨h1, h2, h3⟩ := fIdx_first h
      have e : i - k = (i - (k + 1)) + 1 := by omega
      refine ⟨by omega, by rw [e]; simpa using h2, ?_⟩
      rw [e, List.take_succ_cons, List.take_succ_cons, List.filter_cons, if_pos (by simpa using hx), h3]
theorem fIdx_none_filter {α : Type} {p : α → Bool} {xs : List α} {k : Nat} (h : fIdx p xs k = none) : xs.filter (fun x => !p x) = xs := List.filter_eq_self.2 fun x hx => by rw [fIdx_none h x hx]; rfl
theorem filter_take_succ {α : Type} {q : α → Bool} {xs : List α} {j : Nat} {x : α} (hx : xs[j]? = some x) : (xs.take (j + 1)).filter q = (xs.take j).filter q ++ (if q x then [x] else []) := by
  rw [take_succ_at hx, List.filter_append]
  congr 1
  cases h : q x <;> simp [List.filter_cons, h]

/-- A run of cells stored one behind the other. -/
def cellsSet (g : Nat) : World → Nat → List Value → World
  | w, _, [] => w
  | w, o, v :: vs => cellsSet g (w.setCell ⟨g, o, none⟩ v) (o + 1) vs
theorem cellsSet_blk {g : Nat} {T : TypeId} : ∀ (vs : List Value) (w : World) (o : Nat) (L : List Value), BlkIs w g T L → o + vs.length ≤ L.length → BlkIs (cellsSet g w o vs) g T (L.take o ++ vs ++ L.drop (o + vs.length))
  | [], w, o, L, h, _ => by simpa [cellsSet] using h
  | v :: vs, w, o, L, h, hl => by
    have h1 : BlkIs (w.setCell ⟨g, o, none⟩ v) g T (L.set o v) := by
      have := blk_set h o v
      unfold BlkIs
      rw [this]
      congr 2
      apply Array.ext'
      simp
    have h2 := cellsSet_blk vs _ (o + 1) _ h1 (by simp only [List.length_cons] at hl; rw [List.length_set]; omega)
    have e := list_seg_step L o v vs (by simpa [Nat.add_assoc] using hl)
    rw [e] at h2
    simpa [cellsSet] using h2
theorem cellsSet_grown {g : Nat} : ∀ (vs : List Value) (w : World) (o : Nat), w.grownBy (cellsSet g w o vs) (some g)
  | [], w, _ => World.grownBy.refl w _
  | v :: vs, w, o => grownBy_trans (Keep.set (Keep.refl g w) rfl v) (cellsSet_grown vs _ (o + 1))
/-- A row half struck through: the first i elements are what is kept of the first j; from j on nothing has been done. -/
structure HalfRow {α : Type} (n : Nat) (cs : α → List Value) (p : α → Bool) (xs : List α) (c i j : Nat) (L : List Value) : Prop where
  len : L.length = c * n
  kept : L.take (i * n) = ((xs.take j).filter fun x => !p x).flatMap cs
  cnt : ((xs.take j).filter fun x => !p x).length = i
  rest : (L.drop (j * n)).take ((xs.length - j) * n) = (xs.drop j).flatMap cs
  lt : i < j
  le : j ≤ xs.length
  cap : xs.length ≤ c
section
variable {α : Type} {n : Nat} {cs : α → List Value} {p : α → Bool} {xs : List α} {c i j : Nat} {L : List Value}
theorem HalfRow.start (hn : ∀ x, (cs x).length = n) (hl : L.length = c * n) (hx : L.take (xs.length * n) = xs.flatMap cs) (hc : xs.length ≤ c) (h : fIdx p xs 0 = some i) : HalfRow n cs p xs c i (i + 1) L := by
  obtain ⟨-, h2, h3⟩ := fIdx_first h
  rw [Nat.sub_zero] at h2 h3
  have e1 : (i + 1) * n ≤ xs.length * n := Nat.mul_le_mul_right _ h2
  have e2 : i * n ≤ xs.length * n := Nat.mul_le_mul_right _ (by omega)
  refine ⟨hl, ?_, ?_, ?_, by omega, by omega, hc⟩
  · rw [h3, ← flat_take hn, ← hx, List.take_take, Nat.min_eq_left e2]
  · rw [h3, List.length_take]; omega
  · rw [← flat_drop hn, ← hx, List.drop_take]
    congr 1
    rw [Nat.sub_mul]
theorem HalfRow.at_ (hn : ∀ x, (cs x).length = n) (h : HalfRow n cs p xs c i j L) {x : α} (hx : xs[j]? = some x) {r : Nat} {v : Value} (hv : (cs x)[r]? = some v) : L[j * n + r]? = some v := by
  have hj : j < xs.length := (List.getElem?_eq_some_iff.1 hx).1
  have hr : r < n := by rw [← hn x]; exact (List.getElem?_eq_some_iff.1 hv).1
  have e : (xs.drop j).flatMap cs = cs x ++ (xs.drop (j + 1)).flatMap cs := by rw [drop_at hx, List.flatMap_cons]
  have h1 := h.rest
  rw [e] at h1
  have h2 : ((L.drop (j * n)).take ((xs.length - j) * n))[r]? = some v := by
    rw [h1, List.getElem?_append_left (by rw [hn]; exact hr)]
    exact hv
  rw [List.getElem?_take] at h2
  split at h2
  · rwa [List.getElem?_drop] at h2
  · cases h2
theorem rest_succ (hn : ∀ x, (cs x).length = n) {x : α} (hx : xs[j]? = some x) (h1 : (L.drop (j * n)).take ((xs.length - j) * n) = (xs.drop j).flatMap cs) : (L.drop ((j + 1) * n)).take ((xs.length - (j + 1)) * n) = (xs.drop (j + 1)).flatMap cs := by
  rw [drop_at hx, List.flatMap_cons] at h1
  have h2 := congrArg (List.drop n) h1
  rw [List.drop_left' (hn x)] at h2
  rw [← h2, List.drop_take, List.drop_drop, Nat.add_mul, Nat.one_mul]
  congr 1
  rw [show xs.length - (j + 1) = xs.length - j - 1 by omega, Nat.sub_mul (xs.length - j) 1 n, Nat.one_mul]
theorem HalfRow.strike (h : HalfRow n cs p xs c i j L) (hn : ∀ x, (cs x).length = n) {x : α} (hx : xs[j]? = some x) (hp : p x = true) : HalfRow n cs p xs c i (j + 1) L := by
  have hj : j < xs.length := (List.getElem?_eq_some_iff.1 hx).1
  have ef : (xs.take (j + 1)).filter (fun x => !p x) = (xs.take j).filter (fun x => !p x) := by rw [filter_take_succ hx]; simp [hp]
  refine ⟨h.len, by rw [ef]; exact h.kept, by rw [ef]; exact h.cnt, ?_, by have := h.lt; omega, hj, h.cap⟩
  exact rest_succ hn hx h.rest
theorem HalfRow.keep (h : HalfRow n cs p xs c i j L) (hn : ∀ x, (cs x).length = n) {x : α} (hx : xs[j]? = some x) (hp : p x = false) : HalfRow n cs p xs c (i + 1) (j + 1) (L.take (i * n) ++ cs x ++ L.drop (i * n + (cs x).length)) := by
  have hj : j < xs.length := (List.getElem?_eq_some_iff.1 hx).1
  have hlt := h.lt
  have hcap := h.cap
  have ef : (xs.take (j + 1)).filter (fun x => !p x) = (xs.take j).filter (fun x => !p x) ++ [x] := by rw [filter_take_succ hx]; simp [hp]
  have e1 : (i + 1) * n = i * n + n := Nat.succ_mul i n
  have e2 : (i + 1) * n ≤ j * n := Nat.mul_le_mul_right _ (by omega)
  have e3 : (j + 1) * n = j * n + n := Nat.succ_mul j n
  have e4 : (j + 1) * n ≤ c * n := Nat.mul_le_mul_right _ (by omega)
  have hl := h.len
  have l1 : (L.take (i * n)).length = i * n := by rw [List.length_take]; omega
  have l2 : (L.take (i * n) ++ cs x).length = i * n + n := by rw [List.length_append, l1, hn]
  refine ⟨?_, ?_, ?_, ?_, by omega, hj, hcap⟩
  · rw [List.length_append, l2, List.length_drop, hn]; omega
  · rw [ef, List.flatMap_append, ← h.kept, e1, List.take_left' l2]
    simp
  · rw [ef, List.length_append, h.cnt]; rfl
  · rw [← rest_succ hn hx h.rest]
    congr 1
    rw [List.drop_append, l2, List.drop_of_length_le (by rw [l2]; omega), List.nil_append, List.drop_drop, hn]
    congr 1
    omega
end
end Go.Proofs.Ytnmknkdbeccmhaa
