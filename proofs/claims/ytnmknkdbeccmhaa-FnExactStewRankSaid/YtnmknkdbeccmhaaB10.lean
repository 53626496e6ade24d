/- The walk of the laws' copying of a book. -/
import Derived.Test.YtnmknkdbeccmhaaB8
namespace Go.Proofs.Ytnmknkdbeccmhaa
open Go.RowKit
set_option linter.unusedSimpArgs false

/-- A value that reads as the book b, each of its rows the call's own. -/
def OwnBook (base : Nat) (w : World) (v : Value) (b : Book) : Prop := ∃ v1 v2 v3, v = .agg #[.int .i64 b.now, v1, v2, v3] ∧ w.ownsRow base 83 13 v1 b.svcs.length (b.svcs.flatMap svcC) ∧ w.ownsRow base 65 7 v2 b.cps.length (b.cps.flatMap cpyC) ∧ w.ownsRow base 104 2 v3 b.brs.length (b.brs.flatMap brtC)
def MadeBook (b : Book) (w : World) (e : Ending) (w' : World) : Prop := ∃ v, e = .returned v ∧ OwnBook w.heap.size w' v b ∧ Grow w w'
theorem OwnBook.rows {base : Nat} {w : World} {v : Value} {b : Book} (h : OwnBook base w v b) : ∃ A1 c1 A2 c2 A3 c3, v = .agg #[.int .i64 b.now, .slice A1 b.svcs.length c1, .slice A2 b.cps.length c2, .slice A3 b.brs.length c3] ∧ Rows 13 svcC w A1 b.svcs ∧ Rows 7 cpyC w A2 b.cps ∧ Rows 2 brtC w A3 b.brs := by
  obtain ⟨v1, v2, v3, rfl, h1, h2, h3⟩ := h
  obtain ⟨A1, c1, rfl, -, r1⟩ := own_rows svcC_len rfl h1
  obtain ⟨A2, c2, rfl, -, r2⟩ := own_rows cpyC_len rfl h2
  obtain ⟨A3, c3, rfl, -, r3⟩ := own_rows brtC_len rfl h3
  exact ⟨A1, c1, A2, c2, A3, c3, rfl, r1, r2, r3⟩
theorem own_base {b b' T n N : Nat} {v : Value} {L : List Value} {w : World} (h : w.ownsRow b T n v N L) (hb : b' ≤ b) : w.ownsRow b' T n v N L := by
  refine ⟨h.1, ?_⟩
  rcases h.2 with h0 | ⟨g, cap, cur, e, hg, r⟩
  · exact .inl h0
  · exact .inr ⟨g, cap, cur, e, Nat.le_trans hb hg, r⟩
theorem OwnBook.grow {base : Nat} {w w' : World} {v : Value} {b : Book} (h : OwnBook base w v b) (hg : Grow w w') : OwnBook base w' v b := by
  obtain ⟨v1, v2, v3, e, h1, h2, h3⟩ := h
  exact ⟨v1, v2, v3, e, own_grow h1 hg, own_grow h2 hg, own_grow h3 hg⟩
theorem OwnBook.base {base base' : Nat} {w : World} {v : Value} {b : Book} (h : OwnBook base w v b) (hb : base' ≤ base) : OwnBook base' w v b := by
  obtain ⟨v1, v2, v3, e, h1, h2, h3⟩ := h
  exact ⟨v1, v2, v3, e, own_base h1 hb, own_base h2 hb, own_base h3 hb⟩
theorem heap_alloc3 (w : World) (o1 o2 o3 : Obj) : (((w.alloc o1).alloc o2).alloc o3).heap[w.heap.size]? = some o1 ∧ (((w.alloc o1).alloc o2).alloc o3).heap[w.heap.size + 1]? = some o2 ∧ (((w.alloc o1).alloc o2).alloc o3).heap[w.heap.size + 1 + 1]? = some o3 :=
  ⟨(Below.heap_alloc _ _ _ (by simp; omega)).trans (heap_alloc2 w o1 o2), (Below.heap_alloc _ _ _ (by simp)).trans (heap_alloc2_new w o1 o2), by have := heap_alloc_new ((w.alloc o1).alloc o2) o3; simpa using this⟩
theorem Grow.set {a b : World} (h : Grow a b) {p : Addr} (hp : a.heap.size ≤ p.block) (u : Value) : Grow a (b.setCell p u) := Below.setCell h hp u
theorem blk_set {w : World} {g : Nat} {cs : Array Value} {T : TypeId} (h : w.heap[g]? = some (.cells cs T (0, 0))) (i : Nat) (u : Value) : (w.setCell ⟨g, i, none⟩ u).heap[g]? = some (.cells (cs.setIfInBounds i u) T (0, 0)) := heap_setCell_same w g i cs T u h
theorem blk_far {w : World} {g : Nat} {o : Obj} (h : w.heap[g]? = some o) {p : Addr} (hp : g ≠ p.block) (u : Value) : (w.setCell p u).heap[g]? = some o := (heap_setCell_other w p g u hp).trans h
theorem blk_grow {w w' : World} {g : Nat} {o : Obj} (h : w.heap[g]? = some o) (hg : Grow w w') : w'.heap[g]? = some o := (hg.block g (Array.getElem?_eq_some_iff.1 h).1).trans h
theorem blk_lt {w : World} {g : Nat} {o : Obj} (h : w.heap[g]? = some o) : g < w.heap.size := (Array.getElem?_eq_some_iff.1 h).1
set_option maxRecDepth 100000 in
set_option maxHeartbeats 4000000 in
theorem toStewBook_c (b : Book) {A1 A2 A3 : Option Addr} {c1 c2 c3 : Nat} (w : World) (h1 : Rows 13 svcC w A1 b.svcs) (h2 : Rows 7 cpyC w A2 b.cps) (h3 : Rows 2 brtC w A3 b.brs) (l1 : b.svcs.length ≤ 2000000) (l2 : b.cps.length ≤ 2000000) (l3 : b.brs.length ≤ 2000000) :
    Calls Try.prog 17 #[.agg #[.int .i64 b.now, .slice A1 b.svcs.length c1, .slice A2 b.cps.length c2, .slice A3 b.brs.length c3]] w (MadeBook b w) := by
  have H1 := Lib.hid (fun (w' : World) (hg : Grow w w') => h1.below hg)
  have H2 := Lib.hid (fun (w' : World) (hg : Grow w w') => h2.below hg)
  have H3 := Lib.hid (fun (w' : World) (hg : Grow w w') => h3.below hg)
  clear h1 h2 h3
  go_enter Try.func17, Try.ntmps17
  go_wp2_with fail
  refine (toStewServiceS_c b.svcs l1 _ (H1.out _ ((((Grow.refl w).alloc _).alloc _).alloc _))).mono ?_
  rintro e w1 ⟨v1, rfl, ho1, hg1⟩
  obtain ⟨B1, d1, rfl, -, -⟩ := own_rows svcC_len rfl ho1
  obtain ⟨a1, a2, a3⟩ := heap_alloc3 w _ _ _
  replace a1 := blk_grow a1 hg1
  replace a2 := blk_grow a2 hg1
  replace a3 := blk_grow a3 hg1
  have G1 := Lib.hid (((((Grow.refl w).alloc _).alloc _).alloc _).trans hg1)
  have O1 := Lib.hid (own_base (b' := w.heap.size + 3) ho1 (by simp))
  clear ho1 hg1
  have A1' := Lib.hid a1
  have A2' := Lib.hid a2
  have A3' := Lib.hid a3
  have q1 := cell_of_row w1 _ 1 _ _ _ a3
  have q2 := frozen_of_row w1 _ 1 _ _ a3
  have q3 := cell_of_row w1 _ 2 _ _ _ a1
  clear a1 a2 a3
  go_wp2_with fail
  refine (toStewCopyS_c b.cps l2 _ (H2.out _ (G1.out.set (by simp; omega) _))).mono ?_
  rintro e w2 ⟨v2, rfl, ho2, hg2⟩
  obtain ⟨B2, d2, rfl, -, -⟩ := own_rows cpyC_len rfl ho2
  have G2 := Lib.hid ((G1.out.set (p := ⟨w.heap.size + 1 + 1, 1, none⟩) (by simp; omega) _).trans hg2)
  have O12 := Lib.hid (own_grow (ownsRow_setCell_below O1.out (a := ⟨w.heap.size + 1 + 1, 1, none⟩) (by simp) _) hg2)
  have O2 := Lib.hid (own_base (b' := w.heap.size + 3) ho2 (by have := blk_lt A3'.out; simp; omega))
  have a1 := blk_grow (blk_far A1'.out (p := ⟨w.heap.size + 1 + 1, 1, none⟩) (by simp <;> omega) _) hg2
  have a2 := blk_grow (blk_far A2'.out (p := ⟨w.heap.size + 1 + 1, 1, none⟩) (by simp <;> omega) _) hg2
  have a3 := blk_grow (blk_set A3'.out 1 _) hg2
  clear ho2 hg2 q1 q2 q3 O1 A1' A2' A3' G1
  have A1' := Lib.hid a1
  have A2' := Lib.hid a2
  have A3' := Lib.hid a3
  have q1 := cell_of_row w2 _ 2 _ _ _ a3
  have q2 := frozen_of_row w2 _ 2 _ _ a3
  have q3 := cell_of_row w2 _ 3 _ _ _ a1
  clear a1 a2 a3
  go_wp2_with fail
  refine (toStewBerthS_c b.brs l3 _ (H3.out _ (G2.out.set (by simp; omega) _))).mono ?_
  rintro e w3 ⟨v3, rfl, ho3, hg3⟩
  obtain ⟨B3, d3, rfl, -, -⟩ := own_rows brtC_len rfl ho3
  have G3 := Lib.hid ((G2.out.set (p := ⟨w.heap.size + 1 + 1, 2, none⟩) (by simp; omega) _).trans hg3)
  have O13 := Lib.hid (own_grow (ownsRow_setCell_below O12.out (a := ⟨w.heap.size + 1 + 1, 2, none⟩) (by simp) _) hg3)
  have O23 := Lib.hid (own_grow (ownsRow_setCell_below O2.out (a := ⟨w.heap.size + 1 + 1, 2, none⟩) (by simp) _) hg3)
  have O3 := Lib.hid (own_base (b' := w.heap.size + 3) ho3 (by have := blk_lt A3'.out; simp; omega))
  have a2 := blk_grow (blk_far A2'.out (p := ⟨w.heap.size + 1 + 1, 2, none⟩) (by simp) _) hg3
  have a3 := blk_grow (blk_set A3'.out 2 _) hg3
  clear ho3 hg3 q1 q2 q3 O12 O2 A1' A2' A3' G2
  have p0 := cell_of_row w3 _ 0 _ _ _ a3
  have p1 := cell_of_row w3 _ 1 _ _ _ a3
  have p2 := cell_of_row w3 _ 2 _ _ _ a3
  have p3 := cell_of_row w3 _ 3 _ _ _ a3
  have q3 := frozen_of_row w3 _ 3 _ _ a3
  have r0 := cell_of_row w3 _ 0 _ _ _ a2
  have r1 := cell_of_row w3 _ 1 _ _ _ a2
  have r2 := cell_of_row w3 _ 2 _ _ _ a2
  have r3 := cell_of_row w3 _ 3 _ _ _ a2
  have z0 := frozen_of_row w3 _ 0 _ _ a2
  have z1 := frozen_of_row w3 _ 1 _ _ a2
  have z2 := frozen_of_row w3 _ 2 _ _ a2
  have z3 := frozen_of_row w3 _ 3 _ _ a2
  clear a2 a3
  go_wp2
  refine bodyPost_ret (v := .agg #[.int .i64 b.now, .slice B1 b.svcs.length d1, .slice B2 b.cps.length d2, .slice B3 b.brs.length d3]) (by simp [results, Try.results17, go_sem, r0, r1, r2, r3, p0, p1, p2, p3]) rfl ⟨_, rfl, ⟨_, _, _, rfl, ?_, ?_, ?_⟩, ?_⟩
  · refine own_base (b := w.heap.size + 3) ?_ (by omega)
    repeat (refine ownsRow_setCell_below ?_ (by simp <;> omega) _)
    exact O13.out
  · refine own_base (b := w.heap.size + 3) ?_ (by omega)
    repeat (refine ownsRow_setCell_below ?_ (by simp <;> omega) _)
    exact O23.out
  · refine own_base (b := w.heap.size + 3) ?_ (by omega)
    repeat (refine ownsRow_setCell_below ?_ (by simp <;> omega) _)
    exact O3.out
  · repeat (refine Grow.set ?_ (by simp <;> omega) _)
    exact G3.out
end Go.Proofs.Ytnmknkdbeccmhaa
