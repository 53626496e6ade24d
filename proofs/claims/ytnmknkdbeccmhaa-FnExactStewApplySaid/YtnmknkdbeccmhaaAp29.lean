/- The walks of StewApply, the reference's and the program's. A region in whatever order, of reads, calls that make memory, boxes made and filled, writes to known places: what each operation leaves stands while its own blocks do. -/
import Derived.Test.YtnmknkdbeccmhaaAp28
import Derived.Test.YtnmknkdbeccmhaaAp23
import Derived.Test.YtnmknkdbeccmhaaAp27
namespace Go.Proofs.Ytnmknkdbeccmhaa
open Go.RowKit
set_option linter.unusedSimpArgs false
set_option linter.unusedVariables false
set_option maxRecDepth 1000000
set_option maxHeartbeats 8000000
/-- A book and a code that the call has made: the book lies in memory of its own. -/
def MadeTwo (r : Book × Int) (w : World) (e : Ending) (w' : World) : Prop := ∃ v, e = .returned (.tuple #[v, .int .i64 r.2]) ∧ OwnBook w.heap.size w' v r.1 ∧ Grow w w'
theorem own_none (base : Nat) (w : World) : OwnBook base w (.agg #[.int .i64 0, .slice none 0 0, .slice none 0 0, .slice none 0 0]) book0 := ⟨_, _, _, rfl, World.ownsRow_nil w base _ _, World.ownsRow_nil w base _ _, World.ownsRow_nil w base _ _⟩
theorem ret_two {e : Ending} {w w' : World} {r : Book × Int} {v : Value} {z : Int} (he : e = .returned (.tuple #[v, .int .i64 z])) (hz : z = r.2) (ho : OwnBook w.heap.size w' v r.1) (hg : Grow w w') : MadeTwo r w e w' := by
  subst hz; exact ⟨v, he, ho, hg⟩
theorem own_after {lo base k : Nat} {w : World} {v1 v2 v3 x0 x1 x2 x3 : Value} {b : Book} (h : Rows3 lo w v1 v2 v3 b) (hk : k < lo) (hb : base ≤ lo) :
    OwnBook base ((((w.setCell ⟨k, 0, none⟩ x0).setCell ⟨k, 1, none⟩ x1).setCell ⟨k, 2, none⟩ x2).setCell ⟨k, 3, none⟩ x3) (.agg #[.int .i64 b.now, v1, v2, v3]) b := by
  refine ⟨v1, v2, v3, rfl, own_base (b := lo) ?_ hb, own_base (b := lo) ?_ hb, own_base (b := lo) ?_ hb⟩
  · repeat (refine ownsRow_setCell_below ?_ hk _)
    exact h.r1
  · repeat (refine ownsRow_setCell_below ?_ hk _)
    exact h.r2
  · repeat (refine ownsRow_setCell_below ?_ hk _)
    exact h.r3
theorem applyB_no {b : Book} {a : SAct} (h : valid b = false) : applyB b a = (book0, 1) := by unfold applyB; rw [if_neg (by simp [h])]
theorem applyB_yes {b : Book} {a : SAct} (h : valid b = true) : applyB b a = actV b a := if_pos h
theorem specApply_c (b : Book) (a : SAct) {A A1 A2 A3 : Option Addr} {c c1 c2 c3 : Nat} (w : World) (h1 : Rows 13 svcC w A1 b.svcs) (h2 : Rows 7 cpyC w A2 b.cps) (h3 : Rows 2 brtC w A3 b.brs) (h4 : Rows 2 endC w A a.ends) (l1 : b.svcs.length ≤ 2000000) (l2 : b.cps.length ≤ 2000000) (l3 : b.brs.length ≤ 2000000) (l4 : a.ends.length ≤ 2000000) :
    Calls Try.prog 41 #[.agg #[.int .i64 b.now, .slice A1 b.svcs.length c1, .slice A2 b.cps.length c2, .slice A3 b.brs.length c3], .agg #[.string a.service, .int .i64 a.version, .int .i64 a.create, .int .i64 a.want, .int .i64 a.cool, .bool a.scale, .slice A a.ends.length c, .bool a.drop]] w (MadeTwo (applyB b a) w) := by
  have R1 := Lib.hid (fun (w' : World) (hg : Grow w w') => h1.below hg)
  have R2 := Lib.hid (fun (w' : World) (hg : Grow w w') => h2.below hg)
  have R3 := Lib.hid (fun (w' : World) (hg : Grow w w') => h3.below hg)
  have R4 := Lib.hid (fun (w' : World) (hg : Grow w w') => h4.below hg)
  clear h1 h2 h3 h4
  go_enter Try.func41, Try.ntmps41
  go_upto_region 1 with fail
  refine rename ?_
  intro W hW
  have G := Lib.hid (show Grow w W from grow_eq hW (by (repeat (first | with_reducible exact Grow.refl _ | with_reducible assumption | with_reducible refine Grow.drew ?_ | with_reducible refine Grow.alloc ?_ _ | (with_reducible refine Grow.set ?_ ?_ _; rotate_left; (first | (dsimp only; omega) | (simp <;> omega)))))))
  have SW := Lib.hid (show W.heap.size = w.heap.size + 3 by rw [hW.out]; simp)
  obtain ⟨a1, a2, a3⟩ := heap_alloc3 w _ _ _
  have X1 := Lib.hid (heap_eq hW a1)
  have X2 := Lib.hid (heap_eq hW a2)
  have X3 := Lib.hid (heap_eq hW a3)
  clear hW a1 a2 a3
  obtain ⟨x0, x1, x2, x3⟩ := box4 X1.out
  have z0 := cell_of_row W _ 0 _ _ _ X3.out
  have z1 := cell_of_row W _ 1 _ _ _ X3.out
  have z2 := cell_of_row W _ 2 _ _ _ X3.out
  have z3 := cell_of_row W _ 3 _ _ _ X3.out
  have zf0 := frozen_of_row W _ 0 _ _ X3.out
  have zf1 := frozen_of_row W _ 1 _ _ X3.out
  have zf2 := frozen_of_row W _ 2 _ _ X3.out
  have zf3 := frozen_of_row W _ 3 _ _ X3.out
  rcases hv : valid b
  · have HR := Lib.hid (applyB_no (a := a) hv)
    go_wp2_with (go_at_call 16; refine (specValid_c b W (R1.out _ G.out) (R2.out _ G.out) (R3.out _ G.out) l1 l2 l3).mono ?_; rw [hv]; rintro e w1 ⟨rfl, hg1⟩; have Z1 := blk_grow X3.out hg1; have y0 := cell_of_row w1 _ 0 _ _ _ Z1; have y1 := cell_of_row w1 _ 1 _ _ _ Z1; have y2 := cell_of_row w1 _ 2 _ _ _ Z1; have y3 := cell_of_row w1 _ 3 _ _ _ Z1; have yf0 := frozen_of_row w1 _ 0 _ _ Z1; have yf1 := frozen_of_row w1 _ 1 _ _ Z1; have yf2 := frozen_of_row w1 _ 2 _ _ Z1; have yf3 := frozen_of_row w1 _ 3 _ _ Z1)
    refine bodyPost_ret (v := .tuple #[.agg #[.int .i64 0, .slice none 0 0, .slice none 0 0, .slice none 0 0], .int .i64 1]) (by simp [results, Try.results41, go_sem, y0, y1, y2, y3]) rfl ?_
    refine ret_two rfl (by rw [HR.out]) (by rw [HR.out]; exact own_none _ _) ?_
    (repeat (refine Grow.set ?_ (by simp <;> omega) _)); exact G.out.trans hg1
  · have HR := Lib.hid (applyB_yes (a := a) hv)
    have HF := Lib.hid (fit_of_valid hv)
    have HS := Lib.hid (actV_sized (a := a) (fit_of_valid hv))
    have HV := Lib.hid hv
    go_wp2_with fail
    refine (specValid_c b W (R1.out _ G.out) (R2.out _ G.out) (R3.out _ G.out) l1 l2 l3).mono ?_
    rw [hv]
    rintro e w1 ⟨rfl, hg1⟩
    have G1 := Lib.hid (G.out.trans hg1)
    have Y1 := Lib.hid (blk_grow X1.out hg1)
    have Y2 := Lib.hid (blk_grow X2.out hg1)
    have Y3 := Lib.hid (blk_grow X3.out hg1)
    clear x0 x1 x2 x3 z0 z1 z2 z3 zf0 zf1 zf2 zf3 hg1 hv
    have x0 := cell_of_row w1 _ 0 _ _ _ Y1.out
    have x1 := cell_of_row w1 _ 1 _ _ _ Y1.out
    have x2 := cell_of_row w1 _ 2 _ _ _ Y1.out
    have x3 := cell_of_row w1 _ 3 _ _ _ Y1.out
    have y0 := cell_of_row w1 _ 0 _ _ _ Y2.out
    have y1 := cell_of_row w1 _ 1 _ _ _ Y2.out
    have y2 := cell_of_row w1 _ 2 _ _ _ Y2.out
    have y3 := cell_of_row w1 _ 3 _ _ _ Y2.out
    have y4 := cell_of_row w1 _ 4 _ _ _ Y2.out
    have y5 := cell_of_row w1 _ 5 _ _ _ Y2.out
    have y6 := cell_of_row w1 _ 6 _ _ _ Y2.out
    have y7 := cell_of_row w1 _ 7 _ _ _ Y2.out
    go_wp2_with fail
    refine (l4Apply_c b a w1 HV.out (R1.out _ G1.out) (R2.out _ G1.out) (R3.out _ G1.out) (R4.out _ G1.out) l4).mono ?_
    rintro e w2 ⟨v, rfl, ⟨B1, d1, B2, d2, B3, d3, rfl, r1, r2, r3⟩, hg2⟩
    have G2 := Lib.hid (G1.out.trans hg2)
    have Y3 := Lib.hid (blk_grow Y3.out hg2)
    have P := Lib.hid (show Rows 13 svcC w2 B1 (actV b a).1.svcs ∧ Rows 7 cpyC w2 B2 (actV b a).1.cps ∧ Rows 2 brtC w2 B3 (actV b a).1.brs from ⟨r1, r2, r3⟩)
    clear x0 x1 x2 x3 y0 y1 y2 y3 y4 y5 y6 y7 hg2 r1 r2 r3
    go_wp2_with fail
    refine (l1Book_c (actV b a).1 _ (P.out.1.below (by (repeat (first | with_reducible exact Grow.refl _ | with_reducible assumption | with_reducible refine Grow.drew ?_ | with_reducible refine Grow.alloc ?_ _ | (with_reducible refine Grow.set ?_ ?_ _; rotate_left; (first | (dsimp only; omega) | (simp <;> omega))))))) (P.out.2.1.below (by (repeat (first | with_reducible exact Grow.refl _ | with_reducible assumption | with_reducible refine Grow.drew ?_ | with_reducible refine Grow.alloc ?_ _ | (with_reducible refine Grow.set ?_ ?_ _; rotate_left; (first | (dsimp only; omega) | (simp <;> omega))))))) (P.out.2.2.below (by (repeat (first | with_reducible exact Grow.refl _ | with_reducible assumption | with_reducible refine Grow.drew ?_ | with_reducible refine Grow.alloc ?_ _ | (with_reducible refine Grow.set ?_ ?_ _; rotate_left; (first | (dsimp only; omega) | (simp <;> omega))))))) HS.out.1 HS.out.2.1 HS.out.2.2).mono ?_
    rintro e w3 ⟨v, rfl, ho, hg3⟩
    obtain ⟨E1, f1, E2, f2, E3, f3, rfl, h3⟩ := three_own ho
    have G3 := Lib.hid (G2.out.trans (Grow.trans (show Grow w2 _ by (repeat (first | with_reducible exact Grow.refl _ | with_reducible assumption | with_reducible refine Grow.drew ?_ | with_reducible refine Grow.alloc ?_ _ | (with_reducible refine Grow.set ?_ ?_ _; rotate_left; (first | (dsimp only; omega) | (simp <;> omega)))))) hg3))
    have O3 := Lib.hid (rows_base h3 (show w.heap.size + 3 ≤ _ by have a1 := SW.out; have a2 := G2.out.size; have a3 := Y3.out; have a4 := blk_lt a3; simp; omega))
    have Z3 := blk_grow (show (World.alloc w2 _).heap[w.heap.size + 1 + 1]? = _ from blk_grow Y3.out (by (repeat (first | with_reducible exact Grow.refl _ | with_reducible assumption | with_reducible refine Grow.drew ?_ | with_reducible refine Grow.alloc ?_ _ | (with_reducible refine Grow.set ?_ ?_ _; rotate_left; (first | (dsimp only; omega) | (simp <;> omega))))))) hg3
    have y0 := cell_of_row w3 _ 0 _ _ _ Z3
    have y1 := cell_of_row w3 _ 1 _ _ _ Z3
    have y2 := cell_of_row w3 _ 2 _ _ _ Z3
    have y3 := cell_of_row w3 _ 3 _ _ _ Z3
    have yf0 := frozen_of_row w3 _ 0 _ _ Z3
    have yf1 := frozen_of_row w3 _ 1 _ _ Z3
    have yf2 := frozen_of_row w3 _ 2 _ _ Z3
    have yf3 := frozen_of_row w3 _ 3 _ _ Z3
    have Z4 := Lib.hid Z3
    clear ho hg3 h3 Z3 P
    go_wp2
    refine bodyPost_ret (v := .tuple #[.agg #[.int .i64 (actV b a).1.now, .slice E1 (actV b a).1.svcs.length f1, .slice E2 (actV b a).1.cps.length f2, .slice E3 (actV b a).1.brs.length f3], .int .i64 (actV b a).2]) (by simp [results, Try.results41, go_sem, y0, y1, y2, y3]) rfl ?_
    refine ret_two rfl (by rw [HR.out]) (by rw [HR.out]; exact own_after O3.out (by omega) (by omega)) ?_
    (repeat (refine Grow.set ?_ (by simp <;> omega) _)); exact G3.out


theorem implApply_c (b : Book) (a : SAct) {A A1 A2 A3 : Option Addr} {c c1 c2 c3 : Nat} (w : World) (h1 : Rows 13 svcC w A1 b.svcs) (h2 : Rows 7 cpyC w A2 b.cps) (h3 : Rows 2 brtC w A3 b.brs) (h4 : Rows 2 endC w A a.ends) (l1 : b.svcs.length ≤ 2000000) (l2 : b.cps.length ≤ 2000000) (l3 : b.brs.length ≤ 2000000) (l4 : a.ends.length ≤ 2000000) :
    Calls Try.prog 43 #[.agg #[.int .i64 b.now, .slice A1 b.svcs.length c1, .slice A2 b.cps.length c2, .slice A3 b.brs.length c3], .agg #[.string a.service, .int .i64 a.version, .int .i64 a.create, .int .i64 a.want, .int .i64 a.cool, .bool a.scale, .slice A a.ends.length c, .bool a.drop]] w (MadeTwo (applyB b a) w) := by
  have R1 := Lib.hid (fun (w' : World) (hg : Grow w w') => h1.below hg)
  have R2 := Lib.hid (fun (w' : World) (hg : Grow w w') => h2.below hg)
  have R3 := Lib.hid (fun (w' : World) (hg : Grow w w') => h3.below hg)
  have R4 := Lib.hid (fun (w' : World) (hg : Grow w w') => h4.below hg)
  clear h1 h2 h3 h4
  go_enter Try.func43, Try.ntmps43
  go_upto_region 1 with fail
  refine rename ?_
  intro W hW
  have G := Lib.hid (show Grow w W from grow_eq hW (by (repeat (first | with_reducible exact Grow.refl _ | with_reducible assumption | with_reducible refine Grow.drew ?_ | with_reducible refine Grow.alloc ?_ _ | (with_reducible refine Grow.set ?_ ?_ _; rotate_left; (first | (dsimp only; omega) | (simp <;> omega)))))))
  have SW := Lib.hid (show W.heap.size = w.heap.size + 3 by rw [hW.out]; simp)
  obtain ⟨a1, a2, a3⟩ := heap_alloc3 w _ _ _
  have X1 := Lib.hid (heap_eq hW a1)
  have X2 := Lib.hid (heap_eq hW a2)
  have X3 := Lib.hid (heap_eq hW a3)
  clear hW a1 a2 a3
  obtain ⟨x0, x1, x2, x3⟩ := box4 X1.out
  have z0 := cell_of_row W _ 0 _ _ _ X3.out
  have z1 := cell_of_row W _ 1 _ _ _ X3.out
  have z2 := cell_of_row W _ 2 _ _ _ X3.out
  have z3 := cell_of_row W _ 3 _ _ _ X3.out
  have zf0 := frozen_of_row W _ 0 _ _ X3.out
  have zf1 := frozen_of_row W _ 1 _ _ X3.out
  have zf2 := frozen_of_row W _ 2 _ _ X3.out
  have zf3 := frozen_of_row W _ 3 _ _ X3.out
  rcases hv : valid b
  · have HR := Lib.hid (applyB_no (a := a) hv)
    go_wp2_with (go_at_call 18; refine (implValid_c b W (R1.out _ G.out) (R2.out _ G.out) (R3.out _ G.out) l1 l2 l3).mono ?_; rw [hv]; rintro e w1 ⟨rfl, hg1⟩; have Z1 := blk_grow X3.out hg1; have y0 := cell_of_row w1 _ 0 _ _ _ Z1; have y1 := cell_of_row w1 _ 1 _ _ _ Z1; have y2 := cell_of_row w1 _ 2 _ _ _ Z1; have y3 := cell_of_row w1 _ 3 _ _ _ Z1; have yf0 := frozen_of_row w1 _ 0 _ _ Z1; have yf1 := frozen_of_row w1 _ 1 _ _ Z1; have yf2 := frozen_of_row w1 _ 2 _ _ Z1; have yf3 := frozen_of_row w1 _ 3 _ _ Z1)
    refine bodyPost_ret (v := .tuple #[.agg #[.int .i64 0, .slice none 0 0, .slice none 0 0, .slice none 0 0], .int .i64 1]) (by simp [results, Try.results43, go_sem, y0, y1, y2, y3]) rfl ?_
    refine ret_two rfl (by rw [HR.out]) (by rw [HR.out]; exact own_none _ _) ?_
    (repeat (refine Grow.set ?_ (by simp <;> omega) _)); exact G.out.trans hg1
  · have HR := Lib.hid (applyB_yes (a := a) hv)
    have HS := Lib.hid (actV_sized (a := a) (fit_of_valid hv))
    have HV := Lib.hid hv
    obtain ⟨rb, rz, hr⟩ : ∃ rb rz, actV b a = (rb, rz) := ⟨_, _, rfl⟩
    have HRR := Lib.hid hr
    clear hr
    go_wp2_with fail
    refine (implValid_c b W (R1.out _ G.out) (R2.out _ G.out) (R3.out _ G.out) l1 l2 l3).mono ?_
    rw [hv]
    rintro e w1 ⟨rfl, hg1⟩
    have G1 := Lib.hid (G.out.trans hg1)
    have Y1 := Lib.hid (blk_grow X1.out hg1)
    have Y2 := Lib.hid (blk_grow X2.out hg1)
    have Y3 := Lib.hid (blk_grow X3.out hg1)
    clear x0 x1 x2 x3 z0 z1 z2 z3 zf0 zf1 zf2 zf3 hg1 hv
    have x0 := cell_of_row w1 _ 0 _ _ _ Y1.out
    have x1 := cell_of_row w1 _ 1 _ _ _ Y1.out
    have x2 := cell_of_row w1 _ 2 _ _ _ Y1.out
    have x3 := cell_of_row w1 _ 3 _ _ _ Y1.out
    go_wp2_with fail
    refine (clone_c b w1 (R1.out _ G1.out) (R2.out _ G1.out) (R3.out _ G1.out) l1 l2 l3).mono ?_
    rintro e w2 ⟨v, rfl, ho, hg2⟩
    obtain ⟨E1, f1, E2, f2, E3, f3, rfl, h3⟩ := three_own ho
    have G2 := Lib.hid (G1.out.trans hg2)
    have GA := Lib.hid hg2
    have Y2 := Lib.hid (blk_grow Y2.out hg2)
    have O2 := Lib.hid h3
    clear x0 x1 x2 x3 hg2 ho h3
    have y0 := cell_of_row w2 _ 0 _ _ _ Y2.out
    have y1 := cell_of_row w2 _ 1 _ _ _ Y2.out
    have y2 := cell_of_row w2 _ 2 _ _ _ Y2.out
    have y3 := cell_of_row w2 _ 3 _ _ _ Y2.out
    have y4 := cell_of_row w2 _ 4 _ _ _ Y2.out
    have y5 := cell_of_row w2 _ 5 _ _ _ Y2.out
    have y6 := cell_of_row w2 _ 6 _ _ _ Y2.out
    have y7 := cell_of_row w2 _ 7 _ _ _ Y2.out
    have wz := blk_lt Y2.out
    go_wp2_with fail
    obtain ⟨V, hV⟩ : ∃ V, V = w2.alloc (.cells #[.int .i64 b.now, .slice E1 b.svcs.length f1, .slice E2 b.cps.length f2, .slice E3 b.brs.length f3] 34) := ⟨_, rfl⟩
    rw [← hV]
    have GV := Lib.hid (show Grow w2 V by rw [hV]; exact (Grow.refl _).alloc _)
    have XV := Lib.hid (show V.heap[w2.heap.size]? = some (.cells #[.int .i64 b.now, .slice E1 b.svcs.length f1, .slice E2 b.cps.length f2, .slice E3 b.brs.length f3] 34 (0, 0)) by rw [hV]; exact heap_alloc_new _ _)
    have M := Lib.hid (Mine.make O2.out GA.out.size XV.out (Keep.of GV.out))
    clear hV y0 y1 y2 y3 y4 y5 y6 y7
    refine (act_c b a w1 V HV.out (GA.out.trans GV.out) (Nat.le_refl _) M.out (R4.out _ G1.out) l4).mono ?_
    rintro e w3 ⟨rfl, hg3, hok⟩
    rw [HRR.out] at hok ⊢
    have G3 := Lib.hid (G1.out.trans hg3)
    have hg3s := Lib.hid hg3.size
    have Z3 := Lib.hid (blk_grow Y3.out hg3)
    have Z1 := Lib.hid (blk_grow Y1.out hg3)
    have SZ : w.heap.size + 3 ≤ w1.heap.size := by have a1 := SW.out; have a2 := blk_lt Y3.out; omega
    by_cases hz : rz = 0
    · subst hz
      obtain ⟨v1, v2, v3, M3⟩ := hok rfl
      simp only [] at M3
      obtain ⟨q1, p1, rfl, -, -⟩ := own_rows svcC_len rfl M3.rows.r1
      obtain ⟨q2, p2, rfl, -, -⟩ := own_rows cpyC_len rfl M3.rows.r2
      obtain ⟨q3, p3, rfl, -, -⟩ := own_rows brtC_len rfl M3.rows.r3
      obtain ⟨x0, x1, x2, x3⟩ := box4 M3.box
      have y0 := cell_of_row w3 _ 0 _ _ _ Z3.out
      have y1 := cell_of_row w3 _ 1 _ _ _ Z3.out
      have y2 := cell_of_row w3 _ 2 _ _ _ Z3.out
      have y3 := cell_of_row w3 _ 3 _ _ _ Z3.out
      have yf0 := frozen_of_row w3 _ 0 _ _ Z3.out
      have yf1 := frozen_of_row w3 _ 1 _ _ Z3.out
      have yf2 := frozen_of_row w3 _ 2 _ _ Z3.out
      have yf3 := frozen_of_row w3 _ 3 _ _ Z3.out
      have O3 := Lib.hid M3.rows
      clear M3 hok hg3
      go_wp2
      refine bodyPost_ret (v := .tuple #[.agg #[.int .i64 rb.now, .slice q1 rb.svcs.length p1, .slice q2 rb.cps.length p2, .slice q3 rb.brs.length p3], .int .i64 0]) (by simp [results, Try.results43, go_sem, y0, y1, y2, y3]) rfl ?_
      refine ret_two rfl (by rw [HR.out, HRR.out]) (by rw [HR.out, HRR.out]; exact own_after O3.out (by omega) (by omega)) ?_
      (repeat (refine Grow.set ?_ (by simp <;> omega) _)); exact G3.out
    · have hzb : (rz != 0) = true := by simp [hz]
      obtain rfl : rb = b := by have := actV_same (b := b) (a := a) (by rw [HRR.out]; exact hz); rw [HRR.out] at this; exact this
      clear hok hg3
      have x0 := cell_of_row w3 _ 0 _ _ _ Z1.out
      have x1 := cell_of_row w3 _ 1 _ _ _ Z1.out
      have x2 := cell_of_row w3 _ 2 _ _ _ Z1.out
      have x3 := cell_of_row w3 _ 3 _ _ _ Z1.out
      go_wp2_with fail
      refine (clone_c rb w3 (R1.out _ G3.out) (R2.out _ G3.out) (R3.out _ G3.out) l1 l2 l3).mono ?_
      rintro e w4 ⟨v, rfl, ho, hg4⟩
      obtain ⟨q1, p1, q2, p2, q3, p3, rfl, h4⟩ := three_own ho
      have O4 := Lib.hid (rows_base h4 (show w1.heap.size ≤ _ by have := Z3.out; have := hg3s.out; omega))
      have G4 := Lib.hid (G3.out.trans hg4)
      have Z4 := Lib.hid (blk_grow Z3.out hg4)
      have y0 := cell_of_row w4 _ 0 _ _ _ Z4.out
      have y1 := cell_of_row w4 _ 1 _ _ _ Z4.out
      have y2 := cell_of_row w4 _ 2 _ _ _ Z4.out
      have y3 := cell_of_row w4 _ 3 _ _ _ Z4.out
      have yf0 := frozen_of_row w4 _ 0 _ _ Z4.out
      have yf1 := frozen_of_row w4 _ 1 _ _ Z4.out
      have yf2 := frozen_of_row w4 _ 2 _ _ Z4.out
      have yf3 := frozen_of_row w4 _ 3 _ _ Z4.out
      clear ho hg4 h4 x0 x1 x2 x3
      go_wp2
      refine bodyPost_ret (v := .tuple #[.agg #[.int .i64 rb.now, .slice q1 rb.svcs.length p1, .slice q2 rb.cps.length p2, .slice q3 rb.brs.length p3], .int .i64 rz]) (by simp [results, Try.results43, go_sem, y0, y1, y2, y3]) rfl ?_
      refine ret_two rfl (by rw [HR.out, HRR.out]) (by rw [HR.out, HRR.out]; exact own_after O4.out (by omega) (by omega)) ?_
      (repeat (refine Grow.set ?_ (by simp <;> omega) _)); exact G4.out

end Go.Proofs.Ytnmknkdbeccmhaa
namespace Go.Proofs.Ytnmknkdbeccmhaa
open Go.RowKit
set_option linter.unusedSimpArgs false
set_option linter.unusedVariables false
/-- Grown, but for the blocks S. -/
structure GrowBut (S : Nat → Prop) (w w' : World) : Prop where
  os : w'.os = w.os
  tape : w'.tape = w.tape
  output : w'.output = w.output
  size : w.heap.size ≤ w'.heap.size
  block : ∀ k, k < w.heap.size → ¬ S k → w'.heap[k]? = w.heap[k]?
theorem GrowBut.of {S : Nat → Prop} {w w' : World} (h : Grow w w') : GrowBut S w w' := ⟨h.os, h.tape, h.output, h.size, fun k hk _ => h.block k hk⟩
theorem GrowBut.to {S : Nat → Prop} {w w' : World} (h : GrowBut S w w') (hS : ∀ k, ¬ S k) : Grow w w' := ⟨h.os, h.tape, h.output, h.size, fun k hk => h.block k hk (hS k)⟩
theorem GrowBut.grown {S : Nat → Prop} {a b c : World} {r : Option Nat} (h : GrowBut S a b) (hg : b.grownBy c r) (hr : ∀ k, r = some k → a.heap.size ≤ k ∨ S k) : GrowBut S a c :=
  ⟨hg.os.trans h.os, hg.tape.trans h.tape, hg.output.trans h.output, Nat.le_trans h.size hg.size, fun k hk hS => (hg.block k (Nat.lt_of_lt_of_le hk h.size) fun e => by
    rcases hr k e.symm with q | q
    · omega
    · exact hS q).trans (h.block k hk hS)⟩
/-- The region's words: what an operation leaves (Φ), which blocks are its own, what it takes over and what ties it to that, what it writes to of old. -/
structure Says where
  Φ : Nat → Value → World → Prop
  owns : Nat → Value → Nat → Prop
  eats : Nat → Option Nat
  link : Nat → Value → Value → Prop
  wr : Nat → Nat → Prop
structure Says.Ok (s : Says) (W : World) : Prop where
  kept : ∀ i v w w' r, s.Φ i v w → w.grownBy w' r → (∀ k, r = some k → ¬ s.owns i v k ∧ (W.heap.size ≤ k ∨ ∃ j, s.wr j k)) → s.Φ i v w'
  lt : ∀ i v w k, s.Φ i v w → s.owns i v k → W.heap.size ≤ k ∧ k < w.heap.size
  old : ∀ i k, s.wr i k → k < W.heap.size
/-- An operation that takes over waits for what it takes over; it alone does so. -/
def eatsC (l : List Oper) (eats : Nat → Option Nat) (n : Nat) : Bool := (List.range n).all fun i => match eats i with
  | none => true
  | some j => (match l[i]? with | none => false | some o => o.after.any fun e => Region.binds .any e && e.on == j) && (soleB eats n j i && (decide (j < n) && decide (j ≠ i)))
theorem eatsC_spec {l : List Oper} {eats : Nat → Option Nat} {n i j : Nat} {o : Oper} (h : eatsC l eats n = true) (hi : i < n) (ho : l[i]? = some o) (he : eats i = some j) : (∃ e ∈ o.after, Region.binds .any e = true ∧ e.on = j) ∧ soleB eats n j i = true ∧ j < n ∧ j ≠ i := by
  have h1 := List.all_eq_true.1 h i (List.mem_range.2 hi)
  simp only [he, ho, Bool.and_eq_true, decide_eq_true_eq] at h1
  obtain ⟨h2, h3, h5, h6⟩ := h1
  obtain ⟨e, hm, h7⟩ := Array.any_eq_true'.1 h2
  simp only [Bool.and_eq_true, beq_iff_eq] at h7
  exact ⟨⟨e, hm, h7.1, h7.2⟩, h3, h5, h6⟩
/-- Each operation waits for earlier ones alone (of those edges that bind in whatever order). -/
def earlyC (l : List Oper) : Bool := (List.range l.length).all fun i => match l[i]? with | none => true | some o => o.after.all fun e => !Region.binds .any e || decide (e.on < i)
theorem earlyC_spec {l : List Oper} (h : earlyC l = true) {i : Nat} {o : Oper} (ho : l[i]? = some o) : ∀ e ∈ o.after, Region.binds .any e = true → e.on < i := by
  have hl : i < l.length := (List.getElem?_eq_some_iff.1 ho).1
  have h1 := List.all_eq_true.1 h i (List.mem_range.2 hl)
  rw [ho] at h1
  intro e he hb
  have := Array.all_eq_true'.1 h1 e he
  simpa [hb] using this
theorem all_listedC {l : List Oper} (h : earlyC l = true) {d : Array Bool} (hs : d.size = l.length) (hr : Region.ready .any l.toArray d = []) : ∀ i, i < l.length → d.getD i true = true := by
  intro i
  induction i using Nat.strongRecOn with
  | _ i ih =>
    intro hi
    cases hq : d.getD i true with
    | true => rfl
    | false =>
      have hmem : i ∈ Region.ready .any l.toArray d := by
        refine mem_ready.2 ⟨hq, l[i], by simp [hi], fun e he hb => ?_⟩
        have lt := earlyC_spec h (List.getElem?_eq_getElem hi) e he hb
        have h1 := ih e.on lt (by omega)
        rw [Array.getD_eq_getD_getElem?] at h1 ⊢
        rw [Array.getElem?_eq_getElem (by omega)] at h1 ⊢
        exact h1
      rw [hr] at hmem
      cases hmem
/-- Some operation takes over what j left. -/
def ateB (eats : Nat → Option Nat) (n j : Nat) : Bool := (List.range n).any fun k => eats k == some j
theorem ateB_of {eats : Nat → Option Nat} {n j k : Nat} (hk : k < n) (h : eats k = some j) : ateB eats n j = true := List.any_eq_true.2 ⟨k, List.mem_range.2 hk, by simp [h]⟩
theorem region_free {P : Program} {id : Nat} {Q : Exit → Act → World → Prop} {a0 : Act} {W w : World} {l : List Oper} {n : Nat} (s : Says) (hok : s.Ok W) (J : World → Prop) (hJ : J w.drew)
    (jst : ∀ w w' r, J w → GrowBut (fun k => ∃ j, s.wr j k) W w → w.grownBy w' r → (∀ k, r = some k → W.heap.size ≤ k) → J w') (F : (Nat → Value) → Act) (x0 : Nat → Value) (hn : l.length = n)
    (hm : P.follows .mixedOrders = true) (hg : l.all (fun o => o.guard.isNone) = true) (hE : earlyC l = true) (hT : eatsC l s.eats n = true) (hw : Grow W w) (ha : a0 = F x0)
    (hput : ∀ (i : Nat) (o : Oper) (x : Nat → Value) (v : Value), i < n → l[i]? = some o → (F x).put o.dst v = F (fun j => if j = i then v else x j))
    (step : ∀ (i : Nat) (o : Oper) (x : Nat → Value) (w : World), i < n → l[i]? = some o → J w → GrowBut (fun k => ∃ j, s.wr j k) W w →
      (∀ e ∈ o.after, Region.binds .any e = true → soleB s.eats n e.on i = true → s.Φ e.on (x e.on) w) → (∀ e ∈ o.after, Region.binds .any e = true → ∀ j, s.eats e.on = some j → s.link e.on (x e.on) (x j)) →
      (∀ j k, s.eats i = some j → s.owns j (x j) k → ∀ e ∈ o.after, Region.binds .any e = true → e.on ≠ j → soleB s.eats n e.on i = true → ¬ s.owns e.on (x e.on) k) →
      ∀ K : Act → World → Prop, (∀ v w' r, w.grownBy w' r → (r = none ∨ (∃ j k, s.eats i = some j ∧ r = some k ∧ s.owns j (x j) k) ∨ ∃ k, r = some k ∧ s.wr i k ∧ J w') → s.Φ i v w' → (∀ j, s.eats i = some j → s.link i v (x j)) →
        (∀ k, s.owns i v k → w.heap.size ≤ k ∨ (∃ j, s.eats i = some j ∧ s.owns j (x j) k) ∨ ∃ e ∈ o.after, Region.binds .any e = true ∧ ateB s.eats n e.on = false ∧ ateB s.eats n i = false ∧ s.owns e.on (x e.on) k) → K ((F x).put o.dst v) w') → o.wp P (F x) w K Q)
    (fin : ∀ (x : Nat → Value) (w' : World), J w' → GrowBut (fun k => ∃ j, s.wr j k) W w' → (∀ i, i < n → (∀ j, j < n → s.eats j ≠ some i) → s.Φ i (x i) w') → (∀ i j, i < n → s.eats i = some j → s.link i (x i) (x j)) → Q .normal (F x) w') :
    (Code.region id l.toArray true).wp P Q a0 w := by
  refine wp_region_any hm ?_
  refine any_inv (fun d a w' => d.size = l.length ∧ ∃ x, a = F x ∧ GrowBut (fun k => ∃ j, s.wr j k) W w' ∧ J w' ∧ (∀ i o, i < n → l[i]? = some o → d.getD i true = true → ∀ e ∈ o.after, Region.binds .any e = true → d.getD e.on true = true) ∧
    (∀ i, i < n → d.getD i true = true → (∀ j, j < n → s.eats j = some i → d.getD j true = false) → s.Φ i (x i) w') ∧
    (∀ i j, i < n → d.getD i true = true → s.eats i = some j → s.link i (x i) (x j)) ∧
    (∀ i j k, i < n → j < n → i ≠ j → d.getD i true = true → d.getD j true = true → (∀ k, k < n → s.eats k = some i → d.getD k true = false) → (∀ k, k < n → s.eats k = some j → d.getD k true = false) → ateB s.eats n j = true → s.owns i (x i) k → ¬ s.owns j (x j) k)) ?_ ?_ _ _ _ _ (by simp) ?_ ⟨by simp, x0, ha, (GrowBut.of hw.drew), hJ, fun i o hi ho h => ?_, fun i hi h => ?_, fun i j hi h => ?_, fun i j k hi hj hij h => ?_⟩
  · rintro d a w' i ⟨hs, x, rfl, hgw, hj, hclo, hall, hlink, hsep⟩ hi
    obtain ⟨h0, o, ho, hdep⟩ := mem_ready.1 hi
    have ho' : l[i]? = some o := by simpa using ho
    have hl : i < l.length := (List.getElem?_eq_some_iff.1 ho').1
    have hgd : o.guard = none := by
      have := List.all_eq_true.1 hg o (List.mem_of_getElem? ho')
      simpa using this
    have listed : ∀ e ∈ o.after, Region.binds .any e = true → e.on < l.length ∧ d.getD e.on true = true := fun e he hb => by
      have h1 := hdep e he hb
      have hle : e.on < l.length := by
        rcases Nat.lt_or_ge e.on d.size with h | h
        · omega
        · simp [Array.getElem?_eq_none h] at h1
      refine ⟨hle, ?_⟩
      rw [Array.getD_eq_getD_getElem?] at h1 ⊢
      rw [Array.getElem?_eq_getElem (by omega)] at h1 ⊢
      exact h1
    have hin : i < n := by omega
    have fresh : ∀ j, soleB s.eats n j i = true → ∀ k, k < n → s.eats k = some j → d.getD k true = false := fun j hj k hk hek => by
      have := soleB_spec hj k hk hek
      subst this
      exact h0
    have eaten : ∀ j, s.eats i = some j → d.getD j true = true ∧ (∀ k, k < n → s.eats k = some j → d.getD k true = false) ∧ j < n ∧ j ≠ i := fun j hj => by
      obtain ⟨⟨e, he, hb, e2⟩, h2, h4, h5⟩ := eatsC_spec hT hin ho' hj
      exact ⟨by rw [← e2]; exact (listed e he hb).2, fresh _ h2, h4, h5⟩
    have hst := step i o x w' hin ho' hj hgw (fun e he hb hso => hall _ (by have := earlyC_spec hE ho' e he hb; omega) (listed e he hb).2 (fresh _ hso)) (fun e he hb j hj => hlink _ j (by have := earlyC_spec hE ho' e he hb; omega) (listed e he hb).2 hj) (fun j k h1 h2 e he hb hne hso h3 => by
      obtain ⟨q1, q2, q4, -⟩ := eaten j h1
      exact hsep e.on j k (by have := earlyC_spec hE ho' e he hb; omega) q4 hne (listed e he hb).2 q1 (fresh _ hso) q2 (ateB_of hin h1) h3 h2)
    unfold wpOp
    simp only [ho]
    rw [if_pos (by simp [Region.wanted, hgd])]
    refine .inl (hst _ fun v w'' r hg2 hr hv hlk hown => ?_)
    have hrr : ∀ k, r = some k → (W.heap.size ≤ k ∨ ∃ j, s.wr j k) := fun k hk => by
      rcases hr with e | ⟨j, k', h1, h2, h3⟩ | ⟨k', h1, h2, -⟩
      · rw [e] at hk; cases hk
      · rw [h2] at hk; cases hk
        obtain ⟨q1, q2, q4, -⟩ := eaten j h1
        exact .inl (hok.lt j (x j) w' _ (hall j q4 q1 q2) h3).1
      · rw [h1] at hk; cases hk
        exact .inr ⟨_, h2⟩
    have hgr := hgw.grown hg2 hrr
    have hj2 : J w'' := by
      rcases hr with e | ⟨j, k', h1, h2, h3⟩ | ⟨k', h1, h2, h3⟩
      · exact jst _ _ r hj hgw hg2 fun k hk => by rw [e] at hk; cases hk
      · refine jst _ _ r hj hgw hg2 fun k hk => ?_
        rw [h2] at hk; cases hk
        obtain ⟨q1, q2, q4, -⟩ := eaten j h1
        exact (hok.lt j (x j) w' _ (hall j q4 q1 q2) h3).1
      · exact h3
    -- others are apart from what is written
    have apart : ∀ j, j < n → d.getD j true = true → (∀ k, k < n → s.eats k = some j → d.getD k true = false) → s.eats i ≠ some j → ∀ k, r = some k → ¬ s.owns j (x j) k := fun j hj hd hu hne k hk ho2 => by
      rcases hr with e | ⟨j0, k', h1, h2, h3⟩ | ⟨k', h1, h2, -⟩
      · rw [e] at hk; cases hk
      · rw [h2] at hk; cases hk
        obtain ⟨q1, q2, q4, -⟩ := eaten j0 h1
        exact hsep j j0 _ hj q4 (fun e => hne (e ▸ h1)) hd q1 hu q2 (ateB_of hin h1) ho2 h3
      · rw [h1] at hk; cases hk
        have a1 := (hok.lt j (x j) w' _ (hall j hj hd hu) ho2).1
        have a2 := hok.old i k h2
        omega
    have undo : ∀ j, j < n → j ≠ i → (d.setIfInBounds i true).getD j true = true → d.getD j true = true := fun j hj hji h => by
      rwa [getD_set_ne true (Ne.symm hji)] at h
    have uneat : ∀ j, (∀ k, k < n → s.eats k = some j → (d.setIfInBounds i true).getD k true = false) → (∀ k, k < n → s.eats k = some j → d.getD k true = false) ∧ s.eats i ≠ some j := fun j h => by
      have hne : s.eats i ≠ some j := fun e => by
        have := h i hin e
        rw [Array.getD_eq_getD_getElem?, Array.getElem?_setIfInBounds_self_of_lt (by omega)] at this
        cases this
      refine ⟨fun k hk hek => ?_, hne⟩
      have := h k hk hek
      rwa [getD_set_ne true (by rintro rfl; exact hne hek)] at this
    -- what is new is apart from what others have
    have newOwn : ∀ j, j < n → j ≠ i → d.getD j true = true → (∀ k, k < n → s.eats k = some j → d.getD k true = false) → s.eats i ≠ some j → (ateB s.eats n j = true ∨ ateB s.eats n i = true) → ∀ k, s.owns i v k → ¬ s.owns j (x j) k := fun j hj hji hd hu hne hat k hk ho2 => by
      rcases hown k hk with q | ⟨j0, h1, h3⟩ | ⟨e, he, hb, n1, n2, h3⟩
      · have := (hok.lt j (x j) w' k (hall j hj hd hu) ho2).2
        omega
      · obtain ⟨q1, q2, q4, -⟩ := eaten j0 h1
        exact hsep j j0 k hj q4 (fun e => hne (e ▸ h1)) hd q1 hu q2 (ateB_of hin h1) ho2 h3
      · rcases hat with hat | hat
        · obtain ⟨g1, g2⟩ := listed e he hb
          have hen : e.on < n := by have := earlyC_spec hE ho' e he hb; omega
          exact hsep e.on j k hen hj (fun e2 => by rw [e2, hat] at n1; cases n1) g2 hd (fun k hk hek => by rw [ateB_of hk hek] at n1; cases n1) hu hat h3 ho2
        · rw [n2] at hat; cases hat
    refine ⟨by simp [hs], _, hput i o x v hin ho', hgr, hj2, fun j oj hjn hoj hdj ed hed hbd => ?_, fun j hj hd hu => ?_, fun j q hj hd he => ?_, fun j k q hj hk hjk hdj hdk huj huk hat hq => ?_⟩
    · by_cases ej : j = i
      · subst ej
        have eo : oj = o := Option.some.inj (hoj.symm.trans ho')
        subst eo
        exact getD_set_mono (listed ed hed hbd).2
      · exact getD_set_mono (hclo j oj hjn hoj (by rwa [getD_set_ne true (Ne.symm ej)] at hdj) ed hed hbd)
    · by_cases e' : j = i
      · subst e'
        simpa using hv
      · simp only [if_neg e']
        obtain ⟨hu1, hne⟩ := uneat j hu
        have hd' := undo j hj e' hd
        exact hok.kept j _ _ _ r (hall j hj hd' hu1) hg2 fun k hk => ⟨apart j hj hd' hu1 hne k hk, hrr k hk⟩
    · have hqi : j = i → q ≠ i := fun e hqi => by
        subst e
        exact (eaten q he).2.2.2 hqi
      by_cases e' : j = i
      · subst e'
        have := hlk q he
        simp only [if_true, if_neg (hqi rfl)]
        exact this
      · have hd' := undo j hj e' hd
        have h3 := hlink j q hj hd' he
        have hq2 : q ≠ i := fun e => by
          subst e
          have hoj : ∃ oj, l[j]? = some oj := ⟨_, List.getElem?_eq_getElem (by omega)⟩
          obtain ⟨oj, hoj⟩ := hoj
          obtain ⟨⟨ed, hed, hb, e2⟩, -⟩ := eatsC_spec hT hj hoj he
          have := hclo j oj hj hoj hd' ed hed hb
          rw [e2, h0] at this
          cases this
        simp only [if_neg e', if_neg hq2]
        exact h3
    · by_cases ej : j = i
      · subst ej
        have ek : k ≠ j := Ne.symm hjk
        simp only [if_true, if_neg ek] at hq ⊢
        obtain ⟨hu1, hne⟩ := uneat k huk
        exact newOwn k hk ek (undo k hk ek hdk) hu1 hne (.inl hat) q hq
      · by_cases ek : k = i
        · subst ek
          simp only [if_neg ej, if_true] at hq ⊢
          obtain ⟨hu1, hne⟩ := uneat j huj
          intro hq2
          exact newOwn j hj ej (undo j hj ej hdj) hu1 hne (.inr hat) q hq2 hq
        · simp only [if_neg ej, if_neg ek] at hq ⊢
          exact hsep j k q hj hk hjk (undo j hj ej hdj) (undo k hk ek hdk) (uneat j huj).1 (uneat k huk).1 hat hq
  · rintro d a w' ⟨hs, x, rfl, hgw, hj, hclo, hall, hlink, hsep⟩ hds hr
    have hdone := all_listedC hE hs hr
    exact fin x w' hj hgw (fun i hi hne => hall i hi (hdone i (by omega)) fun j hj hej => absurd hej (hne j hj)) (fun i j hi he => hlink i j hi (hdone i (by omega)) he)
  · have : (List.range l.toArray.size).countP (fun j => !((Array.replicate l.toArray.size false).getD j true)) = (List.range l.toArray.size).length := List.countP_eq_length.2 fun j hj => by
      have := List.mem_range.1 hj
      simp at this
      simp [this]
    simpa [countOff] using this
  · simp [show i < l.length by omega] at h
  · simp [show i < l.length by omega] at h
  · simp [show i < l.length by omega] at h
  · simp [show i < l.length by omega] at h
/-! books, acts, pairs of a book and a code that a call has made: what they own -/
def bookOwns (v : Value) (k : Nat) : Prop := ∃ t v1 v2 v3, v = .agg #[t, v1, v2, v3] ∧ (some k = v1.ownBlock ∨ some k = v2.ownBlock ∨ some k = v3.ownBlock)
theorem ownsRow_kept {base T n N : Nat} {v : Value} {L : List Value} {w w' : World} {r : Option Nat} (h : w.ownsRow base T n v N L) (hg : w.grownBy w' r) (hr : ∀ k, r = some k → some k ≠ v.ownBlock) : w'.ownsRow base T n v N L := by
  refine h.kept hg ?_
  cases hq : v.ownBlock with
  | none => exact .inl rfl
  | some k => exact .inr fun e => hr k e.symm hq.symm
theorem OwnBook.kept2 {base : Nat} {w w' : World} {v : Value} {b : Book} {r : Option Nat} (h : OwnBook base w v b) (hg : w.grownBy w' r) (hr : ∀ k, r = some k → ¬ bookOwns v k) : OwnBook base w' v b := by
  obtain ⟨v1, v2, v3, rfl, h1, h2, h3⟩ := h
  exact ⟨v1, v2, v3, rfl, ownsRow_kept h1 hg fun k hk e => hr k hk ⟨_, _, _, _, rfl, .inl e⟩, ownsRow_kept h2 hg fun k hk e => hr k hk ⟨_, _, _, _, rfl, .inr (.inl e)⟩, ownsRow_kept h3 hg fun k hk e => hr k hk ⟨_, _, _, _, rfl, .inr (.inr e)⟩⟩
theorem OwnBook.lt2 {base k : Nat} {w : World} {v : Value} {b : Book} (h : OwnBook base w v b) (ho : bookOwns v k) : base ≤ k ∧ k < w.heap.size := by
  obtain ⟨v1, v2, v3, rfl, h1, h2, h3⟩ := h
  obtain ⟨t, u1, u2, u3, e, ho⟩ := ho
  simp only [Value.agg.injEq, Array.mk.injEq, List.cons.injEq, and_true] at e
  obtain ⟨-, rfl, rfl, rfl⟩ := e
  rcases ho with e | e | e
  · exact h1.lt k e.symm
  · exact h2.lt k e.symm
  · exact h3.lt k e.symm
theorem OwnBook.low {base base' : Nat} {w : World} {v : Value} {b : Book} (h : OwnBook base w v b) (hb : base' ≤ base) : OwnBook base' w v b := by
  obtain ⟨v1, v2, v3, rfl, h1, h2, h3⟩ := h
  exact ⟨v1, v2, v3, rfl, own_base h1 hb, own_base h2 hb, own_base h3 hb⟩
def OwnTwo (base : Nat) (w : World) (v : Value) (r : Book) (z : Int) : Prop := ∃ u, v = .tuple #[u, .int .i64 z] ∧ OwnBook base w u r
def twoOwns (v : Value) (k : Nat) : Prop := ∃ u z, v = .tuple #[u, z] ∧ bookOwns u k
theorem OwnTwo.kept2 {base : Nat} {w w' : World} {v : Value} {b : Book} {z : Int} {r : Option Nat} (h : OwnTwo base w v b z) (hg : w.grownBy w' r) (hr : ∀ k, r = some k → ¬ twoOwns v k) : OwnTwo base w' v b z := by
  obtain ⟨u, rfl, h1⟩ := h
  exact ⟨u, rfl, h1.kept2 hg fun k hk e => hr k hk ⟨_, _, rfl, e⟩⟩
theorem OwnTwo.lt2 {base k : Nat} {w : World} {v : Value} {b : Book} {z : Int} (h : OwnTwo base w v b z) (ho : twoOwns v k) : base ≤ k ∧ k < w.heap.size := by
  obtain ⟨u, rfl, h1⟩ := h
  obtain ⟨u', z', e, ho⟩ := ho
  simp only [Value.tuple.injEq, Array.mk.injEq, List.cons.injEq, and_true] at e
  obtain ⟨rfl, -⟩ := e
  exact h1.lt2 ho
def ptrOwns (v : Value) (k : Nat) : Prop := v = .pointer (some ⟨k, 0, none⟩)
/-- A box with such and such in it. -/
def BoxOf (base T : Nat) (cs : Array Value) (w : World) (v : Value) : Prop := ∃ q, v = .pointer (some ⟨q, 0, none⟩) ∧ base ≤ q ∧ w.heap[q]? = some (.cells cs T (0, 0))
theorem BoxOf.kept2 {base T : Nat} {cs : Array Value} {w w' : World} {v : Value} {r : Option Nat} (h : BoxOf base T cs w v) (hg : w.grownBy w' r) (hr : ∀ k, r = some k → ¬ ptrOwns v k) : BoxOf base T cs w' v := by
  obtain ⟨q, rfl, h1, h2⟩ := h
  exact ⟨q, rfl, h1, (hg.block q (blk_lt h2) fun e => hr q e.symm rfl).trans h2⟩
theorem BoxOf.lt2 {base T k : Nat} {cs : Array Value} {w : World} {v : Value} (h : BoxOf base T cs w v) (ho : ptrOwns v k) : base ≤ k ∧ k < w.heap.size := by
  obtain ⟨q, rfl, h1, h2⟩ := h
  simp only [ptrOwns, Value.pointer.injEq, Option.some.injEq, Addr.mk.injEq, and_true] at ho
  subst ho
  exact ⟨h1, blk_lt h2⟩
theorem grown_none {w w' : World} (h : Grow w w') (r : Option Nat) : w.grownBy w' r := ⟨h.os, h.tape, h.output, h.size, fun k hk _ => h.block k hk⟩
/-- A box filled with a book that a call has made: the pointer, and the book. -/
def Filled (base T : Nat) (w : World) (v : Value) (b : Book) : Prop := ∃ p v1 v2 v3, v = .tuple #[p, .agg #[.int .i64 b.now, v1, v2, v3]] ∧ OwnBook base w (.agg #[.int .i64 b.now, v1, v2, v3]) b ∧ BoxOf base T #[.int .i64 b.now, v1, v2, v3] w p
def filledOwns (v : Value) (k : Nat) : Prop := ∃ p y, v = .tuple #[p, y] ∧ (ptrOwns p k ∨ bookOwns y k)
theorem Filled.kept2 {base T : Nat} {w w' : World} {v : Value} {b : Book} {r : Option Nat} (h : Filled base T w v b) (hg : w.grownBy w' r) (hr : ∀ k, r = some k → ¬ filledOwns v k) : Filled base T w' v b := by
  obtain ⟨p, v1, v2, v3, rfl, h1, h2⟩ := h
  exact ⟨p, v1, v2, v3, rfl, h1.kept2 hg fun k hk e => hr k hk ⟨_, _, rfl, .inr e⟩, h2.kept2 hg fun k hk e => hr k hk ⟨_, _, rfl, .inl e⟩⟩
theorem Filled.lt2 {base T k : Nat} {w : World} {v : Value} {b : Book} (h : Filled base T w v b) (ho : filledOwns v k) : base ≤ k ∧ k < w.heap.size := by
  obtain ⟨p, v1, v2, v3, rfl, h1, h2⟩ := h
  obtain ⟨p', y', e, ho⟩ := ho
  simp only [Value.tuple.injEq, Array.mk.injEq, List.cons.injEq, and_true] at e
  obtain ⟨rfl, rfl⟩ := e
  exact ho.elim h2.lt2 h1.lt2
def actOwns (v : Value) (k : Nat) : Prop := ∃ a0 a1 a2 a3 a4 a5 v6 a7, v = .agg #[a0, a1, a2, a3, a4, a5, v6, a7] ∧ some k = v6.ownBlock
theorem OwnAct.kept2 {base : Nat} {w w' : World} {v : Value} {a : SAct} {r : Option Nat} (h : OwnAct base w v a) (hg : w.grownBy w' r) (hr : ∀ k, r = some k → ¬ actOwns v k) : OwnAct base w' v a := by
  obtain ⟨v6, rfl, h1⟩ := h
  exact ⟨v6, rfl, ownsRow_kept h1 hg fun k hk e => hr k hk ⟨_, _, _, _, _, _, _, _, rfl, e⟩⟩
theorem OwnAct.lt2 {base k : Nat} {w : World} {v : Value} {a : SAct} (h : OwnAct base w v a) (ho : actOwns v k) : base ≤ k ∧ k < w.heap.size := by
  obtain ⟨v6, rfl, h1⟩ := h
  obtain ⟨a0, a1, a2, a3, a4, a5, u6, a7, e, ho⟩ := ho
  simp only [Value.agg.injEq, Array.mk.injEq, List.cons.injEq, and_true] at e
  obtain ⟨-, -, -, -, -, -, rfl, -⟩ := e
  exact h1.lt k ho.symm
theorem OwnAct.low {base base' : Nat} {w : World} {v : Value} {a : SAct} (h : OwnAct base w v a) (hb : base' ≤ base) : OwnAct base' w v a := by
  obtain ⟨v6, rfl, h1⟩ := h
  exact ⟨v6, rfl, own_base h1 hb⟩
theorem ownbook_rows {base : Nat} {w : World} {t v1 v2 v3 : Value} {b : Book} (h : OwnBook base w (.agg #[t, v1, v2, v3]) b) : Rows3 base w v1 v2 v3 b := by
  obtain ⟨u1, u2, u3, e, h1, h2, h3⟩ := h
  simp only [Value.agg.injEq, Array.mk.injEq, List.cons.injEq, and_true] at e
  obtain ⟨-, rfl, rfl, rfl⟩ := e
  exact ⟨h1, h2, h3⟩
theorem own_of {base : Nat} {w : World} {v1 v2 v3 : Value} {b : Book} (h : Rows3 base w v1 v2 v3 b) : OwnBook base w (.agg #[.int .i64 b.now, v1, v2, v3]) b := ⟨v1, v2, v3, rfl, h.r1, h.r2, h.r3⟩
theorem act_own {base : Nat} {w : World} {v : Value} {a : SAct} (h : OwnAct base w v a) : ∃ A c, v = .agg #[.string a.service, .int .i64 a.version, .int .i64 a.create, .int .i64 a.want, .int .i64 a.cool, .bool a.scale, .slice A a.ends.length c, .bool a.drop] ∧ Rows 2 endC w A a.ends := by
  obtain ⟨v6, rfl, h1⟩ := h
  obtain ⟨A, c, rfl, -, r⟩ := own_rows endC_len rfl h1
  exact ⟨A, c, rfl, r⟩
/-- A box filled with the four cells of a book. -/
theorem fill_box {base T k : Nat} {cs : Array Value} {w : World} {b : Book} {v1 v2 v3 : Value} (hs : cs.size = 4) (hq : base ≤ k) (hb : w.heap[k]? = some (.cells cs T (0, 0))) (ho : OwnBook base w (.agg #[.int .i64 b.now, v1, v2, v3]) b) (hne : ¬ bookOwns (.agg #[.int .i64 b.now, v1, v2, v3]) k) :
    Filled base T ((((w.setCell ⟨k, 0, none⟩ (.int .i64 b.now)).setCell ⟨k, 1, none⟩ v1).setCell ⟨k, 2, none⟩ v2).setCell ⟨k, 3, none⟩ v3) (.tuple #[.pointer (some ⟨k, 0, none⟩), .agg #[.int .i64 b.now, v1, v2, v3]]) b ∧
      w.grownBy ((((w.setCell ⟨k, 0, none⟩ (.int .i64 b.now)).setCell ⟨k, 1, none⟩ v1).setCell ⟨k, 2, none⟩ v2).setCell ⟨k, 3, none⟩ v3) (some k) := by
  have K : Keep k w ((((w.setCell ⟨k, 0, none⟩ (.int .i64 b.now)).setCell ⟨k, 1, none⟩ v1).setCell ⟨k, 2, none⟩ v2).setCell ⟨k, 3, none⟩ v3) := Keep.set (Keep.set (Keep.set (Keep.set (Keep.refl k w) rfl _) rfl _) rfl _) rfl _
  refine ⟨⟨_, _, _, _, rfl, ho.kept2 K fun q hq' e => ?_, _, rfl, hq, ?_⟩, K⟩
  · cases hq'; exact hne e
  · have := blk_set (blk_set (blk_set (blk_set hb 0 (.int .i64 b.now)) 1 v1) 2 v2) 3 v3
    obtain ⟨c0, c1, c2, c3, rfl⟩ : ∃ c0 c1 c2 c3, cs = #[c0, c1, c2, c3] := by
      obtain ⟨l⟩ := cs
      match l, hs with
      | [c0, c1, c2, c3], _ => exact ⟨c0, c1, c2, c3, rfl⟩
    exact this
end Go.Proofs.Ytnmknkdbeccmhaa
