/- The law FnExactStewWorldOk: the program's StewWorldOk answers as the reference's, at every world. -/
import Derived.Test.YtnmknkdbeccmhaaB22
namespace Go.Proofs.Ytnmknkdbeccmhaa
open Go.RowKit
set_option linter.unusedSimpArgs false
set_option linter.unusedVariables false
set_option maxRecDepth 100000 in
set_option maxHeartbeats 8000000 in
theorem fnExactStewWorldOk_c (v : Wld) {AP A1 A2 A3 : Option Addr} {cP c1 c2 c3 : Nat} (w : World) (hp : BooksAt w AP v.past) (h1 : Rows 13 svcC w A1 v.book.svcs) (h2 : Rows 7 cpyC w A2 v.book.cps) (h3 : Rows 2 brtC w A3 v.book.brs)
    (lp : v.past.length ≤ 9223372036854775807) (sp : ∀ b ∈ v.past, SmallBook b) (sb : SmallBook v.book) :
    Calls Try.prog 5 #[.agg #[.slice AP v.past.length cP, .int .i64 v.book.now, .slice A1 v.book.svcs.length c1, .slice A2 v.book.cps.length c2, .slice A3 v.book.brs.length c3]] w fun e w' => e = .returned (.bool true) ∧ Grow w w' := by
  have RP := Lib.hid (fun (w' : World) (hg : Grow w w') => hp.below hg)
  have R1 := Lib.hid (fun (w' : World) (hg : Grow w w') => h1.below hg)
  have R2 := Lib.hid (fun (w' : World) (hg : Grow w w') => h2.below hg)
  have R3 := Lib.hid (fun (w' : World) (hg : Grow w w') => h3.below hg)
  have SP := Lib.hid sp
  have SB := Lib.hid sb
  clear hp h1 h2 h3 sp sb
  have ZZ := Lib.hid (fun h => szWld_sized (w := v) (l := 1048576) (by omega) (by omega) h)
  by_cases hz : szWld v 1048576 < 0
  · go_enter Try.func5, Try.ntmps5
    go_wp2_with (go_at_call 20; refine (szStewWorld_c v 1048576 (by omega) (by omega) _ (RP.out _ ((Grow.refl _).alloc _)) (R1.out _ ((Grow.refl _).alloc _)) (R2.out _ ((Grow.refl _).alloc _)) (R3.out _ ((Grow.refl _).alloc _)) lp SP.out SB.out).mono ?_; rintro e w1 ⟨rfl, hg1⟩)
    go_ret
    exact ⟨rfl, ((Grow.refl _).alloc _).trans hg1⟩
  · obtain ⟨m1, m2, m3⟩ := ZZ.out (by omega)
    have np : v.past.length ≤ 2000000 := by omega
    have ns := Lib.hid m2
    have nb := Lib.hid m3
    clear m1 m2 m3
    go_enter Try.func5, Try.ntmps5
    go_wp2_with fail
    refine (szStewWorld_c v 1048576 (by omega) (by omega) _ (RP.out _ ((Grow.refl _).alloc _)) (R1.out _ ((Grow.refl _).alloc _)) (R2.out _ ((Grow.refl _).alloc _)) (R3.out _ ((Grow.refl _).alloc _)) lp SP.out SB.out).mono ?_
    rintro e w1 ⟨rfl, hg1⟩
    have G1 := Lib.hid (((Grow.refl w).alloc _).trans hg1)
    have X1 := Lib.hid (blk_grow (heap_alloc_new w _) hg1)
    clear hg1
    have x0 := cell_of_row w1 _ 0 _ _ _ X1.out
    have x1 := cell_of_row w1 _ 1 _ _ _ X1.out
    have x2 := cell_of_row w1 _ 2 _ _ _ X1.out
    have x3 := cell_of_row w1 _ 3 _ _ _ X1.out
    have x4 := cell_of_row w1 _ 4 _ _ _ X1.out
    go_wp2_with fail
    refine (toStewWorld_c v w1 (RP.out _ G1.out) (R1.out _ G1.out) (R2.out _ G1.out) (R3.out _ G1.out) np ns.out nb.out).mono ?_
    rintro e w2 ⟨u, rfl, ho, hg2⟩
    obtain ⟨BP, dP, B1, d1, B2, d2, B3, d3, rfl, hs⟩ := ho
    have PP := Lib.hid (fun (w' : World) (hg : Grow w2 w') => hs w' (SameFrom.of_grow hg))
    have G2 := Lib.hid (G1.out.trans hg2)
    have X2 := Lib.hid (blk_grow X1.out hg2)
    clear hs hg2 x0 x1 x2 x3 x4 X1
    go_wp2_with fail
    refine (specWorldOk_c v w2 ((PP.out _ (Grow.refl _)).1) ((PP.out _ (Grow.refl _)).2.1) ((PP.out _ (Grow.refl _)).2.2.1) ((PP.out _ (Grow.refl _)).2.2.2) np ns.out nb.out).mono ?_
    rintro e w3 ⟨rfl, hg3⟩
    have G3 := Lib.hid (G2.out.trans hg3)
    have X3 := Lib.hid (blk_grow X2.out hg3)
    clear hg3 PP X2
    have x0 := cell_of_row w3 _ 0 _ _ _ X3.out
    have x1 := cell_of_row w3 _ 1 _ _ _ X3.out
    have x2 := cell_of_row w3 _ 2 _ _ _ X3.out
    have x3 := cell_of_row w3 _ 3 _ _ _ X3.out
    have x4 := cell_of_row w3 _ 4 _ _ _ X3.out
    go_wp2_with fail
    refine (toStewWorld_c v w3 (RP.out _ G3.out) (R1.out _ G3.out) (R2.out _ G3.out) (R3.out _ G3.out) np ns.out nb.out).mono ?_
    rintro e w4 ⟨u, rfl, ho, hg4⟩
    obtain ⟨BP, dP, B1, d1, B2, d2, B3, d3, rfl, hs⟩ := ho
    have PP := Lib.hid (fun (w' : World) (hg : Grow w4 w') => hs w' (SameFrom.of_grow hg))
    have G4 := Lib.hid (G3.out.trans hg4)
    have X4 := Lib.hid (blk_grow X3.out hg4)
    clear hs hg4 x0 x1 x2 x3 x4 X3
    go_wp2_with fail
    refine (implWorldOk_c v _ ((PP.out _ ((Grow.refl _).alloc _)).1) ((PP.out _ ((Grow.refl _).alloc _)).2.1) ((PP.out _ ((Grow.refl _).alloc _)).2.2.1) ((PP.out _ ((Grow.refl _).alloc _)).2.2.2) np ns.out nb.out).mono ?_
    rintro e w5 ⟨rfl, hg5⟩
    have G5 := Lib.hid ((G4.out.alloc _).trans hg5)
    have X5 := Lib.hid (blk_grow ((Below.heap_alloc _ _ _ (blk_lt X4.out)).trans X4.out) hg5)
    have Y5 := Lib.hid (blk_grow (heap_alloc_new w4 _) hg5)
    have QQ := Lib.hid (fun (w' : World) (hg : Grow w5 w') => PP.out w' ((((Grow.refl _).alloc _).trans hg5).trans hg))
    clear hg5 PP X4
    go_wp2_with fail
    have x0 := cell_of_row w5 _ 0 _ _ _ X5.out
    have x1 := cell_of_row w5 _ 1 _ _ _ X5.out
    have x2 := cell_of_row w5 _ 2 _ _ _ X5.out
    have x3 := cell_of_row w5 _ 3 _ _ _ X5.out
    have x4 := cell_of_row w5 _ 4 _ _ _ X5.out
    have y0 := cell_of_row w5 _ 0 _ _ _ Y5.out
    have y1 := cell_of_row w5 _ 1 _ _ _ Y5.out
    have y2 := cell_of_row w5 _ 2 _ _ _ Y5.out
    have y3 := cell_of_row w5 _ 3 _ _ _ Y5.out
    have y4 := cell_of_row w5 _ 4 _ _ _ Y5.out
    go_region_held3 (fun w' => Hid (Grow w5 w') ∧ w'.cell? ⟨w4.heap.size, 0, none⟩ = some (.slice BP v.past.length dP) ∧ w'.cell? ⟨w4.heap.size, 1, none⟩ = some (.int .i64 v.book.now) ∧ w'.cell? ⟨w4.heap.size, 2, none⟩ = some (.slice B1 v.book.svcs.length d1) ∧ w'.cell? ⟨w4.heap.size, 3, none⟩ = some (.slice B2 v.book.cps.length d2) ∧ w'.cell? ⟨w4.heap.size, 4, none⟩ = some (.slice B3 v.book.brs.length d3) ∧
        w'.cell? ⟨w.heap.size, 0, none⟩ = some (.slice AP v.past.length cP) ∧ w'.cell? ⟨w.heap.size, 1, none⟩ = some (.int .i64 v.book.now) ∧ w'.cell? ⟨w.heap.size, 2, none⟩ = some (.slice A1 v.book.svcs.length c1) ∧ w'.cell? ⟨w.heap.size, 3, none⟩ = some (.slice A2 v.book.cps.length c2) ∧ w'.cell? ⟨w.heap.size, 4, none⟩ = some (.slice A3 v.book.brs.length c3))
      (first
        | exact ⟨(Grow.refl _).drew, y0, y1, y2, y3, y4, x0, x1, x2, x3, x4⟩
        | exact ⟨(Grow.refl _).drew.trans hg6, cell_of_row w6 _ 0 _ _ _ Y6, cell_of_row w6 _ 1 _ _ _ Y6, cell_of_row w6 _ 2 _ _ _ Y6, cell_of_row w6 _ 3 _ _ _ Y6, cell_of_row w6 _ 4 _ _ _ Y6, cell_of_row w6 _ 0 _ _ _ X6, cell_of_row w6 _ 1 _ _ _ X6, cell_of_row w6 _ 2 _ _ _ X6, cell_of_row w6 _ 3 _ _ _ X6, cell_of_row w6 _ 4 _ _ _ X6⟩
        | exact ⟨((Grow.refl _).drew.trans hg6).trans hg7, cell_of_row w7 _ 0 _ _ _ Y7, cell_of_row w7 _ 1 _ _ _ Y7, cell_of_row w7 _ 2 _ _ _ Y7, cell_of_row w7 _ 3 _ _ _ Y7, cell_of_row w7 _ 4 _ _ _ Y7, cell_of_row w7 _ 0 _ _ _ X7, cell_of_row w7 _ 1 _ _ _ X7, cell_of_row w7 _ 2 _ _ _ X7, cell_of_row w7 _ 3 _ _ _ X7, cell_of_row w7 _ 4 _ _ _ X7⟩)
      (first
        | (go_at_call 22; refine (toStewWorld_c v _ (RP.out _ G5.out.drew) (R1.out _ G5.out.drew) (R2.out _ G5.out.drew) (R3.out _ G5.out.drew) np ns.out nb.out).mono ?_; rintro e w6 ⟨u, rfl, ho, hg6⟩; obtain ⟨EP, fP, E1, f1, E2, f2, E3, f3, rfl, hs⟩ := ho; have Y6 := blk_grow (w := w5.drew) Y5.out hg6; have X6 := blk_grow (w := w5.drew) X5.out hg6)
        | (go_at_call 24; refine (eqStewWorld_c v _ ((QQ.out _ ((Grow.refl _).drew.trans hg6)).1) ((QQ.out _ ((Grow.refl _).drew.trans hg6)).2.1) ((QQ.out _ ((Grow.refl _).drew.trans hg6)).2.2.1) ((QQ.out _ ((Grow.refl _).drew.trans hg6)).2.2.2) ((hs _ (SameFrom.refl _ _)).1) ((hs _ (SameFrom.refl _ _)).2.1) ((hs _ (SameFrom.refl _ _)).2.2.1) ((hs _ (SameFrom.refl _ _)).2.2.2) np ns.out nb.out).mono ?_; rintro e w7 ⟨rfl, hg7⟩; have Y7 := blk_grow Y6 hg7; have X7 := blk_grow X6 hg7))
    go_wp2
    go_ret
    exact ⟨rfl, ((G5.out.drew).trans hg6).trans hg7⟩
end Go.Proofs.Ytnmknkdbeccmhaa
