/- The law FnExactStewDone: the program's StewDone answers as the reference's, at every book. -/
import Derived.Test.YtnmknkdbeccmhaaB19
import Derived.Test.YtnmknkdbeccmhaaB9
import Derived.Test.YtnmknkdbeccmhaaB10
namespace Go.Proofs.Ytnmknkdbeccmhaa
open Go.RowKit
set_option linter.unusedSimpArgs false
set_option linter.unusedVariables false
set_option maxRecDepth 100000 in
set_option maxHeartbeats 8000000 in
theorem fnExactStewDone_c (b : Book) {A1 A2 A3 : Option Addr} {c1 c2 c3 : Nat} (w : World) (h1 : Rows 13 svcC w A1 b.svcs) (h2 : Rows 7 cpyC w A2 b.cps) (h3 : Rows 2 brtC w A3 b.brs)
    (l1 : b.svcs.length ≤ 9223372036854775807) (l2 : b.cps.length ≤ 9223372036854775807) (l3 : b.brs.length ≤ 9223372036854775807) (s1 : SmallSvc b.svcs) (s2 : SmallCpy b.cps) (s3 : SmallBrt b.brs) :
    Calls Try.prog 8 #[.agg #[.int .i64 b.now, .slice A1 b.svcs.length c1, .slice A2 b.cps.length c2, .slice A3 b.brs.length c3]] w fun e w' => e = .returned (.bool true) ∧ Grow w w' := by
  have R1 := Lib.hid (fun (w' : World) (hg : Grow w w') => h1.below hg)
  have R2 := Lib.hid (fun (w' : World) (hg : Grow w w') => h2.below hg)
  have R3 := Lib.hid (fun (w' : World) (hg : Grow w w') => h3.below hg)
  have S1 := Lib.hid s1
  have S2 := Lib.hid s2
  have S3 := Lib.hid s3
  clear h1 h2 h3 s1 s2 s3
  obtain ⟨z1, z2, z3⟩ := szBook_le b 1048576 (by omega)
  by_cases hz : szBook b 1048576 < 0
  · go_enter Try.func8, Try.ntmps8
    go_wp2_with (go_at_call 15; refine (szStewBook_c b 1048576 (by omega) (by omega) _ (R1.out _ ((Grow.refl _).alloc _)) (R2.out _ ((Grow.refl _).alloc _)) (R3.out _ ((Grow.refl _).alloc _)) l1 l2 l3 S1.out S2.out S3.out).mono ?_; rintro e w1 ⟨rfl, hg1⟩)
    go_ret
    exact ⟨rfl, ((Grow.refl _).alloc _).trans hg1⟩
  · obtain ⟨m1, m2, m3⟩ := z3 (by omega)
    have n1 : b.svcs.length ≤ 2000000 := by omega
    have n2 : b.cps.length ≤ 2000000 := by omega
    have n3 : b.brs.length ≤ 2000000 := by omega
    go_enter Try.func8, Try.ntmps8
    go_wp2_with fail
    refine (szStewBook_c b 1048576 (by omega) (by omega) _ (R1.out _ ((Grow.refl _).alloc _)) (R2.out _ ((Grow.refl _).alloc _)) (R3.out _ ((Grow.refl _).alloc _)) l1 l2 l3 S1.out S2.out S3.out).mono ?_
    rintro e w1 ⟨rfl, hg1⟩
    have G1 := Lib.hid (((Grow.refl w).alloc _).trans hg1)
    have X1 := Lib.hid (blk_grow (heap_alloc_new w _) hg1)
    clear hg1
    have x0 := cell_of_row w1 _ 0 _ _ _ X1.out
    have x1 := cell_of_row w1 _ 1 _ _ _ X1.out
    have x2 := cell_of_row w1 _ 2 _ _ _ X1.out
    have x3 := cell_of_row w1 _ 3 _ _ _ X1.out
    go_wp2_with fail
    refine (toStewBook_c b w1 (R1.out _ G1.out) (R2.out _ G1.out) (R3.out _ G1.out) n1 n2 n3).mono ?_
    rintro e w2 ⟨v, rfl, ho, hg2⟩
    obtain ⟨B1, d1, B2, d2, B3, d3, rfl, p1, p2, p3⟩ := ho.rows
    have P1 := Lib.hid p1
    have P2 := Lib.hid p2
    have P3 := Lib.hid p3
    have G2 := Lib.hid (G1.out.trans hg2)
    have X2 := Lib.hid (blk_grow X1.out hg2)
    clear ho hg2 p1 p2 p3 x0 x1 x2 x3 X1
    go_wp2_with fail
    refine (specDone_c b w2 P1.out P2.out P3.out n1 n2 n3).mono ?_
    rintro e w3 ⟨rfl, hg3⟩
    have G3 := Lib.hid (G2.out.trans hg3)
    have X3 := Lib.hid (blk_grow X2.out hg3)
    clear hg3 P1 P2 P3 X2
    have x0 := cell_of_row w3 _ 0 _ _ _ X3.out
    have x1 := cell_of_row w3 _ 1 _ _ _ X3.out
    have x2 := cell_of_row w3 _ 2 _ _ _ X3.out
    have x3 := cell_of_row w3 _ 3 _ _ _ X3.out
    go_wp2_with fail
    refine (toStewBook_c b w3 (R1.out _ G3.out) (R2.out _ G3.out) (R3.out _ G3.out) n1 n2 n3).mono ?_
    rintro e w4 ⟨v, rfl, ho, hg4⟩
    obtain ⟨B1, d1, B2, d2, B3, d3, rfl, p1, p2, p3⟩ := ho.rows
    have P1 := Lib.hid p1
    have P2 := Lib.hid p2
    have P3 := Lib.hid p3
    have G4 := Lib.hid (G3.out.trans hg4)
    have X4 := Lib.hid (blk_grow X3.out hg4)
    clear ho hg4 p1 p2 p3 x0 x1 x2 x3 X3
    go_wp2_with fail
    refine (implDone_c b _ (P1.out.below ((Grow.refl _).alloc _)) (P2.out.below ((Grow.refl _).alloc _)) (P3.out.below ((Grow.refl _).alloc _)) n1 n2 n3).mono ?_
    rintro e w5 ⟨rfl, hg5⟩
    have G5 := Lib.hid ((G4.out.alloc _).trans hg5)
    have X5 := Lib.hid (blk_grow ((Below.heap_alloc _ _ _ (blk_lt X4.out)).trans X4.out) hg5)
    have Y5 := Lib.hid (blk_grow (heap_alloc_new w4 _) hg5)
    have Q1 := Lib.hid (P1.out.below (((Grow.refl _).alloc _).trans hg5))
    have Q2 := Lib.hid (P2.out.below (((Grow.refl _).alloc _).trans hg5))
    have Q3 := Lib.hid (P3.out.below (((Grow.refl _).alloc _).trans hg5))
    clear hg5 P1 P2 P3 X4
    go_wp2_with fail
    have x0 := cell_of_row w5 _ 0 _ _ _ X5.out
    have x1 := cell_of_row w5 _ 1 _ _ _ X5.out
    have x2 := cell_of_row w5 _ 2 _ _ _ X5.out
    have x3 := cell_of_row w5 _ 3 _ _ _ X5.out
    have y0 := cell_of_row w5 _ 0 _ _ _ Y5.out
    have y1 := cell_of_row w5 _ 1 _ _ _ Y5.out
    have y2 := cell_of_row w5 _ 2 _ _ _ Y5.out
    have y3 := cell_of_row w5 _ 3 _ _ _ Y5.out
    go_region_held3 (fun w' => Hid (Grow w5 w') ∧ w'.cell? ⟨w4.heap.size, 0, none⟩ = some (.int .i64 b.now) ∧ w'.cell? ⟨w4.heap.size, 1, none⟩ = some (.slice B1 b.svcs.length d1) ∧ w'.cell? ⟨w4.heap.size, 2, none⟩ = some (.slice B2 b.cps.length d2) ∧ w'.cell? ⟨w4.heap.size, 3, none⟩ = some (.slice B3 b.brs.length d3) ∧
        w'.cell? ⟨w.heap.size, 0, none⟩ = some (.int .i64 b.now) ∧ w'.cell? ⟨w.heap.size, 1, none⟩ = some (.slice A1 b.svcs.length c1) ∧ w'.cell? ⟨w.heap.size, 2, none⟩ = some (.slice A2 b.cps.length c2) ∧ w'.cell? ⟨w.heap.size, 3, none⟩ = some (.slice A3 b.brs.length c3))
      (first
        | exact ⟨(Grow.refl _).drew, y0, y1, y2, y3, x0, x1, x2, x3⟩
        | exact ⟨(Grow.refl _).drew.trans hg6, cell_of_row w6 _ 0 _ _ _ Y6, cell_of_row w6 _ 1 _ _ _ Y6, cell_of_row w6 _ 2 _ _ _ Y6, cell_of_row w6 _ 3 _ _ _ Y6, cell_of_row w6 _ 0 _ _ _ X6, cell_of_row w6 _ 1 _ _ _ X6, cell_of_row w6 _ 2 _ _ _ X6, cell_of_row w6 _ 3 _ _ _ X6⟩
        | exact ⟨((Grow.refl _).drew.trans hg6).trans hg7, cell_of_row w7 _ 0 _ _ _ Y7, cell_of_row w7 _ 1 _ _ _ Y7, cell_of_row w7 _ 2 _ _ _ Y7, cell_of_row w7 _ 3 _ _ _ Y7, cell_of_row w7 _ 0 _ _ _ X7, cell_of_row w7 _ 1 _ _ _ X7, cell_of_row w7 _ 2 _ _ _ X7, cell_of_row w7 _ 3 _ _ _ X7⟩)
      (first
        | (go_at_call 17; refine (toStewBook_c b _ (R1.out _ G5.out.drew) (R2.out _ G5.out.drew) (R3.out _ G5.out.drew) n1 n2 n3).mono ?_; rintro e w6 ⟨v, rfl, ho, hg6⟩; obtain ⟨E1, f1, E2, f2, E3, f3, rfl, r1, r2, r3⟩ := ho.rows; have Y6 := blk_grow (w := w5.drew) Y5.out hg6; have X6 := blk_grow (w := w5.drew) X5.out hg6)
        | (go_at_call 19; refine (eqStewBook_c b _ (Q1.out.below ((Grow.refl _).drew.trans hg6)) (Q2.out.below ((Grow.refl _).drew.trans hg6)) (Q3.out.below ((Grow.refl _).drew.trans hg6)) r1 r2 r3 n1 n2 n3).mono ?_; rintro e w7 ⟨rfl, hg7⟩; have Y7 := blk_grow Y6 hg7; have X7 := blk_grow X6 hg7))
    go_wp2
    go_ret
    exact ⟨rfl, ((G5.out.drew).trans hg6).trans hg7⟩
end Go.Proofs.Ytnmknkdbeccmhaa
