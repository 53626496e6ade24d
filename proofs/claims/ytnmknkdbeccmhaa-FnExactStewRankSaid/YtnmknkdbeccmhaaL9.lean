/- The law FnExactStewRank: the program's StewRank answers as the reference's, at every book; its answer owns its memory. -/
import Derived.Test.YtnmknkdbeccmhaaB25
import Derived.Test.YtnmknkdbeccmhaaB10
namespace Go.Proofs.Ytnmknkdbeccmhaa
open Go.RowKit
set_option linter.unusedSimpArgs false
set_option linter.unusedVariables false
theorem OwnBook.three {base : Nat} {w : World} {v : Value} {b : Book} (h : OwnBook base w v b) : ∃ A1 c1 A2 c2 A3 c3, v = .agg #[.int .i64 b.now, .slice A1 b.svcs.length c1, .slice A2 b.cps.length c2, .slice A3 b.brs.length c3] ∧ Rows3 base w (.slice A1 b.svcs.length c1) (.slice A2 b.cps.length c2) (.slice A3 b.brs.length c3) b := by
  obtain ⟨v1, v2, v3, rfl, h1, h2, h3⟩ := h
  obtain ⟨A1, c1, rfl, -, -⟩ := own_rows svcC_len rfl h1
  obtain ⟨A2, c2, rfl, -, -⟩ := own_rows cpyC_len rfl h2
  obtain ⟨A3, c3, rfl, -, -⟩ := own_rows brtC_len rfl h3
  exact ⟨A1, c1, A2, c2, A3, c3, rfl, ⟨h1, h2, h3⟩⟩
theorem Rows3.rows {base : Nat} {w : World} {A1 A2 A3 : Option Addr} {c1 c2 c3 : Nat} {b : Book} (h : Rows3 base w (.slice A1 b.svcs.length c1) (.slice A2 b.cps.length c2) (.slice A3 b.brs.length c3) b) : Rows 13 svcC w A1 b.svcs ∧ Rows 7 cpyC w A2 b.cps ∧ Rows 2 brtC w A3 b.brs := by
  obtain ⟨A1', c1', e1, -, r1⟩ := own_rows svcC_len rfl h.r1
  obtain ⟨A2', c2', e2, -, r2⟩ := own_rows cpyC_len rfl h.r2
  obtain ⟨A3', c3', e3, -, r3⟩ := own_rows brtC_len rfl h.r3
  cases e1; cases e2; cases e3
  exact ⟨r1, r2, r3⟩
theorem Rows3.base {base base' : Nat} {w : World} {v1 v2 v3 : Value} {b : Book} (h : Rows3 base w v1 v2 v3 b) (hb : base' ≤ base) : Rows3 base' w v1 v2 v3 b := ⟨own_base h.r1 hb, own_base h.r2 hb, own_base h.r3 hb⟩
theorem own_ints {base N : Nat} {A : Option Addr} {c : Nat} {xs : List Int} {w : World} (h : w.ownsRow base 3 1 (.slice A N c) N (xs.flatMap intC)) : Rows 1 intC w A xs := by
  have hl := h.1
  rw [flat_len intC_len] at hl
  obtain ⟨A', c', e, -, r⟩ := own_rows (N := N) intC_len (by omega) h
  cases e
  exact r
set_option maxRecDepth 100000 in
set_option maxHeartbeats 8000000 in
theorem fnExactStewRank_c (b : Book) {A1 A2 A3 : Option Addr} {c1 c2 c3 : Nat} (w : World) (h1 : Rows 13 svcC w A1 b.svcs) (h2 : Rows 7 cpyC w A2 b.cps) (h3 : Rows 2 brtC w A3 b.brs)
    (l1 : b.svcs.length ≤ 9223372036854775807) (l2 : b.cps.length ≤ 9223372036854775807) (l3 : b.brs.length ≤ 9223372036854775807) (s1 : SmallSvc b.svcs) (s2 : SmallCpy b.cps) (s3 : SmallBrt b.brs) :
    Calls Try.prog 9 #[.agg #[.int .i64 b.now, .slice A1 b.svcs.length c1, .slice A2 b.cps.length c2, .slice A3 b.brs.length c3]] w fun e w' => e = .returned (.bool true) ∧ Grow w w' := by
  have R1 := Lib.hid (fun (w' : World) (hg : Grow w w') => h1.below hg)
  have R2 := Lib.hid (fun (w' : World) (hg : Grow w w') => h2.below hg)
  have R3 := Lib.hid (fun (w' : World) (hg : Grow w w') => h3.below hg)
  have S1 := Lib.hid s1
  have S2 := Lib.hid s2
  have S3 := Lib.hid s3
  clear h1 h2 h3 s1 s2 s3
  obtain ⟨z1, z2, z3⟩ := szBook_le b 1048576 (by omega)
  by_cases hz : szBook b 1048576 < 0
  · go_enter Try.func9, Try.ntmps9
    go_wp2_with (go_at_call 15; refine (szStewBook_c b 1048576 (by omega) (by omega) _ (R1.out _ ((Grow.refl _).alloc _)) (R2.out _ ((Grow.refl _).alloc _)) (R3.out _ ((Grow.refl _).alloc _)) l1 l2 l3 S1.out S2.out S3.out).mono ?_; rintro e w1 ⟨rfl, hg1⟩)
    go_ret
    exact ⟨rfl, ((Grow.refl _).alloc _).trans hg1⟩
  · obtain ⟨m1, m2, m3⟩ := z3 (by omega)
    have n1 : b.svcs.length ≤ 2000000 := by omega
    have n2 : b.cps.length ≤ 2000000 := by omega
    have n3 : b.brs.length ≤ 2000000 := by omega
    obtain ⟨L, hL⟩ : ∃ L, rankB b = L := ⟨_, rfl⟩
    have L5 : L.length ≤ 2000000 := by rw [← hL]; unfold rankB rankV; split <;> simp
    have HL := Lib.hid hL
    clear hL
    go_enter Try.func9, Try.ntmps9
    go_wp2_with fail
    refine (szStewBook_c b 1048576 (by omega) (by omega) _ (R1.out _ ((Grow.refl _).alloc _)) (R2.out _ ((Grow.refl _).alloc _)) (R3.out _ ((Grow.refl _).alloc _)) l1 l2 l3 S1.out S2.out S3.out).mono ?_
    rintro e w1 ⟨rfl, hg1⟩
    have G1 := Lib.hid (((Grow.refl w).alloc _).trans hg1)
    have X1 := Lib.hid (blk_grow (heap_alloc_new w _) hg1)
    clear hg1
    have x0 := cell_of_row w1 _ 0 _ _ _ X1.out
    have x1 := cell_of_row w1 _ 1 _ _ _ X1.out
    have x2 := cell_of_row w1 _ 2 _ _ _ X1.out
    have x3 := cell_of_row w1 _ 3 _ _ _ X1.out
    go_wp2_with fail
    refine (toStewBook_c b w1 (R1.out _ G1.out) (R2.out _ G1.out) (R3.out _ G1.out) n1 n2 n3).mono ?_
    rintro e w2 ⟨v, rfl, ho, hg2⟩
    obtain ⟨B1, d1, B2, d2, B3, d3, rfl, h3⟩ := ho.three
    have P := Lib.hid h3.rows
    have G2 := Lib.hid (G1.out.trans hg2)
    have X2 := Lib.hid (blk_grow X1.out hg2)
    clear ho hg2 h3 x0 x1 x2 x3 X1
    go_wp2_with fail
    refine (specRank_c b w2 P.out.1 P.out.2.1 P.out.2.2 n1 n2 n3).mono ?_
    rintro e w3 ⟨v, rfl, ho, hg3⟩
    rw [HL.out] at ho
    obtain ⟨AW, cW, rfl, -, -⟩ := own_rows intC_len rfl ho
    have OW := Lib.hid ho
    have G3 := Lib.hid (G2.out.trans hg3)
    have X3 := Lib.hid (blk_grow X2.out hg3)
    clear ho hg3 P X2
    have x0 := cell_of_row w3 _ 0 _ _ _ X3.out
    have x1 := cell_of_row w3 _ 1 _ _ _ X3.out
    have x2 := cell_of_row w3 _ 2 _ _ _ X3.out
    have x3 := cell_of_row w3 _ 3 _ _ _ X3.out
    go_wp2_with fail
    refine (toStewBook_c b w3 (R1.out _ G3.out) (R2.out _ G3.out) (R3.out _ G3.out) n1 n2 n3).mono ?_
    rintro e w4 ⟨v, rfl, ho, hg4⟩
    obtain ⟨B1, d1, B2, d2, B3, d3, rfl, h3⟩ := ho.three
    have O4 := Lib.hid (h3.base (show w.heap.size ≤ w3.heap.size from G3.out.size))
    have W4 := Lib.hid (own_grow OW.out hg4)
    have LW := Lib.hid (show ∀ q, AW = some q → q.block < w4.heap.size by rintro q rfl; have := (OW.out.lt q.block rfl).2; have := hg4.size; omega)
    have G4 := Lib.hid (G3.out.trans hg4)
    have X4 := Lib.hid (blk_grow X3.out hg4)
    clear ho hg4 h3 x0 x1 x2 x3 X3 OW
    go_wp2_with fail
    refine (implRank_c b _ (O4.out.grow ((Grow.refl _).alloc _)).rows.1 (O4.out.grow ((Grow.refl _).alloc _)).rows.2.1 (O4.out.grow ((Grow.refl _).alloc _)).rows.2.2 n1 n2 n3).mono ?_
    rintro e w5 ⟨v, rfl, ho, hg5⟩
    rw [HL.out] at ho
    obtain ⟨AG, cG, rfl, -, -⟩ := own_rows intC_len rfl ho
    have GG5 := Lib.hid (((Grow.refl w4).alloc _).trans hg5)
    have V5 := Lib.hid ho
    have NE : Hid ((Value.slice AW L.length cW).ownBlock = none ∨ (Value.slice AW L.length cW).ownBlock ≠ (Value.slice AG L.length cG).ownBlock) := by
      cases hA : AW with
      | none => exact .inl rfl
      | some q =>
        refine .inr fun e => ?_
        have a1 := LW.out q hA
        have a2 := (ho.lt q.block e.symm).1
        simp at a2
        omega
    have VB := Lib.hid (own_base (b' := w.heap.size) ho (by have := G4.out.size; simp; omega))
    have O5 := Lib.hid (O4.out.grow GG5.out)
    have W5 := Lib.hid (own_grow W4.out GG5.out)
    have G5 := Lib.hid (G4.out.trans GG5.out)
    have X5 := Lib.hid (blk_grow X4.out GG5.out)
    have Y5 := Lib.hid (blk_grow (heap_alloc_new w4 _) hg5)
    clear ho hg5 GG5 O4 W4 X4
    go_wp2_with fail
    refine (eqIntS_c L L5 _ (own_ints V5.out) (own_ints W5.out)).mono ?_
    rintro e w6 ⟨rfl, hg6⟩
    have V6 := Lib.hid (own_grow V5.out hg6)
    have O6 := Lib.hid (O5.out.grow hg6)
    have W6 := Lib.hid (own_grow W5.out hg6)
    have G6 := Lib.hid (G5.out.trans hg6)
    have X6 := Lib.hid (blk_grow X5.out hg6)
    have Y6 := Lib.hid (blk_grow Y5.out hg6)
    clear hg6 V5 O5 W5 X5 Y5
    go_wp2_with fail
    have x0 := cell_of_row w6 _ 0 _ _ _ X6.out
    have x1 := cell_of_row w6 _ 1 _ _ _ X6.out
    have x2 := cell_of_row w6 _ 2 _ _ _ X6.out
    have x3 := cell_of_row w6 _ 3 _ _ _ X6.out
    have y0 := cell_of_row w6 _ 0 _ _ _ Y6.out
    have y1 := cell_of_row w6 _ 1 _ _ _ Y6.out
    have y2 := cell_of_row w6 _ 2 _ _ _ Y6.out
    have y3 := cell_of_row w6 _ 3 _ _ _ Y6.out
    go_region_held3 (fun w' => Hid (Grow w6 w') ∧ w'.cell? ⟨w4.heap.size, 0, none⟩ = some (.int .i64 b.now) ∧ w'.cell? ⟨w4.heap.size, 1, none⟩ = some (.slice B1 b.svcs.length d1) ∧ w'.cell? ⟨w4.heap.size, 2, none⟩ = some (.slice B2 b.cps.length d2) ∧ w'.cell? ⟨w4.heap.size, 3, none⟩ = some (.slice B3 b.brs.length d3) ∧
        w'.cell? ⟨w.heap.size, 0, none⟩ = some (.int .i64 b.now) ∧ w'.cell? ⟨w.heap.size, 1, none⟩ = some (.slice A1 b.svcs.length c1) ∧ w'.cell? ⟨w.heap.size, 2, none⟩ = some (.slice A2 b.cps.length c2) ∧ w'.cell? ⟨w.heap.size, 3, none⟩ = some (.slice A3 b.brs.length c3))
      (first
        | exact ⟨(Grow.refl _).drew, y0, y1, y2, y3, x0, x1, x2, x3⟩
        | exact ⟨(Grow.refl _).drew.trans hg7, cell_of_row w7 _ 0 _ _ _ Y7, cell_of_row w7 _ 1 _ _ _ Y7, cell_of_row w7 _ 2 _ _ _ Y7, cell_of_row w7 _ 3 _ _ _ Y7, cell_of_row w7 _ 0 _ _ _ X7, cell_of_row w7 _ 1 _ _ _ X7, cell_of_row w7 _ 2 _ _ _ X7, cell_of_row w7 _ 3 _ _ _ X7⟩
        | exact ⟨((Grow.refl _).drew.trans hg7).trans hg8, cell_of_row w8 _ 0 _ _ _ Y8, cell_of_row w8 _ 1 _ _ _ Y8, cell_of_row w8 _ 2 _ _ _ Y8, cell_of_row w8 _ 3 _ _ _ Y8, cell_of_row w8 _ 0 _ _ _ X8, cell_of_row w8 _ 1 _ _ _ X8, cell_of_row w8 _ 2 _ _ _ X8, cell_of_row w8 _ 3 _ _ _ X8⟩)
      (first
        | (go_at_call 17; refine (toStewBook_c b _ (R1.out _ G6.out.drew) (R2.out _ G6.out.drew) (R3.out _ G6.out.drew) n1 n2 n3).mono ?_; rintro e w7 ⟨v, rfl, ho, hg7⟩; obtain ⟨E1, f1, E2, f2, E3, f3, rfl, r1, r2, r3⟩ := ho.rows; have Y7 := blk_grow (w := w6.drew) Y6.out hg7; have X7 := blk_grow (w := w6.drew) X6.out hg7)
        | (go_at_call 19; refine (eqStewBook_c b _ (O6.out.grow ((Grow.refl _).drew.trans hg7)).rows.1 (O6.out.grow ((Grow.refl _).drew.trans hg7)).rows.2.1 (O6.out.grow ((Grow.refl _).drew.trans hg7)).rows.2.2 r1 r2 r3 n1 n2 n3).mono ?_; rintro e w8 ⟨rfl, hg8⟩; have Y8 := blk_grow Y7 hg8; have X8 := blk_grow X7 hg8))
    have D8 := Lib.hid (show Grow w6 w8 from ((Grow.refl _).drew.trans hg7).trans hg8)
    have V8 := Lib.hid (own_grow V6.out D8.out)
    have O8 := Lib.hid (O6.out.grow D8.out)
    have W8 := Lib.hid (own_grow W6.out D8.out)
    have G8 := Lib.hid (G6.out.trans D8.out)
    have HX8 := Lib.hid X8
    have HY8 := Lib.hid Y8
    clear hg7 hg8 Y7 X7 r1 r2 r3 ho X8 Y8 x0 x1 x2 x3 y0 y1 y2 y3 V6 O6 W6 X6 Y6
    have y0 := cell_of_row w8 _ 0 _ _ _ HY8.out
    have y1 := cell_of_row w8 _ 1 _ _ _ HY8.out
    have y2 := cell_of_row w8 _ 2 _ _ _ HY8.out
    have y3 := cell_of_row w8 _ 3 _ _ _ HY8.out
    go_wp2_with fail
    refine (markStewBook_c b 1 (by omega) (by omega) w8 O8.out).mono ?_
    rintro e w9 ⟨rfl, ho9, hm9⟩
    have V9 := Lib.hid (hm9.own O8.out V8.out (by decide) (by decide) (by decide))
    have W9 := Lib.hid (hm9.own O8.out W8.out (by decide) (by decide) (by decide))
    have X9 := Lib.hid (hm9.blk O8.out HX8.out (by decide) (by decide) (by decide))
    have G9 := Lib.hid (hm9.grow G8.out O8.out (Nat.le_refl _))
    clear ho9 hm9 y0 y1 y2 y3 V8 O8 W8 HX8 HY8
    go_wp2_with fail
    refine (eqIntS_c L L5 _ (own_ints V9.out) (own_ints W9.out)).mono ?_
    rintro e w10 ⟨rfl, hg10⟩
    have V10 := Lib.hid (own_grow V9.out hg10)
    have W10 := Lib.hid (own_grow W9.out hg10)
    have G10 := Lib.hid (G9.out.trans hg10)
    have X10 := Lib.hid (blk_grow X9.out hg10)
    clear hg10 V9 W9 X9
    go_wp2_with fail
    refine (markIntS_c 1 (by omega) (by omega) w10 V10.out).mono ?_
    rintro e w11 ⟨rfl, ho11, hg11⟩
    have V11 := Lib.hid ho11
    have W11 := Lib.hid (W10.out.kept hg11 NE.out)
    have X11 := Lib.hid ((hg11.block _ (blk_lt X10.out) (heap_ne V10.out X10.out (by decide))).trans X10.out)
    have G11 := Lib.hid (G10.out.grown hg11 fun q hq => (VB.out.lt q hq).1)
    clear ho11 hg11 V10 W10 X10
    go_wp2_with fail
    refine (heldIntS_c 1 (by omega) (by omega) w11 (own_ints V11.out)).mono ?_
    rintro e w12 ⟨rfl, hg12⟩
    have V12 := Lib.hid (own_grow V11.out hg12)
    have W12 := Lib.hid (own_grow W11.out hg12)
    have X12 := Lib.hid (blk_grow X11.out hg12)
    have G12 := Lib.hid (G11.out.trans hg12)
    clear hg12 V11 W11 X11
    have x0 := cell_of_row w12 _ 0 _ _ _ X12.out
    have x1 := cell_of_row w12 _ 1 _ _ _ X12.out
    have x2 := cell_of_row w12 _ 2 _ _ _ X12.out
    have x3 := cell_of_row w12 _ 3 _ _ _ X12.out
    go_wp2_with fail
    refine (toStewBook_c b w12 (R1.out _ G12.out) (R2.out _ G12.out) (R3.out _ G12.out) n1 n2 n3).mono ?_
    rintro e w13 ⟨v, rfl, ho, hg13⟩
    obtain ⟨B1, d1, B2, d2, B3, d3, rfl, h3⟩ := ho.three
    have P := Lib.hid h3.rows
    have V13 := Lib.hid (own_grow V12.out hg13)
    have W13 := Lib.hid (own_grow W12.out hg13)
    have G13 := Lib.hid (G12.out.trans hg13)
    clear ho hg13 h3 x0 x1 x2 x3 X12 V12 W12
    go_wp2_with fail
    refine (implRank_c b w13 P.out.1 P.out.2.1 P.out.2.2 n1 n2 n3).mono ?_
    rintro e w14 ⟨v, rfl, ho, hg14⟩
    rw [HL.out] at ho
    obtain ⟨AH, cH, rfl, -, -⟩ := own_rows intC_len rfl ho
    have H14 := Lib.hid (own_ints ho)
    have V14 := Lib.hid (own_grow V13.out hg14)
    have W14 := Lib.hid (own_grow W13.out hg14)
    have G14 := Lib.hid (G13.out.trans hg14)
    clear ho hg14 P V13 W13
    go_wp2_with fail
    refine (eqIntS_c L L5 _ H14.out (own_ints W14.out)).mono ?_
    rintro e w15 ⟨rfl, hg15⟩
    have V15 := Lib.hid (own_grow V14.out hg15)
    have G15 := Lib.hid (G14.out.trans hg15)
    clear hg15 V14 W14 H14
    go_wp2_with fail
    refine (heldIntS_c 1 (by omega) (by omega) w15 (own_ints V15.out)).mono ?_
    rintro e w16 ⟨rfl, hg16⟩
    go_wp2
    go_ret
    exact ⟨rfl, G15.out.trans hg16⟩
end Go.Proofs.Ytnmknkdbeccmhaa
