/- The walk of the reference's StewRank. -/
import Derived.Test.YtnmknkdbeccmhaaAp11
import Derived.Test.YtnmknkdbeccmhaaAp1
import Derived.StillTailTactics
namespace Go.Proofs.Ytnmknkdbeccmhaa
open Go.RowKit
set_option linter.unusedSimpArgs false
set_option linter.unusedVariables false

def intC (z : Int) : List Value := [.int .i64 z]
theorem intC_len (z : Int) : (intC z).length = 1 := rfl
theorem own_of_blk {w : World} {g T n sz base : Nat} {L : List Value} (h : w.heap[g]? = some (.cells L.toArray T (0, 0))) (hl : L.length = n * sz) (hb : base ≤ g) (hn : n ≤ maxLen) : w.ownsRow base T sz (.slice (some ⟨g, 0, none⟩) n n) n L :=
  ⟨hl, .inr ⟨g, n, L.toArray, rfl, hb, h, Nat.le_refl _, hn, by simpa using hl, by rw [← hl]; simp⟩⟩
/-- The world under a name. -/
theorem rename {P : Program} {c : Code} {Q : Exit → Act → World → Prop} {a : Act} {w : World} (h : ∀ W : World, Hid (W = w) → Code.wp P c Q a W) : Code.wp P c Q a w := h w rfl

theorem blk_growd {w w' : World} {g : Nat} {o : Obj} (h : w.heap[g]? = some o) (hg : Grow w.drew w') : w'.heap[g]? = some o := blk_grow (w := w.drew) h hg
theorem nat_at {w : World} {bl ol : Nat} {xs : List Nat} (h : Rows 1 natC w (some ⟨bl, ol, none⟩) xs) {j i : Nat} (hi : xs[j]? = some i) : w.cell? ⟨bl, ol + j, none⟩ = some (.int .i64 i) := by
  obtain ⟨b, o, e, hc⟩ := h.at_ hi
  simp only [Option.some.injEq, Addr.mk.injEq] at e
  obtain ⟨rfl, rfl, -⟩ := e
  have := hc 0 _ rfl
  simpa using this
theorem hit_succ {α : Type} {ys : List α} {q : α → Bool} {L : List Nat} {j i : Nat} {c : α} {y : Int} (hi : L[j]? = some i) (hc : ys[i]? = some c) (hy : y = ((L.take j).countP (hitAt ys q) : Int)) : y + (if q c = true then 1 else 0) = ((L.take (j + 1)).countP (hitAt ys q) : Int) := by
  rw [countP_succ hi, hy]
  simp [hitAt, hc]
theorem heap_eq {W w : World} (h : Hid (W = w)) {g : Nat} {o : Obj} (hb : w.heap[g]? = some o) : W.heap[g]? = some o := by rw [h.out]; exact hb
theorem grow_eq {V W w : World} (h : Hid (W = w)) (hb : Grow V w) : Grow V W := by rw [h.out]; exact hb
/-- All that was there is as it was, but for block g. -/
def Keep (g : Nat) (w w' : World) : Prop := w.grownBy w' (some g)
theorem Keep.refl (g : Nat) (w : World) : Keep g w w := World.grownBy.refl w _
theorem Keep.trans {g : Nat} {a b c : World} (h : Keep g a b) (k : Keep g b c) : Keep g a c := grownBy_trans h k
theorem Keep.of {g : Nat} {a b : World} (h : Grow a b) : Keep g a b := ⟨h.os, h.tape, h.output, h.size, fun k hk _ => h.block k hk⟩
theorem Keep.alloc {g : Nat} {a b : World} (h : Keep g a b) (o : Obj) : Keep g a (b.alloc o) := h.trans (Keep.of ((Grow.refl _).alloc o))
theorem Keep.drew {g : Nat} {a b : World} (h : Keep g a b) : Keep g a b.drew := h.trans (Keep.of (Grow.refl _).drew)
theorem Keep.set {g i : Nat} {p : Addr} {a b : World} (h : Keep g a b) (hp : p = ⟨g, i, none⟩) (u : Value) : Keep g a (b.setCell p u) := by
  subst hp
  refine h.trans ⟨rfl, rfl, rfl, by simp, fun k hk hr => heap_setCell_other b _ k u (fun e => hr (by rw [e]))⟩
theorem Keep.setNew {g : Nat} {a b : World} (h : Keep g a b) {p : Addr} (hp : a.heap.size ≤ p.block) (u : Value) : Keep g a (b.setCell p u) := by
  refine ⟨h.os, h.tape, h.output, by have := h.size; simp; omega, fun k hk hr => (heap_setCell_other b _ k u (by omega)).trans (h.block k hk hr)⟩
theorem Keep.blk {g k : Nat} {o : Obj} {a b : World} (h : Keep g a b) (ho : a.heap[k]? = some o) (hk : k ≠ g) : b.heap[k]? = some o := (World.grownBy.block h k (blk_lt ho) (fun e => hk (Option.some.inj e))).trans ho
theorem Keep.grow {g : Nat} {w a b : World} (h : Keep g a b) (hw : Grow w a) (hg : w.heap.size ≤ g) : Grow w b := Grow.grown hw h fun k hk => by cases hk; exact hg
theorem Keep.rows {g : Nat} {a b : World} {α : Type} {n : Nat} {cs : α → List Value} {A : Option Addr} {xs : List α} (h : Keep g a b) (hr : Rows n cs a A xs) (hA : ∀ p, A = some p → p.block ≠ g) : Rows n cs b A xs := fun hne => by
  obtain ⟨bl, o, e, hc⟩ := hr hne
  refine ⟨bl, o, e, fun i x hx j u hu => World.grownBy.cell h (hc i x hx j u hu) (fun e' => ?_)⟩
  exact hA _ e (Option.some.inj e')
set_option maxRecDepth 100000 in
set_option maxHeartbeats 4000000 in
theorem specRank_c (b : Book) {A1 A2 A3 : Option Addr} {c1 c2 c3 : Nat} (w : World) (h1 : Rows 13 svcC w A1 b.svcs) (h2 : Rows 7 cpyC w A2 b.cps) (h3 : Rows 2 brtC w A3 b.brs)
    (l1 : b.svcs.length ≤ 2000000) (l2 : b.cps.length ≤ 2000000) (l3 : b.brs.length ≤ 2000000) :
    Calls Try.prog 32 #[.agg #[.int .i64 b.now, .slice A1 b.svcs.length c1, .slice A2 b.cps.length c2, .slice A3 b.brs.length c3]] w (MadeRow 3 1 intC (rankB b) w) := by
  obtain ⟨W, hW⟩ : ∃ W, W = w.alloc (.cells #[.int .i64 b.now, .slice A1 b.svcs.length c1, .slice A2 b.cps.length c2, .slice A3 b.brs.length c3] 34) := ⟨_, rfl⟩
  have HW := Lib.hid hW
  have GW := Lib.hid (show Grow w W by rw [hW]; (repeat (first | with_reducible exact Grow.refl _ | with_reducible assumption | with_reducible refine Grow.drew ?_ | with_reducible refine Grow.alloc ?_ _ | (with_reducible refine Grow.set ?_ ?_ _; rotate_left; (first | (dsimp only; omega) | (simp <;> omega))))))
  have X := Lib.hid (show W.heap[w.heap.size]? = some (.cells #[.int .i64 b.now, .slice A1 b.svcs.length c1, .slice A2 b.cps.length c2, .slice A3 b.brs.length c3] 34 (0, 0)) by rw [hW]; exact heap_alloc_new _ _)
  have R1 := Lib.hid (fun (w' : World) (hg : Grow W w') => h1.below (GW.out.trans hg))
  have R2 := Lib.hid (fun (w' : World) (hg : Grow W w') => h2.below (GW.out.trans hg))
  have R3 := Lib.hid (fun (w' : World) (hg : Grow W w') => h3.below (GW.out.trans hg))
  have SW := Lib.hid (show W.heap.size = w.heap.size + 1 by rw [hW]; simp)
  clear h1 h2 h3 hW
  go_enter Try.func32, Try.ntmps32
  go_wp2_with fail
  refine (specValid_c b _ (R1.out _ (by rw [HW.out]; (repeat (first | with_reducible exact Grow.refl _ | with_reducible assumption | with_reducible refine Grow.drew ?_ | with_reducible refine Grow.alloc ?_ _ | (with_reducible refine Grow.set ?_ ?_ _; rotate_left; (first | (dsimp only; omega) | (simp <;> omega))))))) (R2.out _ (by rw [HW.out]; (repeat (first | with_reducible exact Grow.refl _ | with_reducible assumption | with_reducible refine Grow.drew ?_ | with_reducible refine Grow.alloc ?_ _ | (with_reducible refine Grow.set ?_ ?_ _; rotate_left; (first | (dsimp only; omega) | (simp <;> omega))))))) (R3.out _ (by rw [HW.out]; (repeat (first | with_reducible exact Grow.refl _ | with_reducible assumption | with_reducible refine Grow.drew ?_ | with_reducible refine Grow.alloc ?_ _ | (with_reducible refine Grow.set ?_ ?_ _; rotate_left; (first | (dsimp only; omega) | (simp <;> omega))))))) l1 l2 l3).mono ?_
  rintro e w1 ⟨rfl, hg1⟩
  have G1 := Lib.hid (show Grow W w1 from Grow.trans (by rw [HW.out]; (repeat (first | with_reducible exact Grow.refl _ | with_reducible assumption | with_reducible refine Grow.drew ?_ | with_reducible refine Grow.alloc ?_ _ | (with_reducible refine Grow.set ?_ ?_ _; rotate_left; (first | (dsimp only; omega) | (simp <;> omega)))))) hg1)
  have B1 := Lib.hid (blk_grow (heap_alloc2_new w _ _) hg1)
  clear hg1
  rcases hv : valid b
  · have HR := Lib.hid (show rankB b = [0, 0, 0, 0, 0] by simp [rankB, hv])
    go_wp2
    go_ret
    rw [HR.out]
    exact ⟨_, rfl, own_of_blk (L := [.int .i64 0, .int .i64 0, .int .i64 0, .int .i64 0, .int .i64 0]) B1.out rfl (by omega) (by decide), GW.out.trans G1.out⟩
  · have HR := Lib.hid (show rankB b = rankS b b.svcs.length by rw [rankS_all hv]; simp [rankB, hv])
    have hf := fit_of_valid hv
    have NT := Lib.hid (valid_noTwice hv)
    have NM := Lib.hid hf.num
    have HF := Lib.hid hf
    have m1 := hf.l1
    have m2 := hf.l2
    clear hf
    go_wp2_with fail
    go_loopw [4] (fun i wr => ∃ (k : Nat) (z0 z1 z2 z3 z4 : Int), k ≤ b.svcs.length ∧ i = .int .i64 k ∧ Hid (rankS b k = [z0, z1, z2, z3, z4]) ∧ Hid (Grow W wr) ∧ Hid (wr.heap[w.heap.size + 1]? = some (.cells #[.int .i64 z0, .int .i64 z1, .int .i64 z2, .int .i64 z3, .int .i64 z4] 3 (0, 0)))) (fun i _ => b.svcs.length - (intOf i).toNat)
    case atStart => exact ⟨0, 0, 0, 0, 0, 0, Nat.zero_le _, rfl, rankS_zero b, G1.out, B1.out⟩
    case round =>
      obtain ⟨k, z0, z1, z2, z3, z4, hk, rfl, hrk, hgr, hrb⟩ := hrel
      by_cases hlt : k < b.svcs.length
      · obtain ⟨s, hx⟩ := ex_at hlt
        have hn := NM.out s (List.mem_of_getElem? hx)
        have HI := Lib.hid (svcAt_self NT.out hx)
        have HX := Lib.hid hx
        obtain ⟨bs, os, rfl, hbs, f0, f1, f2, f3, f4, f5, f6, f7, f8, f9, f10, f11, f12⟩ := svc_at (R1.out _ hgr.out) hx
        obtain ⟨x0, x1, x2, x3⟩ := box4 (blk_grow X.out hgr.out)
        obtain ⟨ct, hct⟩ : ∃ ct, cntOf b.cps s.name s.image = ct := ⟨_, rfl⟩
        have cb := cntOf_bd s.name s.image l2
        rw [hct] at cb
        obtain ⟨⟨u0, v0⟩, ⟨u1, v1⟩, ⟨u2, v2⟩, ⟨u3, v3⟩, ⟨u4, v4⟩⟩ := rankS_bd HF.out hrk.out
        have HCT := Lib.hid hct
        clear hx hct
        unfold SvcNum at hn
        obtain ⟨-, -, -, -, -, -, wn0, wn1, -⟩ := hn
        have hr0 := blk_lt hrb.out
        have wl := blk_lt (blk_grow X.out hgr.out)
        go_wp2_with fail
        refine (l2Count_v b s.name _ ct (R1.out _ (hgr.out.alloc _)) l1 (R2.out _ (hgr.out.alloc _)) l2 HI.out HX.out HCT.out).mono ?_
        rintro e w2 ⟨rfl, hg2⟩
        have G2 := Lib.hid (Grow.trans (hgr.out.alloc _) hg2)
        have S2 := Lib.hid (show w2.heap[wr.heap.size]? = some (.cells (svcC s).toArray 83 (0, 0)) from blk_grow (heap_alloc_new wr _) hg2)
        have B2 := Lib.hid (blk_grow (blk_alloc hrb.out) hg2)
        have hr1 := blk_lt S2.out
        clear hg2 f0 f1 f2 f3 f4 f5 f6 f7 f8 f9 f10 f11 f12 x0 x1 x2 x3
        go_upto_region 9 with fail
        refine rename ?_
        intro W3 hW3
        have G3 := Lib.hid (grow_eq hW3 (G2.out.alloc _))
        have S3 := Lib.hid (heap_eq hW3 (blk_alloc S2.out))
        have B3 := Lib.hid (heap_eq hW3 (blk_alloc B2.out))
        have C3 := Lib.hid (show W3.heap[w2.heap.size]? = some (.cells #[.int .i64 ct.live, .int .i64 ct.serving, .int .i64 ct.old, .int .i64 ct.failed, .int .i64 ct.ending] 50 (0, 0)) by rw [hW3.out]; exact heap_alloc_new _ _)
        clear hW3 G2 S2 B2
        have p0 := cell_of_row W3 _ 0 _ _ _ B3.out
        have p1 := cell_of_row W3 _ 1 _ _ _ B3.out
        have p2 := cell_of_row W3 _ 2 _ _ _ B3.out
        have p3 := cell_of_row W3 _ 3 _ _ _ B3.out
        have p4 := cell_of_row W3 _ 4 _ _ _ B3.out
        have pf0 := frozen_of_row W3 _ 0 _ _ B3.out
        have pf1 := frozen_of_row W3 _ 1 _ _ B3.out
        have pf2 := frozen_of_row W3 _ 2 _ _ B3.out
        have pf3 := frozen_of_row W3 _ 3 _ _ B3.out
        have pf4 := frozen_of_row W3 _ 4 _ _ B3.out
        have e0 := cell_of_row W3 _ 0 _ _ _ C3.out
        have e1 := cell_of_row W3 _ 1 _ _ _ C3.out
        have e2 := cell_of_row W3 _ 2 _ _ _ C3.out
        have e3 := cell_of_row W3 _ 3 _ _ _ C3.out
        have e4 := cell_of_row W3 _ 4 _ _ _ C3.out
        obtain ⟨s0, -, s2, s3, s4, -⟩ := svc_blk S3.out
        have d1 : ¬ w.heap.size + 1 = wr.heap.size := by omega
        have d2 : ¬ w.heap.size + 1 = w2.heap.size := by omega
        have d3 : ¬ wr.heap.size = w.heap.size + 1 := by omega
        have d4 : ¬ w2.heap.size = w.heap.size + 1 := by omega
        rcases hg : s.gone
        · rw [hg] at s2
          have HK := Lib.hid (rankS_stay l2 HX.out HCT.out hg hrk.out)
          obtain ⟨y2, hy2⟩ : ∃ y2, (if ct.live < s.want then s.want - ct.live else ct.live - s.want) = y2 := ⟨_, rfl⟩
          have HY2 := Lib.hid hy2
          obtain ⟨x0, x1, x2, x3⟩ := box4 (blk_grow X.out G3.out)
          have hW1 : W.heap.size ≤ w.heap.size + 1 := by rw [SW.out]; omega
          have wl3 := blk_lt (blk_grow X.out G3.out)
          clear hy2
          obtain ⟨hlw, HV⟩ | ⟨hlw, HV⟩ : (ct.live < s.want ∧ Hid (z2 + -(ct.live - s.want) = z2 + y2)) ∨ (¬ ct.live < s.want ∧ Hid (z2 + (ct.live - s.want) = z2 + y2)) := by
            by_cases hlw : ct.live < s.want
            · exact .inl ⟨hlw, by unfold Hid; rw [← HY2.out, if_pos hlw]; omega⟩
            · exact .inr ⟨hlw, by unfold Hid; rw [← HY2.out, if_neg hlw]⟩
          all_goals
            go_still_tail 8, (by kernel_rfl)
            change wpList _ _ _ _ _ W3.drew
            go_wp2_with fail
            refine (l5Live_c b s.name _ (R2.out _ (Keep.grow (g := w.heap.size + 1) (by (repeat (first | with_reducible exact Keep.refl _ _ | with_reducible assumption | with_reducible refine Keep.drew ?_ | with_reducible refine Keep.alloc ?_ _ | with_reducible refine Keep.set ?_ rfl _ | (with_reducible refine Keep.setNew ?_ ?_ _; rotate_left; (first | (dsimp only; omega) | (simp <;> omega)))))) G3.out hW1)) l2).mono ?_
            rintro e w5 ⟨v, rfl, ho, hg5⟩
            obtain ⟨AL, cL, rfl, -, rL⟩ := own_rows natC_len rfl ho
            have K5 := Lib.hid (show Keep (w.heap.size + 1) W3 w5 from Keep.trans (by (repeat (first | with_reducible exact Keep.refl _ _ | with_reducible assumption | with_reducible refine Keep.drew ?_ | with_reducible refine Keep.alloc ?_ _ | with_reducible refine Keep.set ?_ rfl _ | (with_reducible refine Keep.setNew ?_ ?_ _; rotate_left; (first | (dsimp only; omega) | (simp <;> omega)))))) (Keep.of hg5))
            have B5 : Hid (w5.heap[w.heap.size + 1]? = some (.cells #[.int .i64 z0, .int .i64 (z1 + ct.ending), .int .i64 (z2 + y2), .int .i64 z3, .int .i64 z4] 3 (0, 0))) := by
              unfold Hid
              rw [← HV.out]
              exact blk_growd (blk_seti (blk_seti (w := W3) B3.out rfl) rfl) hg5
            have S5 := Lib.hid (K5.out.blk S3.out (by omega))
            have G5 := Lib.hid (K5.out.grow G3.out hW1)
            have HL : Hid (∀ p, AL = some p → p.block ≠ w.heap.size + 1) := by
              unfold Hid
              rintro p rfl
              have := ho.lt p.block rfl
              have hr3 := blk_lt B3.out
              simp at this
              omega
            have RL := Lib.hid rL
            have L0 := placesOf_len (isLive s.name) b.cps 0
            obtain ⟨L, hL⟩ : ∃ L, L = placesOf (isLive s.name) b.cps 0 := ⟨_, rfl⟩
            have HLL := Lib.hid hL
            rw [← hL] at RL L0
            have hs5 := blk_lt S5.out
            clear hg5 ho rL p0 p1 p2 p3 p4 pf0 pf1 pf2 pf3 pf4 e0 e1 e2 e3 e4 s0 s2 s3 s4 x0 x1 x2 x3 K5 hlw wl3 hL
            rw [← HLL.out]
            go_wp2_with fail
            obtain ⟨wo, rfl⟩ : ∃ wo : World, wo = wr := ⟨_, rfl⟩
            go_loopw [9] (fun i w6 => ∃ (j : Nat) (y3 y4 : Int), j ≤ L.length ∧ i = .int .i64 j ∧ (0 ≤ y3 ∧ y3 ≤ j) ∧ (0 ≤ y4 ∧ y4 ≤ j) ∧ Hid (y3 = ((L.take j).countP (hitAt b.cps (badIn b.brs s)) : Int) ∧ y4 = ((L.take j).countP (hitAt b.cps fun c => !decide (c.state = 3)) : Int)) ∧ Hid (Keep (w.heap.size + 1) w5 w6) ∧
                Hid (w6.heap[w.heap.size + 1]? = some (.cells #[.int .i64 z0, .int .i64 (z1 + ct.ending), .int .i64 (z2 + y2), .int .i64 (z3 + y3), .int .i64 (z4 + y4)] 3 (0, 0)))) (fun i _ => L.length - (intOf i).toNat)
            case atStart => exact ⟨0, 0, 0, Nat.zero_le _, rfl, by omega, by omega, by unfold Hid; simp, Keep.refl _ _, by unfold Hid; rw [Int.add_zero, Int.add_zero]; exact B5.out⟩
            case round =>
              obtain ⟨j, y3, y4, hj, rfl, ⟨b30, b31⟩, ⟨b40, b41⟩, hy, hk6, hb6⟩ := hrel
              by_cases hlj : j < L.length
              · obtain ⟨i, hi⟩ := ex_at hlj
                obtain ⟨c, hc, hcl⟩ := placesOf_at (show (placesOf (isLive s.name) b.cps 0)[j]? = some i by rw [← HLL.out]; exact hi)
                have G6 := Lib.hid (Keep.grow hk6.out G5.out hW1)
                have HS3 := Lib.hid (hit_succ hi hc hy.out.1)
                have HS4 := Lib.hid (hit_succ hi hc hy.out.2)
                have R6 := Lib.hid (hk6.out.rows RL.out HL.out)
                obtain ⟨bl, ol, rfl, -⟩ := R6.out.at_ hi
                obtain ⟨bb, o, rfl, hbb, -⟩ := cpy_at (R2.out _ G6.out) hc
                have i0 : (0 : Int) ≤ (i : Int) := Int.natCast_nonneg _
                have il : i < b.cps.length := (List.getElem?_eq_some_iff.1 hc).1
                have i1 : (i : Int) < (b.cps.length : Int) := by omega
                have j0 : (0 : Int) ≤ (j : Int) := Int.natCast_nonneg _
                have j1 : (j : Int) < (L.length : Int) := by omega
                have hb6l := blk_lt hb6.out
                have SS := Lib.hid (fun (w' : World) (hg : Keep (w.heap.size + 1) wr w') => (⟨hg, (box4 (blk_grow X.out (Keep.grow hg G6.out hW1))).2.2.1, nat_at (hg.rows R6.out HL.out) hi, cpy_cells (R2.out _ (Keep.grow hg G6.out hW1)) hc⟩ : Hid (Keep (w.heap.size + 1) wr w') ∧ _ ∧ _ ∧ _))
                have S6 := Lib.hid (hk6.out.blk S5.out (by omega))
                have hs6 := blk_lt S6.out
                clear hi hc hcl hy
                go_wp2_with fail
                go_region_held3 (fun w' => Hid (Keep (w.heap.size + 1) wr w') ∧ w'.cell? ⟨w.heap.size, 2, none⟩ = some (.slice (some ⟨bb, o, none⟩) b.cps.length c2) ∧ w'.cell? ⟨bl, ol + j, none⟩ = some (.int .i64 i) ∧
                    w'.cell? ⟨bb, o + i * 7, none⟩ = some (.string c.service) ∧ w'.cell? ⟨bb, o + i * 7 + 1, none⟩ = some (.int .i64 c.number) ∧ w'.cell? ⟨bb, o + i * 7 + 2, none⟩ = some (.int .i64 c.version) ∧
                    w'.cell? ⟨bb, o + i * 7 + 3, none⟩ = some (.int .i64 c.image) ∧ w'.cell? ⟨bb, o + i * 7 + 4, none⟩ = some (.int .i64 c.state) ∧ w'.cell? ⟨bb, o + i * 7 + 5, none⟩ = some (.bool c.ending) ∧ w'.cell? ⟨bb, o + i * 7 + 6, none⟩ = some (.string c.berth))
                  ((refine SS.out _ ?_; (repeat (first | with_reducible exact Keep.refl _ _ | with_reducible assumption | with_reducible refine Keep.drew ?_ | with_reducible refine Keep.alloc ?_ _ | with_reducible refine Keep.set ?_ rfl _ | (with_reducible refine Keep.setNew ?_ ?_ _; rotate_left; (first | (dsimp only; omega) | (simp <;> omega)))))))
                  (fail)
                rcases hst : decide (c.state = 3)
                all_goals rcases him : decide (c.image = s.image)
                · have ds : (c.state != 3) = true := by simpa using hst
                  have di : (c.image != s.image) = true := by simpa using him
                  have HBAD := Lib.hid (show badIn b.brs s c = true by simp [badIn, him])
                  have p0 := cell_of_row wr _ 0 _ _ _ hb6.out
                  have p1 := cell_of_row wr _ 1 _ _ _ hb6.out
                  have p2 := cell_of_row wr _ 2 _ _ _ hb6.out
                  have p3 := cell_of_row wr _ 3 _ _ _ hb6.out
                  have p4 := cell_of_row wr _ 4 _ _ _ hb6.out
                  have pf0 := frozen_of_row wr _ 0 _ _ hb6.out
                  have pf1 := frozen_of_row wr _ 1 _ _ hb6.out
                  have pf2 := frozen_of_row wr _ 2 _ _ hb6.out
                  have pf3 := frozen_of_row wr _ 3 _ _ hb6.out
                  have pf4 := frozen_of_row wr _ 4 _ _ hb6.out
                  obtain ⟨-, -, -, s3, -⟩ := svc_blk S6.out
                  go_wp2
                  go_roundw
                  case rel =>
                    refine ⟨j + 1, y3 + 1, y4 + 1, by omega, by go_num, by omega, by omega, ⟨?_, ?_⟩, ?_, ?_⟩
                    · rw [← HS3.out, HBAD.out]; simp
                    · rw [← HS4.out]; simp [hst]
                    · unfold Hid; exact Keep.trans hk6.out (by (repeat (first | with_reducible exact Keep.refl _ _ | with_reducible assumption | with_reducible refine Keep.drew ?_ | with_reducible refine Keep.alloc ?_ _ | with_reducible refine Keep.set ?_ rfl _ | (with_reducible refine Keep.setNew ?_ ?_ _; rotate_left; (first | (dsimp only; omega) | (simp <;> omega))))))
                    · unfold Hid
                      (try rw [← Int.add_assoc])
                      (try rw [← Int.add_assoc])
                      exact blk_alloc (blk_seti (blk_seti hb6.out rfl) rfl)
                  case measure => simp [intOf]; omega
                · have ds : (c.state != 3) = true := by simpa using hst
                  have di : (c.image != s.image) = false := by simpa using him
                  obtain ⟨-, -, -, s3, -⟩ := svc_blk S6.out
                  obtain ⟨x0, x1, x2, x3⟩ := box4 (blk_grow X.out G6.out)
                  have wl6 := blk_lt (blk_grow X.out G6.out)
                  go_wp2_with fail
                  refine (l5Drains_c b c _ (R3.out _ (Keep.grow (g := w.heap.size + 1) (by (repeat (first | with_reducible exact Keep.refl _ _ | with_reducible assumption | with_reducible refine Keep.drew ?_ | with_reducible refine Keep.alloc ?_ _ | with_reducible refine Keep.set ?_ rfl _ | (with_reducible refine Keep.setNew ?_ ?_ _; rotate_left; (first | (dsimp only; omega) | (simp <;> omega)))))) G6.out hW1)) l3).mono ?_
                  rintro e w8 ⟨rfl, hg8⟩
                  have K8 := Lib.hid (show Keep (w.heap.size + 1) wr w8 from Keep.trans (by (repeat (first | with_reducible exact Keep.refl _ _ | with_reducible assumption | with_reducible refine Keep.drew ?_ | with_reducible refine Keep.alloc ?_ _ | with_reducible refine Keep.set ?_ rfl _ | (with_reducible refine Keep.setNew ?_ ?_ _; rotate_left; (first | (dsimp only; omega) | (simp <;> omega)))))) (Keep.of hg8))
                  have B8 := Lib.hid (blk_growd (blk_alloc hb6.out) hg8)
                  have C8 := Lib.hid (show w8.heap[wr.heap.size]? = some (.cells (cpyC c).toArray 65 (0, 0)) from blk_growd (heap_alloc_new wr _) hg8)
                  clear hg8 x0 x1 x2 x3 s3
                  have p0 := cell_of_row w8 _ 0 _ _ _ B8.out
                  have p1 := cell_of_row w8 _ 1 _ _ _ B8.out
                  have p2 := cell_of_row w8 _ 2 _ _ _ B8.out
                  have p3 := cell_of_row w8 _ 3 _ _ _ B8.out
                  have p4 := cell_of_row w8 _ 4 _ _ _ B8.out
                  have pf0 := frozen_of_row w8 _ 0 _ _ B8.out
                  have pf1 := frozen_of_row w8 _ 1 _ _ B8.out
                  have pf2 := frozen_of_row w8 _ 2 _ _ B8.out
                  have pf3 := frozen_of_row w8 _ 3 _ _ B8.out
                  have pf4 := frozen_of_row w8 _ 4 _ _ B8.out
                  obtain ⟨-, -, -, -, c4, -⟩ := cpy_blk C8.out
                  have d5 : ¬ wr.heap.size = w.heap.size + 1 := by omega
                  rcases hdr : drainsB b.brs c.berth
                  · have HBAD := Lib.hid (show badIn b.brs s c = false by simp [badIn, him, hdr])
                    go_wp2
                    go_roundw
                    case rel =>
                      refine ⟨j + 1, y3, y4 + 1, by omega, by go_num, by omega, by omega, ⟨?_, ?_⟩, ?_, ?_⟩
                      · rw [← HS3.out, HBAD.out]; simp
                      · rw [← HS4.out]; simp [hst]
                      · unfold Hid; exact Keep.trans (Keep.trans hk6.out K8.out) (by (repeat (first | with_reducible exact Keep.refl _ _ | with_reducible assumption | with_reducible refine Keep.drew ?_ | with_reducible refine Keep.alloc ?_ _ | with_reducible refine Keep.set ?_ rfl _ | (with_reducible refine Keep.setNew ?_ ?_ _; rotate_left; (first | (dsimp only; omega) | (simp <;> omega))))))
                      · unfold Hid
                        (try rw [← Int.add_assoc])
                        (try rw [← Int.add_assoc])
                        exact (blk_seti B8.out rfl)
                    case measure => simp [intOf]; omega
                  · have HBAD := Lib.hid (show badIn b.brs s c = true by simp [badIn, him, hdr])
                    go_wp2
                    go_roundw
                    case rel =>
                      refine ⟨j + 1, y3 + 1, y4 + 1, by omega, by go_num, by omega, by omega, ⟨?_, ?_⟩, ?_, ?_⟩
                      · rw [← HS3.out, HBAD.out]; simp
                      · rw [← HS4.out]; simp [hst]
                      · unfold Hid; exact Keep.trans (Keep.trans hk6.out K8.out) (by (repeat (first | with_reducible exact Keep.refl _ _ | with_reducible assumption | with_reducible refine Keep.drew ?_ | with_reducible refine Keep.alloc ?_ _ | with_reducible refine Keep.set ?_ rfl _ | (with_reducible refine Keep.setNew ?_ ?_ _; rotate_left; (first | (dsimp only; omega) | (simp <;> omega))))))
                      · unfold Hid
                        (try rw [← Int.add_assoc])
                        (try rw [← Int.add_assoc])
                        exact (blk_seti (blk_seti B8.out rfl) rfl)
                    case measure => simp [intOf]; omega
                · have ds : (c.state != 3) = false := by simpa using hst
                  have di : (c.image != s.image) = true := by simpa using him
                  have HBAD := Lib.hid (show badIn b.brs s c = true by simp [badIn, him])
                  have p0 := cell_of_row wr _ 0 _ _ _ hb6.out
                  have p1 := cell_of_row wr _ 1 _ _ _ hb6.out
                  have p2 := cell_of_row wr _ 2 _ _ _ hb6.out
                  have p3 := cell_of_row wr _ 3 _ _ _ hb6.out
                  have p4 := cell_of_row wr _ 4 _ _ _ hb6.out
                  have pf0 := frozen_of_row wr _ 0 _ _ hb6.out
                  have pf1 := frozen_of_row wr _ 1 _ _ hb6.out
                  have pf2 := frozen_of_row wr _ 2 _ _ hb6.out
                  have pf3 := frozen_of_row wr _ 3 _ _ hb6.out
                  have pf4 := frozen_of_row wr _ 4 _ _ hb6.out
                  obtain ⟨-, -, -, s3, -⟩ := svc_blk S6.out
                  go_wp2
                  go_roundw
                  case rel =>
                    refine ⟨j + 1, y3 + 1, y4, by omega, by go_num, by omega, by omega, ⟨?_, ?_⟩, ?_, ?_⟩
                    · rw [← HS3.out, HBAD.out]; simp
                    · rw [← HS4.out]; simp [hst]
                    · unfold Hid; exact Keep.trans hk6.out (by (repeat (first | with_reducible exact Keep.refl _ _ | with_reducible assumption | with_reducible refine Keep.drew ?_ | with_reducible refine Keep.alloc ?_ _ | with_reducible refine Keep.set ?_ rfl _ | (with_reducible refine Keep.setNew ?_ ?_ _; rotate_left; (first | (dsimp only; omega) | (simp <;> omega))))))
                    · unfold Hid
                      (try rw [← Int.add_assoc])
                      (try rw [← Int.add_assoc])
                      exact blk_alloc (blk_seti hb6.out rfl)
                  case measure => simp [intOf]; omega
                · have ds : (c.state != 3) = false := by simpa using hst
                  have di : (c.image != s.image) = false := by simpa using him
                  obtain ⟨-, -, -, s3, -⟩ := svc_blk S6.out
                  obtain ⟨x0, x1, x2, x3⟩ := box4 (blk_grow X.out G6.out)
                  have wl6 := blk_lt (blk_grow X.out G6.out)
                  go_wp2_with fail
                  refine (l5Drains_c b c _ (R3.out _ (Keep.grow (g := w.heap.size + 1) (by (repeat (first | with_reducible exact Keep.refl _ _ | with_reducible assumption | with_reducible refine Keep.drew ?_ | with_reducible refine Keep.alloc ?_ _ | with_reducible refine Keep.set ?_ rfl _ | (with_reducible refine Keep.setNew ?_ ?_ _; rotate_left; (first | (dsimp only; omega) | (simp <;> omega)))))) G6.out hW1)) l3).mono ?_
                  rintro e w8 ⟨rfl, hg8⟩
                  have K8 := Lib.hid (show Keep (w.heap.size + 1) wr w8 from Keep.trans (by (repeat (first | with_reducible exact Keep.refl _ _ | with_reducible assumption | with_reducible refine Keep.drew ?_ | with_reducible refine Keep.alloc ?_ _ | with_reducible refine Keep.set ?_ rfl _ | (with_reducible refine Keep.setNew ?_ ?_ _; rotate_left; (first | (dsimp only; omega) | (simp <;> omega)))))) (Keep.of hg8))
                  have B8 := Lib.hid (blk_growd (blk_alloc hb6.out) hg8)
                  have C8 := Lib.hid (show w8.heap[wr.heap.size]? = some (.cells (cpyC c).toArray 65 (0, 0)) from blk_growd (heap_alloc_new wr _) hg8)
                  clear hg8 x0 x1 x2 x3 s3
                  have p0 := cell_of_row w8 _ 0 _ _ _ B8.out
                  have p1 := cell_of_row w8 _ 1 _ _ _ B8.out
                  have p2 := cell_of_row w8 _ 2 _ _ _ B8.out
                  have p3 := cell_of_row w8 _ 3 _ _ _ B8.out
                  have p4 := cell_of_row w8 _ 4 _ _ _ B8.out
                  have pf0 := frozen_of_row w8 _ 0 _ _ B8.out
                  have pf1 := frozen_of_row w8 _ 1 _ _ B8.out
                  have pf2 := frozen_of_row w8 _ 2 _ _ B8.out
                  have pf3 := frozen_of_row w8 _ 3 _ _ B8.out
                  have pf4 := frozen_of_row w8 _ 4 _ _ B8.out
                  obtain ⟨-, -, -, -, c4, -⟩ := cpy_blk C8.out
                  have d5 : ¬ wr.heap.size = w.heap.size + 1 := by omega
                  rcases hdr : drainsB b.brs c.berth
                  · have HBAD := Lib.hid (show badIn b.brs s c = false by simp [badIn, him, hdr])
                    go_wp2
                    go_roundw
                    case rel =>
                      refine ⟨j + 1, y3, y4, by omega, by go_num, by omega, by omega, ⟨?_, ?_⟩, ?_, ?_⟩
                      · rw [← HS3.out, HBAD.out]; simp
                      · rw [← HS4.out]; simp [hst]
                      · unfold Hid; exact Keep.trans (Keep.trans hk6.out K8.out) (by (repeat (first | with_reducible exact Keep.refl _ _ | with_reducible assumption | with_reducible refine Keep.drew ?_ | with_reducible refine Keep.alloc ?_ _ | with_reducible refine Keep.set ?_ rfl _ | (with_reducible refine Keep.setNew ?_ ?_ _; rotate_left; (first | (dsimp only; omega) | (simp <;> omega))))))
                      · unfold Hid
                        (try rw [← Int.add_assoc])
                        (try rw [← Int.add_assoc])
                        exact B8.out
                    case measure => simp [intOf]; omega
                  · have HBAD := Lib.hid (show badIn b.brs s c = true by simp [badIn, him, hdr])
                    go_wp2
                    go_roundw
                    case rel =>
                      refine ⟨j + 1, y3 + 1, y4, by omega, by go_num, by omega, by omega, ⟨?_, ?_⟩, ?_, ?_⟩
                      · rw [← HS3.out, HBAD.out]; simp
                      · rw [← HS4.out]; simp [hst]
                      · unfold Hid; exact Keep.trans (Keep.trans hk6.out K8.out) (by (repeat (first | with_reducible exact Keep.refl _ _ | with_reducible assumption | with_reducible refine Keep.drew ?_ | with_reducible refine Keep.alloc ?_ _ | with_reducible refine Keep.set ?_ rfl _ | (with_reducible refine Keep.setNew ?_ ?_ _; rotate_left; (first | (dsimp only; omega) | (simp <;> omega))))))
                      · unfold Hid
                        (try rw [← Int.add_assoc])
                        (try rw [← Int.add_assoc])
                        exact (blk_seti B8.out rfl)
                    case measure => simp [intOf]; omega
              · obtain rfl : j = L.length := by omega
                have hy' := hy.out
                rw [List.take_length, HLL.out, placesOf_count0, placesOf_count0] at hy'
                obtain ⟨rfl, rfl⟩ := hy'
                clear hy b30 b31 b40 b41
                go_wp2
                go_roundw
                case rel => exact ⟨k + 1, z0, z1 + ct.ending, z2 + y2, _, _, by omega, by go_num, by unfold Hid; rw [HK.out, HY2.out], Keep.grow hk6.out G5.out hW1, hb6.out⟩
                case measure => simp [intOf]; omega
        · rw [hg] at s2
          have HK := Lib.hid (rankS_gone l2 HX.out HCT.out hg hrk.out)
          go_still_tail 8, (by kernel_rfl)
          change wpList _ _ _ _ _ W3.drew
          go_wp2_with fail
          refine rename ?_
          intro W4 hW4
          have K4 := Lib.hid (show Keep (w.heap.size + 1) W3 W4 by rw [hW4.out]; (repeat (first | with_reducible exact Keep.refl _ _ | with_reducible assumption | with_reducible refine Keep.drew ?_ | with_reducible refine Keep.alloc ?_ _ | with_reducible refine Keep.set ?_ rfl _ | (with_reducible refine Keep.setNew ?_ ?_ _; rotate_left; (first | (dsimp only; omega) | (simp <;> omega))))))
          have B4 := Lib.hid (heap_eq hW4 (blk_seti (blk_seti (w := W3.drew) B3.out rfl) rfl))
          have C4 := Lib.hid (K4.out.blk C3.out (by omega))
          have G4 := Lib.hid (K4.out.grow G3.out (by rw [SW.out]; omega))
          clear hW4 p0 p1 p2 p3 p4 pf0 pf1 pf2 pf3 pf4 e0 e1 e2 e3 e4 s0 s2 s3 s4
          have p0 := cell_of_row W4 _ 0 _ _ _ B4.out
          have p1 := cell_of_row W4 _ 1 _ _ _ B4.out
          have p2 := cell_of_row W4 _ 2 _ _ _ B4.out
          have p3 := cell_of_row W4 _ 3 _ _ _ B4.out
          have p4 := cell_of_row W4 _ 4 _ _ _ B4.out
          have pf0 := frozen_of_row W4 _ 0 _ _ B4.out
          have pf1 := frozen_of_row W4 _ 1 _ _ B4.out
          have pf2 := frozen_of_row W4 _ 2 _ _ B4.out
          have pf3 := frozen_of_row W4 _ 3 _ _ B4.out
          have pf4 := frozen_of_row W4 _ 4 _ _ B4.out
          have e0 := cell_of_row W4 _ 0 _ _ _ C4.out
          have e1 := cell_of_row W4 _ 1 _ _ _ C4.out
          have e2 := cell_of_row W4 _ 2 _ _ _ C4.out
          have e3 := cell_of_row W4 _ 3 _ _ _ C4.out
          have e4 := cell_of_row W4 _ 4 _ _ _ C4.out
          go_still_tail 8, (by kernel_rfl)
          change wpList _ _ _ _ _ W4.drew
          go_wp2
          go_roundw
          case rel => exact ⟨k + 1, z0 + 1, z1 + ct.ending + ct.live, z2, z3, z4, by omega, by go_num, HK.out, by unfold Hid; exact Keep.grow (g := w.heap.size + 1) (by (repeat (first | with_reducible exact Keep.refl _ _ | with_reducible assumption | with_reducible refine Keep.drew ?_ | with_reducible refine Keep.alloc ?_ _ | with_reducible refine Keep.set ?_ rfl _ | (with_reducible refine Keep.setNew ?_ ?_ _; rotate_left; (first | (dsimp only; omega) | (simp <;> omega)))))) G4.out (by rw [SW.out]; omega), blk_seti (w := W4.drew) B4.out rfl⟩
          case measure => simp [intOf]; omega
      · obtain rfl : k = b.svcs.length := by omega
        obtain ⟨x0, x1, x2, x3⟩ := box4 (blk_grow X.out hgr.out)
        go_wp2
        go_ret
        rw [HR.out, hrk.out]
        exact ⟨_, rfl, own_of_blk (L := [.int .i64 z0, .int .i64 z1, .int .i64 z2, .int .i64 z3, .int .i64 z4]) hrb.out rfl (by omega) (by decide), GW.out.trans hgr.out⟩
end Go.Proofs.Ytnmknkdbeccmhaa
