/- The walk of the program's StewRank. The walks of StewDone, the reference's and the program's. -/
import Derived.Test.YtnmknkdbeccmhaaAp12
import Derived.Test.YtnmknkdbeccmhaaAp9
namespace Go.Proofs.Ytnmknkdbeccmhaa
open Go.RowKit
set_option linter.unusedSimpArgs false
set_option linter.unusedVariables false

theorem drained_d (b : Book) (c : Cpy) {g : Nat} {A1 A2 A3 : Option Addr} {c1 c2 c3 : Nat} (w : World) (d : Bool) (hd : drainsB b.brs c.berth = d) (hb : BookBlk w g b A1 A2 A3 c1 c2 c3) (h3 : Rows 2 brtC w A3 b.brs) (l3 : b.brs.length ≤ 2000000) :
    Calls Try.prog 89 #[.pointer (some ⟨g, 0, none⟩), .agg #[.string c.service, .int .i64 c.number, .int .i64 c.version, .int .i64 c.image, .int .i64 c.state, .bool c.ending, .string c.berth]] w fun e w' => e = .returned (.bool d) ∧ Grow w w' := by
  subst hd; exact drained_c b c w hb h3 l3
theorem half_bd {b : Book} (hf : Fit b) {k : Nat} {z0 z2 : Int} (h0 : z0 = gones (b.svcs.take k)) (h2 : z2 = offSum b.cps (b.svcs.take k)) : (0 ≤ z0 ∧ z0 ≤ 100) ∧ (0 ≤ z2 ∧ z2 ≤ 10000) := by
  have h := rankS_bd hf (k := k) rfl
  subst h0 h2
  exact ⟨h.1, h.2.2.1⟩
set_option maxRecDepth 100000 in
set_option maxHeartbeats 4000000 in
theorem implRank_c (b : Book) {A1 A2 A3 : Option Addr} {c1 c2 c3 : Nat} (w : World) (h1 : Rows 13 svcC w A1 b.svcs) (h2 : Rows 7 cpyC w A2 b.cps) (h3 : Rows 2 brtC w A3 b.brs)
    (l1 : b.svcs.length ≤ 2000000) (l2 : b.cps.length ≤ 2000000) (l3 : b.brs.length ≤ 2000000) :
    Calls Try.prog 33 #[.agg #[.int .i64 b.now, .slice A1 b.svcs.length c1, .slice A2 b.cps.length c2, .slice A3 b.brs.length c3]] w (MadeRow 3 1 intC (rankB b) w) := by
  obtain ⟨W, hW⟩ : ∃ W, W = w.alloc (.cells #[.int .i64 b.now, .slice A1 b.svcs.length c1, .slice A2 b.cps.length c2, .slice A3 b.brs.length c3] 34) := ⟨_, rfl⟩
  have HW := Lib.hid hW
  have GW := Lib.hid (show Grow w W by rw [hW]; (repeat (first | with_reducible exact Grow.refl _ | with_reducible assumption | with_reducible refine Grow.drew ?_ | with_reducible refine Grow.alloc ?_ _ | (with_reducible refine Grow.set ?_ ?_ _; rotate_left; (first | (dsimp only; omega) | (simp <;> omega))))))
  have X := Lib.hid (show BookBlk W w.heap.size b A1 A2 A3 c1 c2 c3 by rw [hW]; exact heap_alloc_new _ _)
  have R1 := Lib.hid (fun (w' : World) (hg : Grow W w') => h1.below (GW.out.trans hg))
  have R2 := Lib.hid (fun (w' : World) (hg : Grow W w') => h2.below (GW.out.trans hg))
  have R3 := Lib.hid (fun (w' : World) (hg : Grow W w') => h3.below (GW.out.trans hg))
  have SW := Lib.hid (show W.heap.size = w.heap.size + 1 by rw [hW]; simp)
  have hmk : ∀ w, (Instr.makeSlice 56 (.int .i64 5) (.int .i64 5)).run Try.prog w = .ok (.slice (some ⟨w.heap.size, 0, none⟩) 5 5) (w.alloc (.cells #[.int .i64 0, .int .i64 0, .int .i64 0, .int .i64 0, .int .i64 0] 3)) := fun _ => by kernel_rfl
  clear h1 h2 h3 hW
  go_enter Try.func33, Try.ntmps33
  go_wp2_with fail
  refine (implValid_c b _ (R1.out _ (by rw [HW.out]; (repeat (first | with_reducible exact Grow.refl _ | with_reducible assumption | with_reducible refine Grow.drew ?_ | with_reducible refine Grow.alloc ?_ _ | (with_reducible refine Grow.set ?_ ?_ _; rotate_left; (first | (dsimp only; omega) | (simp <;> omega))))))) (R2.out _ (by rw [HW.out]; (repeat (first | with_reducible exact Grow.refl _ | with_reducible assumption | with_reducible refine Grow.drew ?_ | with_reducible refine Grow.alloc ?_ _ | (with_reducible refine Grow.set ?_ ?_ _; rotate_left; (first | (dsimp only; omega) | (simp <;> omega))))))) (R3.out _ (by rw [HW.out]; (repeat (first | with_reducible exact Grow.refl _ | with_reducible assumption | with_reducible refine Grow.drew ?_ | with_reducible refine Grow.alloc ?_ _ | (with_reducible refine Grow.set ?_ ?_ _; rotate_left; (first | (dsimp only; omega) | (simp <;> omega))))))) l1 l2 l3).mono ?_
  rintro e w1 ⟨rfl, hg1⟩
  clear hmk
  have G1 := Lib.hid (show Grow W w1 from Grow.trans (by rw [HW.out]; (repeat (first | with_reducible exact Grow.refl _ | with_reducible assumption | with_reducible refine Grow.drew ?_ | with_reducible refine Grow.alloc ?_ _ | (with_reducible refine Grow.set ?_ ?_ _; rotate_left; (first | (dsimp only; omega) | (simp <;> omega)))))) hg1)
  have B1 := Lib.hid (blk_grow (heap_alloc2_new w _ _) hg1)
  clear hg1
  rcases hv : valid b
  · have HR := Lib.hid (show rankB b = [0, 0, 0, 0, 0] by simp [rankB, hv])
    go_wp2
    go_ret
    rw [HR.out]
    exact ⟨_, rfl, own_of_blk (L := [.int .i64 0, .int .i64 0, .int .i64 0, .int .i64 0, .int .i64 0]) B1.out rfl (by omega) (by decide), GW.out.trans G1.out⟩
  · have HR := Lib.hid (show rankB b = rankV b by simp [rankB, hv])
    have hf := fit_of_valid hv
    have HF := Lib.hid hf
    have m1 := hf.l1
    have m2 := hf.l2
    have hW1 : W.heap.size ≤ w.heap.size + 1 := by rw [SW.out]; omega
    clear hf
    have x1 := (box4 (blk_grow X.out G1.out)).2.1
    go_wp2_with fail
    go_loopw [18] (fun i wr => ∃ (k : Nat) (z0 z2 : Int), k ≤ b.svcs.length ∧ i = .int .i64 k ∧ Hid (z0 = gones (b.svcs.take k) ∧ z2 = offSum b.cps (b.svcs.take k)) ∧ Hid (Grow W wr) ∧ Hid (wr.heap[w.heap.size + 1]? = some (.cells #[.int .i64 z0, .int .i64 0, .int .i64 z2, .int .i64 0, .int .i64 0] 3 (0, 0)))) (fun i _ => b.svcs.length - (intOf i).toNat)
    case atStart => exact ⟨0, 0, 0, Nat.zero_le _, rfl, by unfold Hid; simp [gones, offSum], G1.out, B1.out⟩
    case round =>
      obtain ⟨k, z0, z2, hk, rfl, hz, hgr, hrb⟩ := hrel
      by_cases hlt : k < b.svcs.length
      · obtain ⟨s, hx⟩ := ex_at hlt
        have hn := HF.out.num s (List.mem_of_getElem? hx)
        have HX := Lib.hid hx
        obtain ⟨bs, os, rfl, hbs, f0, f1, f2, f3, f4, f5, f6, f7, f8, f9, f10, f11, f12⟩ := svc_at (R1.out _ hgr.out) hx
        obtain ⟨x0, x1, x2, x3⟩ := box4 (blk_grow X.out hgr.out)
        obtain ⟨⟨u0, v0⟩, ⟨u2, v2⟩⟩ := half_bd HF.out hz.out.1 hz.out.2
        have k0 : (0 : Int) ≤ (k : Int) := Int.natCast_nonneg _
        have k1 : (k : Int) < (b.svcs.length : Int) := by omega
        unfold SvcNum at hn
        obtain ⟨-, -, -, -, -, -, wn0, wn1, -⟩ := hn
        have hr0 := blk_lt hrb.out
        clear hx
        rcases hg : s.gone
        · rw [hg] at f2
          obtain ⟨ct, hct⟩ : ∃ ct, cntOf b.cps s.name s.image = ct := ⟨_, rfl⟩
          have cb := cntOf_bd s.name s.image l2
          rw [hct] at cb
          have HCT := Lib.hid hct
          clear hct
          obtain ⟨hlw, HY⟩ | ⟨hlw, HY⟩ : (ct.live < s.want ∧ Hid (offBy b.cps s = s.want - ct.live)) ∨ (¬ ct.live < s.want ∧ Hid (offBy b.cps s = ct.live - s.want)) := by
            by_cases hlw : ct.live < s.want
            · exact .inl ⟨hlw, by unfold Hid offBy; rw [if_neg (by simp [hg]), HCT.out, if_pos hlw]⟩
            · exact .inr ⟨hlw, by unfold Hid offBy; rw [if_neg (by simp [hg]), HCT.out, if_neg hlw]⟩
          all_goals
            go_wp2_with fail
            refine (count_v b s.name s.image _ ct (X.out.grow hgr.out) (R2.out _ hgr.out) l2 f0 f3 HCT.out).mono ?_
            rintro e w2 ⟨rfl, hg2⟩
            go_upto_region 11 with fail
            refine rename ?_
            intro W3 hW3
            have G3 := Lib.hid (grow_eq hW3 ((Grow.trans hgr.out hg2).alloc _))
            have B3 := Lib.hid (heap_eq hW3 (blk_alloc (blk_grow hrb.out hg2)))
            have C3 := Lib.hid (heap_eq hW3 (heap_alloc_new w2 _))
            obtain ⟨-, -, -, -, s4, -⟩ := svc_cells (R1.out _ G3.out) HX.out
            have hr3 := blk_lt (blk_grow hrb.out hg2)
            have K3 := Lib.hid G3.out
            clear hW3 f0 f1 f2 f3 f4 f5 f6 f7 f8 f9 f10 f11 f12 x0 x1 x2 x3
            have p0 := cell_of_row W3 _ 0 _ _ _ B3.out
            have p1 := cell_of_row W3 _ 1 _ _ _ B3.out
            have p2 := cell_of_row W3 _ 2 _ _ _ B3.out
            have p3 := cell_of_row W3 _ 3 _ _ _ B3.out
            have p4 := cell_of_row W3 _ 4 _ _ _ B3.out
            have pf0 := frozen_of_row W3 _ 0 _ _ B3.out
            have pf1 := frozen_of_row W3 _ 1 _ _ B3.out
            have pf2 := frozen_of_row W3 _ 2 _ _ B3.out
            have pf3 := frozen_of_row W3 _ 3 _ _ B3.out
            have pf4 := frozen_of_row W3 _ 4 _ _ B3.out
            have e0 := cell_of_row W3 _ 0 _ _ _ C3.out
            have e1 := cell_of_row W3 _ 1 _ _ _ C3.out
            have e2 := cell_of_row W3 _ 2 _ _ _ C3.out
            have e3 := cell_of_row W3 _ 3 _ _ _ C3.out
            have e4 := cell_of_row W3 _ 4 _ _ _ C3.out
            have t1 : IntKind.i64.wrap (ct.live - s.want) = ct.live - s.want := IntWalk.i64_in _ (by omega)
            have t2 : IntKind.i64.wrap (s.want - ct.live) = s.want - ct.live := IntWalk.i64_in _ (by omega)
            have t3 : IntKind.i64.wrap (z2 + (ct.live - s.want)) = z2 + (ct.live - s.want) := IntWalk.i64_in _ (by omega)
            have t4 : IntKind.i64.wrap (z2 + (s.want - ct.live)) = z2 + (s.want - ct.live) := IntWalk.i64_in _ (by omega)
            go_still_tail 20, (by kernel_rfl)
            change wpList _ _ _ _ _ W3.drew
            go_wp2
            go_roundw
            case rel => exact ⟨k + 1, z0, z2 + offBy b.cps s, by omega, by go_num, by unfold Hid; rw [gones_succ HX.out, offSum_succ HX.out, if_neg (by simp [hg]), ← hz.out.1, ← hz.out.2]; omega, by unfold Hid; exact Keep.grow (g := w.heap.size + 1) (by (repeat (first | with_reducible exact Keep.refl _ _ | with_reducible assumption | with_reducible refine Keep.drew ?_ | with_reducible refine Keep.alloc ?_ _ | with_reducible refine Keep.set ?_ rfl _ | (with_reducible refine Keep.setNew ?_ ?_ _; rotate_left; (first | (dsimp only; omega) | (simp <;> omega)))))) G3.out hW1, by unfold Hid; rw [HY.out]; exact blk_seti (w := W3.drew) B3.out rfl⟩
            case measure => simp [intOf]; omega
        · rw [hg] at f2
          have HO := Lib.hid (show offBy b.cps s = 0 by unfold offBy; rw [if_pos hg])
          have p0 := cell_of_row wr _ 0 _ _ _ hrb.out
          have p1 := cell_of_row wr _ 1 _ _ _ hrb.out
          have p2 := cell_of_row wr _ 2 _ _ _ hrb.out
          have p3 := cell_of_row wr _ 3 _ _ _ hrb.out
          have p4 := cell_of_row wr _ 4 _ _ _ hrb.out
          have pf0 := frozen_of_row wr _ 0 _ _ hrb.out
          have pf1 := frozen_of_row wr _ 1 _ _ hrb.out
          have pf2 := frozen_of_row wr _ 2 _ _ hrb.out
          have pf3 := frozen_of_row wr _ 3 _ _ hrb.out
          have pf4 := frozen_of_row wr _ 4 _ _ hrb.out
          go_wp2
          go_roundw
          case rel => exact ⟨k + 1, z0 + 1, z2, by omega, by go_num, by unfold Hid; rw [gones_succ HX.out, offSum_succ HX.out, HO.out, if_pos hg, ← hz.out.1, ← hz.out.2]; omega, by unfold Hid; exact Keep.grow (g := w.heap.size + 1) (by (repeat (first | with_reducible exact Keep.refl _ _ | with_reducible assumption | with_reducible refine Keep.drew ?_ | with_reducible refine Keep.alloc ?_ _ | with_reducible refine Keep.set ?_ rfl _ | (with_reducible refine Keep.setNew ?_ ?_ _; rotate_left; (first | (dsimp only; omega) | (simp <;> omega)))))) hgr.out hW1, blk_seti hrb.out rfl⟩
          case measure => simp [intOf]; omega
      · obtain rfl : k = b.svcs.length := by omega
        obtain ⟨⟨u0, v0⟩, ⟨u2, v2⟩⟩ := half_bd HF.out hz.out.1 hz.out.2
        have HZ := Lib.hid (show z0 = gones b.svcs ∧ z2 = offSum b.cps b.svcs by have := hz.out; rwa [List.take_length] at this)
        obtain ⟨wo, rfl⟩ : ∃ wo : World, wo = wr := ⟨_, rfl⟩
        have x2 := (box4 (blk_grow X.out hgr.out)).2.2.1
        clear hz
        go_wp2_with fail
        go_loopw [60] (fun i w6 => ∃ (k : Nat) (y1 y3 y4 : Int), k ≤ b.cps.length ∧ i = .int .i64 k ∧ (0 ≤ y1 ∧ y1 ≤ k) ∧ (0 ≤ y3 ∧ y3 ≤ k) ∧ (0 ≤ y4 ∧ y4 ≤ k) ∧ Hid (y1 = ((b.cps.take k).countP (r1P b.svcs) : Int) ∧ y3 = ((b.cps.take k).countP (r3P b.svcs b.brs) : Int) ∧ y4 = ((b.cps.take k).countP (r4P b.svcs) : Int)) ∧ Hid (Grow W w6) ∧
            Hid (w6.heap[w.heap.size + 1]? = some (.cells #[.int .i64 z0, .int .i64 y1, .int .i64 z2, .int .i64 y3, .int .i64 y4] 3 (0, 0)))) (fun i _ => b.cps.length - (intOf i).toNat)
        case atStart => exact ⟨0, 0, 0, 0, Nat.zero_le _, rfl, by omega, by omega, by omega, by unfold Hid; simp, hgr.out, hrb.out⟩
        case round =>
          obtain ⟨k, y1, y3, y4, hk, rfl, ⟨b10, b11⟩, ⟨b30, b31⟩, ⟨b40, b41⟩, hy, hgr, hrb⟩ := hrel
          by_cases hlt : k < b.cps.length
          · obtain ⟨c, hc⟩ := ex_at hlt
            obtain ⟨i, hi⟩ := Option.isSome_iff_exists.1 (HF.out.own c (List.mem_of_getElem? hc))
            obtain ⟨s, hs, hsn⟩ := svcAt_some hi
            have HS := Lib.hid hs
            have E1 := Lib.hid (countP_succ (p := r1P b.svcs) hc)
            have E3 := Lib.hid (countP_succ (p := r3P b.svcs b.brs) hc)
            have E4 := Lib.hid (countP_succ (p := r4P b.svcs) hc)
            have ho : svcOf b.svcs c = some s := by simp [svcOf, hi, hs]
            obtain ⟨bb, o, rfl, hbb, f0, f1, f2, f3, f4, f5, f6⟩ := cpy_at (R2.out _ hgr.out) hc
            obtain ⟨bs, os, rfl, hbs, -⟩ := svc_at (R1.out _ hgr.out) hs
            have Hi := Lib.hid (show elemPtr 13 (some ⟨bs, os, none⟩) (svcAt b.svcs c.service) = some ⟨bs, os + i * 13, none⟩ by rw [hi]; rfl)
            have k0 : (0 : Int) ≤ (k : Int) := Int.natCast_nonneg _
            have k1 : (k : Int) < (b.cps.length : Int) := by omega
            have hr0 := blk_lt hrb.out
            have HG := Lib.hid (show r1P b.svcs c = (c.ending || s.gone) by simp [r1P, goneOf, ho])
            have HG3 := Lib.hid (show r3P b.svcs b.brs c = (!c.ending && (!s.gone && (!decide (c.image = s.image) || drainsB b.brs c.berth))) by simp [r3P, ho, badIn])
            have HG4 := Lib.hid (show r4P b.svcs c = (!c.ending && (!s.gone && !decide (c.state = 3))) by simp [r4P, goneOf, ho])
            clear hc hi hs hsn ho
            obtain ⟨-, -, s2, s3, -⟩ := svc_cells (R1.out _ hgr.out) HS.out
            have p0 := cell_of_row wr _ 0 _ _ _ hrb.out
            have p1 := cell_of_row wr _ 1 _ _ _ hrb.out
            have p2 := cell_of_row wr _ 2 _ _ _ hrb.out
            have p3 := cell_of_row wr _ 3 _ _ _ hrb.out
            have p4 := cell_of_row wr _ 4 _ _ _ hrb.out
            have pf0 := frozen_of_row wr _ 0 _ _ hrb.out
            have pf1 := frozen_of_row wr _ 1 _ _ hrb.out
            have pf2 := frozen_of_row wr _ 2 _ _ hrb.out
            have pf3 := frozen_of_row wr _ 3 _ _ hrb.out
            have pf4 := frozen_of_row wr _ 4 _ _ hrb.out
            by_cases hgo : c.ending = true ∨ s.gone = true
            · have H1 := Lib.hid (HG.out.trans (show _ = true by rcases hgo with h | h <;> simp [h]))
              have H3 := Lib.hid (HG3.out.trans (show _ = false by rcases hgo with h | h <;> simp [h]))
              have H4 := Lib.hid (HG4.out.trans (show _ = false by rcases hgo with h | h <;> simp [h]))
              rcases he : c.ending
              all_goals rw [he] at f5
              · have hgone : s.gone = true := by simpa [he] using hgo
                rw [hgone] at s2
                clear hgo
                go_wp2_with (go_at_call 71; refine (service_r b c.service _ _ (X.out.grow (hgr.out.alloc _)) (R1.out _ (hgr.out.alloc _)) l1 Hi.out).mono ?_; rintro e w2 ⟨rfl, rfl⟩)
                go_roundw
                case rel =>
                  refine ⟨k + 1, y1 + 1, y3, y4, by omega, by go_num, by omega, by omega, by omega, ⟨?_, ?_, ?_⟩, ?_, ?_⟩
                  · rw [E1.out, H1.out, ← hy.out.1]; rfl
                  · rw [E3.out, H3.out, ← hy.out.2.1]; simp
                  · rw [E4.out, H4.out, ← hy.out.2.2]; simp
                  · unfold Hid; exact Keep.grow (g := w.heap.size + 1) (by (repeat (first | with_reducible exact Keep.refl _ _ | with_reducible assumption | with_reducible refine Keep.drew ?_ | with_reducible refine Keep.alloc ?_ _ | with_reducible refine Keep.set ?_ rfl _ | (with_reducible refine Keep.setNew ?_ ?_ _; rotate_left; (first | (dsimp only; omega) | (simp <;> omega)))))) hgr.out hW1
                  · exact blk_alloc (blk_seti hrb.out rfl)
                case measure => simp [intOf]; omega
              · clear hgo
                go_wp2_with (go_at_call 71; refine (service_r b c.service _ _ (X.out.grow (hgr.out.alloc _)) (R1.out _ (hgr.out.alloc _)) l1 Hi.out).mono ?_; rintro e w2 ⟨rfl, rfl⟩)
                go_roundw
                case rel =>
                  refine ⟨k + 1, y1 + 1, y3, y4, by omega, by go_num, by omega, by omega, by omega, ⟨?_, ?_, ?_⟩, ?_, ?_⟩
                  · rw [E1.out, H1.out, ← hy.out.1]; rfl
                  · rw [E3.out, H3.out, ← hy.out.2.1]; simp
                  · rw [E4.out, H4.out, ← hy.out.2.2]; simp
                  · unfold Hid; exact Keep.grow (g := w.heap.size + 1) (by (repeat (first | with_reducible exact Keep.refl _ _ | with_reducible assumption | with_reducible refine Keep.drew ?_ | with_reducible refine Keep.alloc ?_ _ | with_reducible refine Keep.set ?_ rfl _ | (with_reducible refine Keep.setNew ?_ ?_ _; rotate_left; (first | (dsimp only; omega) | (simp <;> omega)))))) hgr.out hW1
                  · exact blk_alloc (blk_seti hrb.out rfl)
                case measure => simp [intOf]; omega
            · have he : c.ending = false := by cases h : c.ending <;> simp_all
              have hgone : s.gone = false := by cases h : s.gone <;> simp_all
              rw [he] at f5
              rw [hgone] at s2
              have H1 := Lib.hid (HG.out.trans (show _ = false by simp [he, hgone]))
              have H3 := Lib.hid (HG3.out.trans (show _ = (!decide (c.image = s.image) || drainsB b.brs c.berth) by simp [he, hgone]))
              have H4 := Lib.hid (HG4.out.trans (show _ = !decide (c.state = 3) by simp [he, hgone]))
              clear hgo p0 p1 p2 p3 p4 pf0 pf1 pf2 pf3 pf4
              go_wp2_with (go_at_call 71; refine (service_r b c.service _ _ (X.out.grow (hgr.out.alloc _)) (R1.out _ (hgr.out.alloc _)) l1 Hi.out).mono ?_; rintro e w2 ⟨rfl, rfl⟩)
              refine rename ?_
              intro W7 hW7
              have G7 := Lib.hid (grow_eq hW7 (hgr.out.alloc _))
              have B7 := Lib.hid (heap_eq hW7 (blk_alloc hrb.out))
              have C7 := Lib.hid (show W7.heap[wr.heap.size]? = some (.cells (cpyC c).toArray 65 (0, 0)) by unfold cpyC; rw [he]; exact heap_eq hW7 (heap_alloc_new wr _))
              have hr7 := blk_lt C7.out
              clear hW7 f0 f1 f2 f3 f4 f5 f6 s2 s3
              have t0 : IntKind.i64.wrap (y3 + 0) = y3 := by rw [Int.add_zero]; exact IntWalk.i64_in _ (by omega)
              have t1 : IntKind.i64.wrap (y3 + 1) = y3 + 1 := IntWalk.i64_in _ (by omega)
              have t2 : IntKind.i64.wrap (y4 + 0) = y4 := by rw [Int.add_zero]; exact IntWalk.i64_in _ (by omega)
              have t3 : IntKind.i64.wrap (y4 + 1) = y4 + 1 := IntWalk.i64_in _ (by omega)
              have t4 : IntKind.i64.wrap y3 = y3 := IntWalk.i64_in _ (by omega)
              have t5 : IntKind.i64.wrap y4 = y4 := IntWalk.i64_in _ (by omega)
              have p3 := blk_p B7.out 3
              have a0 := fun y => (cpy_blk (blk_grow C7.out (Grow.wplus W7 y))).1
              have a1 := fun y => (cpy_blk (blk_grow C7.out (Grow.wplus W7 y))).2.1
              have a2 := fun y => (cpy_blk (blk_grow C7.out (Grow.wplus W7 y))).2.2.1
              have a3 := fun y => (cpy_blk (blk_grow C7.out (Grow.wplus W7 y))).2.2.2.1
              have a4 := fun y => (cpy_blk (blk_grow C7.out (Grow.wplus W7 y))).2.2.2.2.1
              have a5 := fun y => (cpy_blk (blk_grow C7.out (Grow.wplus W7 y))).2.2.2.2.2.1
              have a6 := fun y => (cpy_blk (blk_grow C7.out (Grow.wplus W7 y))).2.2.2.2.2.2
              have s3 := fun y => (svc_cells (R1.out _ (G7.out.trans (Grow.wplus W7 y))) HS.out).2.2.2.1
              rcases him : decide (c.image = s.image)
              · have di : (c.image != s.image) = true := by simpa using him
                have hdr : drainsB b.brs c.berth = drainsB b.brs c.berth := rfl
                refine at_plus ?_
                refine region_quiet_tail 17 ⟨_, rfl⟩ (by kernel_rfl) (by kernel_rfl) ?_
                simp only [List.take_succ_cons, List.take_zero, List.drop_succ_cons, List.drop_zero]
                repeat (first | go_big_quiet_step ((first | (go_at_call 89; exact quiet_grow (drained_d b ⟨c.service, c.number, c.version, c.image, c.state, false, c.berth⟩ _ _ hdr (X.out.grow (G7.out.trans (Grow.wplus W7 _))) (R3.out _ (G7.out.trans (Grow.wplus W7 _))) l3)) | (go_at_call 88; first | exact quiet_same (one_t _) | exact quiet_same (one_f _)))) | quiet_step (fail))
                refine wpQuiet_nil ?_
                rintro w8 ⟨y, rfl⟩
                clear a0 a1 a2 a3 a4 a5 a6 p3 s3
                have z3 := frozen_of_row _ _ 3 _ _ (blk_grow B7.out (Grow.wplus W7 y))
                have q3 := cell_of_row _ _ 3 _ _ _ (blk_grow B7.out (Grow.wplus W7 y))
                go_wp2_with fail
                refine rename ?_
                intro W8 hW8
                have K8 := Lib.hid (show Keep (w.heap.size + 1) W7 W8 by rw [hW8.out]; exact Keep.set (Keep.of (Grow.wplus W7 y)) rfl _)
                have B8 := Lib.hid (heap_eq hW8 (blk_seti (blk_grow B7.out (Grow.wplus W7 y)) rfl))
                have G8 := Lib.hid (K8.out.grow G7.out hW1)
                have C8 := Lib.hid (K8.out.blk C7.out (by omega))
                clear hW8 z3 q3
                have p4 := blk_p B8.out 4
                have a4 := fun y => (cpy_blk (blk_grow C8.out (Grow.wplus W8 y))).2.2.2.2.1
                rcases hst : decide (c.state = 3)
                · have ds : (c.state != 3) = true := by simpa using hst
                  refine at_plus ?_
                  refine region_quiet_tail 9 ⟨_, rfl⟩ (by kernel_rfl) (by kernel_rfl) ?_
                  simp only [List.take_succ_cons, List.take_zero, List.drop_succ_cons, List.drop_zero]
                  repeat (first | go_big_quiet_step ((go_at_call 88; first | exact quiet_same (one_t _) | exact quiet_same (one_f _))) | quiet_step (fail))
                  refine wpQuiet_nil ?_
                  rintro w9 ⟨y', rfl⟩
                  clear a4 p4
                  have z4 := frozen_of_row _ _ 4 _ _ (blk_grow B8.out (Grow.wplus W8 y'))
                  have q4 := cell_of_row _ _ 4 _ _ _ (blk_grow B8.out (Grow.wplus W8 y'))
                  go_wp2
                  go_roundw
                  case rel =>
                    refine ⟨k + 1, y1, y3 + 1, y4 + 1, by omega, by go_num, by omega, by omega, by omega, ⟨?_, ?_, ?_⟩, ?_, ?_⟩
                    · rw [E1.out, H1.out, ← hy.out.1]; simp
                    · rw [E3.out, H3.out, ← hy.out.2.1]; simp [him]
                    · rw [E4.out, H4.out, ← hy.out.2.2]; simp [hst]
                    · unfold Hid; exact Keep.grow (g := w.heap.size + 1) (Keep.set (Keep.of (Grow.wplus W8 y')) rfl _) G8.out hW1
                    · exact blk_seti (blk_grow B8.out (Grow.wplus W8 y')) rfl
                  case measure => simp [intOf]; omega
                · have ds : (c.state != 3) = false := by simpa using hst
                  refine at_plus ?_
                  refine region_quiet_tail 9 ⟨_, rfl⟩ (by kernel_rfl) (by kernel_rfl) ?_
                  simp only [List.take_succ_cons, List.take_zero, List.drop_succ_cons, List.drop_zero]
                  repeat (first | go_big_quiet_step ((go_at_call 88; first | exact quiet_same (one_t _) | exact quiet_same (one_f _))) | quiet_step (fail))
                  refine wpQuiet_nil ?_
                  rintro w9 ⟨y', rfl⟩
                  clear a4 p4
                  have z4 := frozen_of_row _ _ 4 _ _ (blk_grow B8.out (Grow.wplus W8 y'))
                  have q4 := cell_of_row _ _ 4 _ _ _ (blk_grow B8.out (Grow.wplus W8 y'))
                  go_wp2
                  go_roundw
                  case rel =>
                    refine ⟨k + 1, y1, y3 + 1, y4, by omega, by go_num, by omega, by omega, by omega, ⟨?_, ?_, ?_⟩, ?_, ?_⟩
                    · rw [E1.out, H1.out, ← hy.out.1]; simp
                    · rw [E3.out, H3.out, ← hy.out.2.1]; simp [him]
                    · rw [E4.out, H4.out, ← hy.out.2.2]; simp [hst]
                    · unfold Hid; exact Keep.grow (g := w.heap.size + 1) (Keep.set (Keep.of (Grow.wplus W8 y')) rfl _) G8.out hW1
                    · exact blk_seti (blk_grow B8.out (Grow.wplus W8 y')) rfl
                  case measure => simp [intOf]; omega
              · have di : (c.image != s.image) = false := by simpa using him
                rcases hdr : drainsB b.brs c.berth
                ·
                  refine at_plus ?_
                  refine region_quiet_tail 17 ⟨_, rfl⟩ (by kernel_rfl) (by kernel_rfl) ?_
                  simp only [List.take_succ_cons, List.take_zero, List.drop_succ_cons, List.drop_zero]
                  repeat (first | go_big_quiet_step ((first | (go_at_call 89; exact quiet_grow (drained_d b ⟨c.service, c.number, c.version, c.image, c.state, false, c.berth⟩ _ _ hdr (X.out.grow (G7.out.trans (Grow.wplus W7 _))) (R3.out _ (G7.out.trans (Grow.wplus W7 _))) l3)) | (go_at_call 88; first | exact quiet_same (one_t _) | exact quiet_same (one_f _)))) | quiet_step (fail))
                  refine wpQuiet_nil ?_
                  rintro w8 ⟨y, rfl⟩
                  clear a0 a1 a2 a3 a4 a5 a6 p3 s3
                  have z3 := frozen_of_row _ _ 3 _ _ (blk_grow B7.out (Grow.wplus W7 y))
                  have q3 := cell_of_row _ _ 3 _ _ _ (blk_grow B7.out (Grow.wplus W7 y))
                  go_wp2_with fail
                  refine rename ?_
                  intro W8 hW8
                  have K8 := Lib.hid (show Keep (w.heap.size + 1) W7 W8 by rw [hW8.out]; exact Keep.set (Keep.of (Grow.wplus W7 y)) rfl _)
                  have B8 := Lib.hid (heap_eq hW8 (blk_seti (blk_grow B7.out (Grow.wplus W7 y)) rfl))
                  have G8 := Lib.hid (K8.out.grow G7.out hW1)
                  have C8 := Lib.hid (K8.out.blk C7.out (by omega))
                  clear hW8 z3 q3
                  have p4 := blk_p B8.out 4
                  have a4 := fun y => (cpy_blk (blk_grow C8.out (Grow.wplus W8 y))).2.2.2.2.1
                  rcases hst : decide (c.state = 3)
                  · have ds : (c.state != 3) = true := by simpa using hst
                    refine at_plus ?_
                    refine region_quiet_tail 9 ⟨_, rfl⟩ (by kernel_rfl) (by kernel_rfl) ?_
                    simp only [List.take_succ_cons, List.take_zero, List.drop_succ_cons, List.drop_zero]
                    repeat (first | go_big_quiet_step ((go_at_call 88; first | exact quiet_same (one_t _) | exact quiet_same (one_f _))) | quiet_step (fail))
                    refine wpQuiet_nil ?_
                    rintro w9 ⟨y', rfl⟩
                    clear a4 p4
                    have z4 := frozen_of_row _ _ 4 _ _ (blk_grow B8.out (Grow.wplus W8 y'))
                    have q4 := cell_of_row _ _ 4 _ _ _ (blk_grow B8.out (Grow.wplus W8 y'))
                    go_wp2
                    go_roundw
                    case rel =>
                      refine ⟨k + 1, y1, y3, y4 + 1, by omega, by go_num, by omega, by omega, by omega, ⟨?_, ?_, ?_⟩, ?_, ?_⟩
                      · rw [E1.out, H1.out, ← hy.out.1]; simp
                      · rw [E3.out, H3.out, ← hy.out.2.1]; simp [him, hdr]
                      · rw [E4.out, H4.out, ← hy.out.2.2]; simp [hst]
                      · unfold Hid; exact Keep.grow (g := w.heap.size + 1) (Keep.set (Keep.of (Grow.wplus W8 y')) rfl _) G8.out hW1
                      · exact blk_seti (blk_grow B8.out (Grow.wplus W8 y')) rfl
                    case measure => simp [intOf]; omega
                  · have ds : (c.state != 3) = false := by simpa using hst
                    refine at_plus ?_
                    refine region_quiet_tail 9 ⟨_, rfl⟩ (by kernel_rfl) (by kernel_rfl) ?_
                    simp only [List.take_succ_cons, List.take_zero, List.drop_succ_cons, List.drop_zero]
                    repeat (first | go_big_quiet_step ((go_at_call 88; first | exact quiet_same (one_t _) | exact quiet_same (one_f _))) | quiet_step (fail))
                    refine wpQuiet_nil ?_
                    rintro w9 ⟨y', rfl⟩
                    clear a4 p4
                    have z4 := frozen_of_row _ _ 4 _ _ (blk_grow B8.out (Grow.wplus W8 y'))
                    have q4 := cell_of_row _ _ 4 _ _ _ (blk_grow B8.out (Grow.wplus W8 y'))
                    go_wp2
                    go_roundw
                    case rel =>
                      refine ⟨k + 1, y1, y3, y4, by omega, by go_num, by omega, by omega, by omega, ⟨?_, ?_, ?_⟩, ?_, ?_⟩
                      · rw [E1.out, H1.out, ← hy.out.1]; simp
                      · rw [E3.out, H3.out, ← hy.out.2.1]; simp [him, hdr]
                      · rw [E4.out, H4.out, ← hy.out.2.2]; simp [hst]
                      · unfold Hid; exact Keep.grow (g := w.heap.size + 1) (Keep.set (Keep.of (Grow.wplus W8 y')) rfl _) G8.out hW1
                      · exact blk_seti (blk_grow B8.out (Grow.wplus W8 y')) rfl
                    case measure => simp [intOf]; omega
                ·
                  refine at_plus ?_
                  refine region_quiet_tail 17 ⟨_, rfl⟩ (by kernel_rfl) (by kernel_rfl) ?_
                  simp only [List.take_succ_cons, List.take_zero, List.drop_succ_cons, List.drop_zero]
                  repeat (first | go_big_quiet_step ((first | (go_at_call 89; exact quiet_grow (drained_d b ⟨c.service, c.number, c.version, c.image, c.state, false, c.berth⟩ _ _ hdr (X.out.grow (G7.out.trans (Grow.wplus W7 _))) (R3.out _ (G7.out.trans (Grow.wplus W7 _))) l3)) | (go_at_call 88; first | exact quiet_same (one_t _) | exact quiet_same (one_f _)))) | quiet_step (fail))
                  refine wpQuiet_nil ?_
                  rintro w8 ⟨y, rfl⟩
                  clear a0 a1 a2 a3 a4 a5 a6 p3 s3
                  have z3 := frozen_of_row _ _ 3 _ _ (blk_grow B7.out (Grow.wplus W7 y))
                  have q3 := cell_of_row _ _ 3 _ _ _ (blk_grow B7.out (Grow.wplus W7 y))
                  go_wp2_with fail
                  refine rename ?_
                  intro W8 hW8
                  have K8 := Lib.hid (show Keep (w.heap.size + 1) W7 W8 by rw [hW8.out]; exact Keep.set (Keep.of (Grow.wplus W7 y)) rfl _)
                  have B8 := Lib.hid (heap_eq hW8 (blk_seti (blk_grow B7.out (Grow.wplus W7 y)) rfl))
                  have G8 := Lib.hid (K8.out.grow G7.out hW1)
                  have C8 := Lib.hid (K8.out.blk C7.out (by omega))
                  clear hW8 z3 q3
                  have p4 := blk_p B8.out 4
                  have a4 := fun y => (cpy_blk (blk_grow C8.out (Grow.wplus W8 y))).2.2.2.2.1
                  rcases hst : decide (c.state = 3)
                  · have ds : (c.state != 3) = true := by simpa using hst
                    refine at_plus ?_
                    refine region_quiet_tail 9 ⟨_, rfl⟩ (by kernel_rfl) (by kernel_rfl) ?_
                    simp only [List.take_succ_cons, List.take_zero, List.drop_succ_cons, List.drop_zero]
                    repeat (first | go_big_quiet_step ((go_at_call 88; first | exact quiet_same (one_t _) | exact quiet_same (one_f _))) | quiet_step (fail))
                    refine wpQuiet_nil ?_
                    rintro w9 ⟨y', rfl⟩
                    clear a4 p4
                    have z4 := frozen_of_row _ _ 4 _ _ (blk_grow B8.out (Grow.wplus W8 y'))
                    have q4 := cell_of_row _ _ 4 _ _ _ (blk_grow B8.out (Grow.wplus W8 y'))
                    go_wp2
                    go_roundw
                    case rel =>
                      refine ⟨k + 1, y1, y3 + 1, y4 + 1, by omega, by go_num, by omega, by omega, by omega, ⟨?_, ?_, ?_⟩, ?_, ?_⟩
                      · rw [E1.out, H1.out, ← hy.out.1]; simp
                      · rw [E3.out, H3.out, ← hy.out.2.1]; simp [him, hdr]
                      · rw [E4.out, H4.out, ← hy.out.2.2]; simp [hst]
                      · unfold Hid; exact Keep.grow (g := w.heap.size + 1) (Keep.set (Keep.of (Grow.wplus W8 y')) rfl _) G8.out hW1
                      · exact blk_seti (blk_grow B8.out (Grow.wplus W8 y')) rfl
                    case measure => simp [intOf]; omega
                  · have ds : (c.state != 3) = false := by simpa using hst
                    refine at_plus ?_
                    refine region_quiet_tail 9 ⟨_, rfl⟩ (by kernel_rfl) (by kernel_rfl) ?_
                    simp only [List.take_succ_cons, List.take_zero, List.drop_succ_cons, List.drop_zero]
                    repeat (first | go_big_quiet_step ((go_at_call 88; first | exact quiet_same (one_t _) | exact quiet_same (one_f _))) | quiet_step (fail))
                    refine wpQuiet_nil ?_
                    rintro w9 ⟨y', rfl⟩
                    clear a4 p4
                    have z4 := frozen_of_row _ _ 4 _ _ (blk_grow B8.out (Grow.wplus W8 y'))
                    have q4 := cell_of_row _ _ 4 _ _ _ (blk_grow B8.out (Grow.wplus W8 y'))
                    go_wp2
                    go_roundw
                    case rel =>
                      refine ⟨k + 1, y1, y3 + 1, y4, by omega, by go_num, by omega, by omega, by omega, ⟨?_, ?_, ?_⟩, ?_, ?_⟩
                      · rw [E1.out, H1.out, ← hy.out.1]; simp
                      · rw [E3.out, H3.out, ← hy.out.2.1]; simp [him, hdr]
                      · rw [E4.out, H4.out, ← hy.out.2.2]; simp [hst]
                      · unfold Hid; exact Keep.grow (g := w.heap.size + 1) (Keep.set (Keep.of (Grow.wplus W8 y')) rfl _) G8.out hW1
                      · exact blk_seti (blk_grow B8.out (Grow.wplus W8 y')) rfl
                    case measure => simp [intOf]; omega
          · obtain rfl : k = b.cps.length := by omega
            have hy' := hy.out
            rw [List.take_length] at hy'
            have HY := Lib.hid hy'
            clear hy hy'
            go_wp2
            go_ret
            rw [HR.out, show rankV b = [z0, y1, z2, y3, y4] by rw [HZ.out.1, HZ.out.2, HY.out.1, HY.out.2.1, HY.out.2.2]; rfl]
            exact ⟨_, rfl, own_of_blk (L := [.int .i64 z0, .int .i64 y1, .int .i64 z2, .int .i64 y3, .int .i64 y4]) hrb.out rfl (by omega) (by decide), GW.out.trans hgr.out⟩
end Go.Proofs.Ytnmknkdbeccmhaa
namespace Go.Proofs.Ytnmknkdbeccmhaa
open Go.RowKit
set_option linter.unusedSimpArgs false
set_option linter.unusedVariables false

theorem int_at {w : World} {bl ol : Nat} {xs : List Int} (h : Rows 1 intC w (some ⟨bl, ol, none⟩) xs) {j : Nat} {i : Int} (hi : xs[j]? = some i) : w.cell? ⟨bl, ol + j, none⟩ = some (.int .i64 i) := by
  obtain ⟨b, o, e, hc⟩ := h.at_ hi
  simp only [Option.some.injEq, Addr.mk.injEq] at e
  obtain ⟨rfl, rfl, -⟩ := e
  have := hc 0 _ rfl
  simpa using this
theorem l5Desired_d (s : Svc) (d : Int) (hd : dsr s = d) (hn : SvcNum s 1000000) (hp : 0 < s.per) (w : World) : Calls Try.prog 84 #[.agg #[.string s.name, .int .i64 s.version, .bool s.gone, .int .i64 s.image, .int .i64 s.want, .int .i64 s.down, .int .i64 s.over, .int .i64 s.next, .int .i64 s.per, .int .i64 s.least, .int .i64 s.most, .int .i64 s.load, .int .i64 s.cool]] w fun e w' => e = .returned (.int .i64 d) ∧ Grow w w' := by
  subst hd; exact l5Desired_c s hn hp w
theorem demand_d (s : Svc) (d : Int) (hd : dsr s = d) (hn : SvcNum s 1000000) (hp : 0 < s.per) {bs os : Nat} (w : World) (s8 : w.cell? ⟨bs, os + 8, none⟩ = some (.int .i64 s.per)) (s9 : w.cell? ⟨bs, os + 9, none⟩ = some (.int .i64 s.least)) (s10 : w.cell? ⟨bs, os + 10, none⟩ = some (.int .i64 s.most)) (s11 : w.cell? ⟨bs, os + 11, none⟩ = some (.int .i64 s.load)) :
    Calls Try.prog 85 #[.pointer (some ⟨bs, os, none⟩)] w fun e w' => e = .returned (.int .i64 d) ∧ Grow w w' := by
  subst hd; exact demand_c s hn hp w s8 s9 s10 s11
theorem all_succ {α : Type} {p : α → Bool} {xs : List α} {k : Nat} {x : α} (h : xs[k]? = some x) (ha : (xs.take k).all p = true) : (xs.take (k + 1)).all p = p x := by
  rw [take_succ_at h, List.all_append, ha]; simp
theorem all_no {α : Type} {p : α → Bool} {xs : List α} {k : Nat} {x : α} (h : xs[k]? = some x) (hp : p x = false) : xs.all p = false := by
  rw [List.all_eq_false]
  exact ⟨x, List.mem_of_getElem? h, by simp [hp]⟩
def isZero (r : Int) : Bool := decide (r = 0)
theorem doneB_eq {b : Book} (hv : valid b = true) : doneB b = ((rankB b).all isZero && b.svcs.all wantsOk) := by
  have : isZero = fun r => decide (r = 0) := rfl
  simp [doneB, hv, rankB, this]
theorem wants_no {s : Svc} (h : ¬ 0 < s.per) : wantsOk s = true := by unfold wantsOk; rw [decide_eq_true (by omega)]; rfl
theorem wants_if {s : Svc} (h : 0 < s.per) : wantsOk s = (decide (s.want = dsr s) && decide (s.cool = 0)) := by unfold wantsOk; rw [decide_eq_false (by omega)]; rfl
set_option maxRecDepth 100000 in
set_option maxHeartbeats 4000000 in
theorem specDone_c (b : Book) {A1 A2 A3 : Option Addr} {c1 c2 c3 : Nat} (w : World) (h1 : Rows 13 svcC w A1 b.svcs) (h2 : Rows 7 cpyC w A2 b.cps) (h3 : Rows 2 brtC w A3 b.brs)
    (l1 : b.svcs.length ≤ 2000000) (l2 : b.cps.length ≤ 2000000) (l3 : b.brs.length ≤ 2000000) :
    Calls Try.prog 30 #[.agg #[.int .i64 b.now, .slice A1 b.svcs.length c1, .slice A2 b.cps.length c2, .slice A3 b.brs.length c3]] w fun e w' => e = .returned (.bool (doneB b)) ∧ Grow w w' := by
  have R1 := Lib.hid (fun (w' : World) (hg : Grow w w') => h1.below hg)
  have R2 := Lib.hid (fun (w' : World) (hg : Grow w w') => h2.below hg)
  have R3 := Lib.hid (fun (w' : World) (hg : Grow w w') => h3.below hg)
  clear h1 h2 h3
  go_enter Try.func30, Try.ntmps30
  go_wp2_with fail
  refine (specValid_c b _ (R1.out _ (by (repeat (first | with_reducible exact Grow.refl _ | with_reducible assumption | with_reducible refine Grow.drew ?_ | with_reducible refine Grow.alloc ?_ _ | (with_reducible refine Grow.set ?_ ?_ _; rotate_left; (first | (dsimp only; omega) | (simp <;> omega))))))) (R2.out _ (by (repeat (first | with_reducible exact Grow.refl _ | with_reducible assumption | with_reducible refine Grow.drew ?_ | with_reducible refine Grow.alloc ?_ _ | (with_reducible refine Grow.set ?_ ?_ _; rotate_left; (first | (dsimp only; omega) | (simp <;> omega))))))) (R3.out _ (by (repeat (first | with_reducible exact Grow.refl _ | with_reducible assumption | with_reducible refine Grow.drew ?_ | with_reducible refine Grow.alloc ?_ _ | (with_reducible refine Grow.set ?_ ?_ _; rotate_left; (first | (dsimp only; omega) | (simp <;> omega))))))) l1 l2 l3).mono ?_
  rintro e w1 ⟨rfl, hg1⟩
  have G1 := Lib.hid (Grow.trans (show Grow w _ by (repeat (first | with_reducible exact Grow.refl _ | with_reducible assumption | with_reducible refine Grow.drew ?_ | with_reducible refine Grow.alloc ?_ _ | (with_reducible refine Grow.set ?_ ?_ _; rotate_left; (first | (dsimp only; omega) | (simp <;> omega)))))) hg1)
  have X1 := Lib.hid (blk_grow (heap_alloc_new w _) hg1)
  obtain ⟨x0, x1, x2, x3⟩ := box4 X1.out
  clear hg1
  rcases hv : valid b
  · have HF := Lib.hid (show doneB b = false by simp [doneB, hv])
    go_wp2
    go_ret
    exact ⟨ret_bool HF.out.symm, G1.out⟩
  · have HF := Lib.hid (doneB_eq hv)
    have NM := Lib.hid (fit_of_valid hv).num
    go_wp2_with fail
    refine (specRank_c b w1 (R1.out _ G1.out) (R2.out _ G1.out) (R3.out _ G1.out) l1 l2 l3).mono ?_
    rintro e w2 ⟨v, rfl, ho, hg2⟩
    obtain ⟨AL, cL, rfl, -, rL⟩ := own_rows intC_len rfl ho
    have G2 := Lib.hid (G1.out.trans hg2)
    have X2 := Lib.hid (blk_grow X1.out hg2)
    have RL := Lib.hid rL
    obtain ⟨L, hL⟩ : ∃ L, L = rankB b := ⟨_, rfl⟩
    have L5 : L.length ≤ 2000000 := by subst hL; unfold rankB rankV; split <;> simp
    rw [← hL] at RL HF
    rw [← hL]
    clear ho hg2 rL x0 x1 x2 x3 hL
    go_wp2_with fail
    go_loop [4] (fun i => ∃ k : Nat, k ≤ L.length ∧ i = .int .i64 k ∧ Hid ((L.take k).all isZero = true)) (fun i => L.length - (intOf i).toNat)
    case atStart => exact ⟨0, Nat.zero_le _, rfl, by unfold Hid; simp⟩
    case round =>
      obtain ⟨k, hk, rfl, ha⟩ := hrel
      by_cases hlt : k < L.length
      · obtain ⟨z, hz⟩ := ex_at hlt
        obtain ⟨bl, ol, rfl, -⟩ := RL.out.at_ hz
        have hc := int_at RL.out hz
        have k0 : (0 : Int) ≤ (k : Int) := Int.natCast_nonneg _
        have k1 : (k : Int) < (L.length : Int) := by omega
        have HS := Lib.hid (all_succ hz ha.out)
        have HN := Lib.hid (fun h => all_no (p := isZero) hz h)
        clear hz
        rcases hzz : decide (z = 0)
        · have dz : (z != 0) = true := by simpa using hzz
          go_wp2
          go_ret
          exact ⟨ret_bool (by rw [HF.out, HN.out hzz]; rfl), G2.out⟩
        · have dz : (z != 0) = false := by simpa using hzz
          go_wp2
          go_round
          case rel => exact ⟨k + 1, by omega, by go_num, HS.out.trans hzz⟩
          case measure => simp [intOf]; omega
      · obtain rfl : k = L.length := by omega
        have HZ := Lib.hid (show L.all isZero = true by have := ha.out; rwa [List.take_length] at this)
        replace HF := Lib.hid (HF.out.trans (by rw [HZ.out, Bool.true_and]))
        clear ha HZ
        go_wp2_with fail
        go_loopw [5] (fun i wr => ∃ k : Nat, k ≤ b.svcs.length ∧ i = .int .i64 k ∧ Hid (Grow w2 wr) ∧ Hid ((b.svcs.take k).all wantsOk = true)) (fun i _ => b.svcs.length - (intOf i).toNat)
        case atStart => exact ⟨0, Nat.zero_le _, rfl, Grow.refl _, by unfold Hid; simp⟩
        case round =>
          obtain ⟨k, hk, rfl, hgr, ha⟩ := hrel
          obtain ⟨x0, x1, x2, x3⟩ := box4 (blk_grow X2.out hgr.out)
          by_cases hlt : k < b.svcs.length
          · obtain ⟨s, hx⟩ := ex_at hlt
            have hn := Lib.hid (NM.out s (List.mem_of_getElem? hx))
            obtain ⟨bs, os, rfl, hbs, f0, f1, f2, f3, f4, f5, f6, f7, f8, f9, f10, f11, f12⟩ := svc_at (R1.out _ (G2.out.trans hgr.out)) hx
            have HS := Lib.hid (all_succ hx ha.out)
            have HN := Lib.hid (fun h => all_no (p := wantsOk) hx h)
            have wl := blk_lt (blk_grow X2.out hgr.out)
            clear hx
            go_upto_region 13 with fail
            refine rename ?_
            intro W3 hW3
            have G3 := Lib.hid (grow_eq hW3 (hgr.out.alloc _))
            have C3 := Lib.hid (show W3.heap[wr.heap.size]? = some (.cells (svcC s).toArray 83 (0, 0)) from heap_eq hW3 (heap_alloc_new wr _))
            clear hW3 f0 f1 f2 f3 f4 f5 f6 f7 f8 f9 f10 f11 f12 x0 x1 x2 x3
            have a0 := fun y => (svc_blk (blk_grow C3.out (Grow.wplus W3 y))).1
            have a1 := fun y => (svc_blk (blk_grow C3.out (Grow.wplus W3 y))).2.1
            have a2 := fun y => (svc_blk (blk_grow C3.out (Grow.wplus W3 y))).2.2.1
            have a3 := fun y => (svc_blk (blk_grow C3.out (Grow.wplus W3 y))).2.2.2.1
            have a4 := fun y => (svc_blk (blk_grow C3.out (Grow.wplus W3 y))).2.2.2.2.1
            have a5 := fun y => (svc_blk (blk_grow C3.out (Grow.wplus W3 y))).2.2.2.2.2.1
            have a6 := fun y => (svc_blk (blk_grow C3.out (Grow.wplus W3 y))).2.2.2.2.2.2.1
            have a7 := fun y => (svc_blk (blk_grow C3.out (Grow.wplus W3 y))).2.2.2.2.2.2.2.1
            have a8 := fun y => (svc_blk (blk_grow C3.out (Grow.wplus W3 y))).2.2.2.2.2.2.2.2.1
            have a9 := fun y => (svc_blk (blk_grow C3.out (Grow.wplus W3 y))).2.2.2.2.2.2.2.2.2.1
            have a10 := fun y => (svc_blk (blk_grow C3.out (Grow.wplus W3 y))).2.2.2.2.2.2.2.2.2.2.1
            have a11 := fun y => (svc_blk (blk_grow C3.out (Grow.wplus W3 y))).2.2.2.2.2.2.2.2.2.2.2.1
            have a12 := fun y => (svc_blk (blk_grow C3.out (Grow.wplus W3 y))).2.2.2.2.2.2.2.2.2.2.2.2
            by_cases hp : 0 < s.per
            · have dp : decide (0 < s.per) = true := decide_eq_true hp
              obtain ⟨d, hd⟩ : ∃ d, dsr s = d := ⟨_, rfl⟩
              have HD := Lib.hid hd
              have HWW := Lib.hid (show wantsOk s = (decide (s.want = d) && decide (s.cool = 0)) by rw [wants_if hp, hd])
              clear hd
              rcases hw : decide (s.want = d)
              · have dw : (s.want != d) = true := by simpa using hw
                have HW := Lib.hid (HWW.out.trans (show _ = false by simp [hw]))
                refine at_plus ?_
                refine region_quiet ⟨_, rfl⟩ (by kernel_rfl) (by kernel_rfl) ?_
                repeat (first | go_big_quiet_step ((go_at_call 84; exact quiet_grow (l5Desired_d s d HD.out hn.out hp _))) | quiet_step (fail))
                refine wpQuiet_nil ?_
                rintro w5 ⟨y, rfl⟩
                go_wp2
                go_ret
                exact ⟨ret_bool (by rw [HF.out, HN.out HW.out]), (G2.out.trans G3.out).trans (Grow.wplus _ _)⟩
              · have dw : (s.want != d) = false := by simpa using hw
                rcases hc : decide (s.cool = 0)
                · have dc : (s.cool != 0) = true := by simpa using hc
                  have HW := Lib.hid (HWW.out.trans (show _ = false by simp [hw, hc]))
                  refine at_plus ?_
                  refine region_quiet ⟨_, rfl⟩ (by kernel_rfl) (by kernel_rfl) ?_
                  repeat (first | go_big_quiet_step ((go_at_call 84; exact quiet_grow (l5Desired_d s d HD.out hn.out hp _))) | quiet_step (fail))
                  refine wpQuiet_nil ?_
                  rintro w5 ⟨y, rfl⟩
                  go_wp2
                  go_ret
                  exact ⟨ret_bool (by rw [HF.out, HN.out HW.out]), (G2.out.trans G3.out).trans (Grow.wplus _ _)⟩
                · have dc : (s.cool != 0) = false := by simpa using hc
                  have HW := Lib.hid (HWW.out.trans (show _ = true by simp [hw, hc]))
                  refine at_plus ?_
                  refine region_quiet ⟨_, rfl⟩ (by kernel_rfl) (by kernel_rfl) ?_
                  repeat (first | go_big_quiet_step ((go_at_call 84; exact quiet_grow (l5Desired_d s d HD.out hn.out hp _))) | quiet_step (fail))
                  refine wpQuiet_nil ?_
                  rintro w5 ⟨y, rfl⟩
                  go_wp2
                  go_roundw
                  case rel => exact ⟨k + 1, by omega, by go_num, G3.out.trans (Grow.wplus _ _), HS.out.trans HW.out⟩
                  case measure => simp [intOf]; omega
            · have dp : decide (0 < s.per) = false := decide_eq_false hp
              have HW := Lib.hid (wants_no hp)
              refine at_plus ?_
              refine region_quiet ⟨_, rfl⟩ (by kernel_rfl) (by kernel_rfl) ?_
              repeat (first | go_big_quiet_step (fail) | quiet_step (fail))
              refine wpQuiet_nil ?_
              rintro w5 ⟨y, rfl⟩
              go_wp2
              go_roundw
              case rel => exact ⟨k + 1, by omega, by go_num, G3.out.trans (Grow.wplus _ _), HS.out.trans HW.out⟩
              case measure => simp [intOf]; omega
          · obtain rfl : k = b.svcs.length := by omega
            have HZ := Lib.hid (show b.svcs.all wantsOk = true by have := ha.out; rwa [List.take_length] at this)
            go_wp2
            go_ret
            exact ⟨ret_bool (by rw [HF.out, HZ.out]), G2.out.trans hgr.out⟩
set_option maxRecDepth 100000 in
set_option maxHeartbeats 4000000 in
theorem implDone_c (b : Book) {A1 A2 A3 : Option Addr} {c1 c2 c3 : Nat} (w : World) (h1 : Rows 13 svcC w A1 b.svcs) (h2 : Rows 7 cpyC w A2 b.cps) (h3 : Rows 2 brtC w A3 b.brs)
    (l1 : b.svcs.length ≤ 2000000) (l2 : b.cps.length ≤ 2000000) (l3 : b.brs.length ≤ 2000000) :
    Calls Try.prog 31 #[.agg #[.int .i64 b.now, .slice A1 b.svcs.length c1, .slice A2 b.cps.length c2, .slice A3 b.brs.length c3]] w fun e w' => e = .returned (.bool (doneB b)) ∧ Grow w w' := by
  have R1 := Lib.hid (fun (w' : World) (hg : Grow w w') => h1.below hg)
  have R2 := Lib.hid (fun (w' : World) (hg : Grow w w') => h2.below hg)
  have R3 := Lib.hid (fun (w' : World) (hg : Grow w w') => h3.below hg)
  clear h1 h2 h3
  go_enter Try.func31, Try.ntmps31
  go_wp2_with fail
  refine (implValid_c b _ (R1.out _ (by (repeat (first | with_reducible exact Grow.refl _ | with_reducible assumption | with_reducible refine Grow.drew ?_ | with_reducible refine Grow.alloc ?_ _ | (with_reducible refine Grow.set ?_ ?_ _; rotate_left; (first | (dsimp only; omega) | (simp <;> omega))))))) (R2.out _ (by (repeat (first | with_reducible exact Grow.refl _ | with_reducible assumption | with_reducible refine Grow.drew ?_ | with_reducible refine Grow.alloc ?_ _ | (with_reducible refine Grow.set ?_ ?_ _; rotate_left; (first | (dsimp only; omega) | (simp <;> omega))))))) (R3.out _ (by (repeat (first | with_reducible exact Grow.refl _ | with_reducible assumption | with_reducible refine Grow.drew ?_ | with_reducible refine Grow.alloc ?_ _ | (with_reducible refine Grow.set ?_ ?_ _; rotate_left; (first | (dsimp only; omega) | (simp <;> omega))))))) l1 l2 l3).mono ?_
  rintro e w1 ⟨rfl, hg1⟩
  have G1 := Lib.hid (Grow.trans (show Grow w _ by (repeat (first | with_reducible exact Grow.refl _ | with_reducible assumption | with_reducible refine Grow.drew ?_ | with_reducible refine Grow.alloc ?_ _ | (with_reducible refine Grow.set ?_ ?_ _; rotate_left; (first | (dsimp only; omega) | (simp <;> omega)))))) hg1)
  have X1 := Lib.hid (blk_grow (heap_alloc_new w _) hg1)
  obtain ⟨x0, x1, x2, x3⟩ := box4 X1.out
  clear hg1
  rcases hv : valid b
  · have HF := Lib.hid (show doneB b = false by simp [doneB, hv])
    go_wp2
    go_ret
    exact ⟨ret_bool HF.out.symm, G1.out⟩
  · have HF := Lib.hid (doneB_eq hv)
    have NM := Lib.hid (fit_of_valid hv).num
    go_wp2_with fail
    refine (implRank_c b w1 (R1.out _ G1.out) (R2.out _ G1.out) (R3.out _ G1.out) l1 l2 l3).mono ?_
    rintro e w2 ⟨v, rfl, ho, hg2⟩
    obtain ⟨AL, cL, rfl, -, rL⟩ := own_rows intC_len rfl ho
    have G2 := Lib.hid (G1.out.trans hg2)
    have X2 := Lib.hid (blk_grow X1.out hg2)
    have RL := Lib.hid rL
    obtain ⟨L, hL⟩ : ∃ L, L = rankB b := ⟨_, rfl⟩
    have L5 : L.length ≤ 2000000 := by subst hL; unfold rankB rankV; split <;> simp
    rw [← hL] at RL HF
    rw [← hL]
    clear ho hg2 rL x0 x1 x2 x3 hL
    go_wp2_with fail
    go_loop [13] (fun i => ∃ k : Nat, k ≤ L.length ∧ i = .int .i64 k ∧ Hid ((L.take k).all isZero = true)) (fun i => L.length - (intOf i).toNat)
    case atStart => exact ⟨0, Nat.zero_le _, rfl, by unfold Hid; simp⟩
    case round =>
      obtain ⟨k, hk, rfl, ha⟩ := hrel
      by_cases hlt : k < L.length
      · obtain ⟨z, hz⟩ := ex_at hlt
        obtain ⟨bl, ol, rfl, -⟩ := RL.out.at_ hz
        have hc := int_at RL.out hz
        have k0 : (0 : Int) ≤ (k : Int) := Int.natCast_nonneg _
        have k1 : (k : Int) < (L.length : Int) := by omega
        have HS := Lib.hid (all_succ hz ha.out)
        have HN := Lib.hid (fun h => all_no (p := isZero) hz h)
        clear hz
        rcases hzz : decide (z = 0)
        · have dz : (z != 0) = true := by simpa using hzz
          go_wp2
          go_ret
          exact ⟨ret_bool (by rw [HF.out, HN.out hzz]; rfl), G2.out⟩
        · have dz : (z != 0) = false := by simpa using hzz
          go_wp2
          go_round
          case rel => exact ⟨k + 1, by omega, by go_num, HS.out.trans hzz⟩
          case measure => simp [intOf]; omega
      · obtain rfl : k = L.length := by omega
        have HZ := Lib.hid (show L.all isZero = true by have := ha.out; rwa [List.take_length] at this)
        replace HF := Lib.hid (HF.out.trans (by rw [HZ.out, Bool.true_and]))
        clear ha HZ
        have x1 := (box4 X2.out).2.1
        go_wp2_with fail
        go_loopw [23] (fun i wr => ∃ k : Nat, k ≤ b.svcs.length ∧ i = .int .i64 k ∧ Hid (Grow w2 wr) ∧ Hid ((b.svcs.take k).all wantsOk = true)) (fun i _ => b.svcs.length - (intOf i).toNat)
        case atStart => exact ⟨0, Nat.zero_le _, rfl, Grow.refl _, by unfold Hid; simp⟩
        case round =>
          obtain ⟨k, hk, rfl, hgr, ha⟩ := hrel
          obtain ⟨x0, x1, x2, x3⟩ := box4 (blk_grow X2.out hgr.out)
          by_cases hlt : k < b.svcs.length
          · obtain ⟨s, hx⟩ := ex_at hlt
            have hn := Lib.hid (NM.out s (List.mem_of_getElem? hx))
            obtain ⟨bs, os, rfl, hbs, f0, f1, f2, f3, f4, f5, f6, f7, f8, f9, f10, f11, f12⟩ := svc_at (R1.out _ (G2.out.trans hgr.out)) hx
            have HX := Lib.hid hx
            have HS := Lib.hid (all_succ hx ha.out)
            have HN := Lib.hid (fun h => all_no (p := wantsOk) hx h)
            clear hx
            have k0 : (0 : Int) ≤ (k : Int) := Int.natCast_nonneg _
            have k1 : (k : Int) < (b.svcs.length : Int) := by omega
            go_upto_region 13 with fail
            clear f0 f1 f2 f3 f4 f5 f6 f7 f8 f9 f10 f11 f12 x0 x1 x2 x3
            have G3 := Lib.hid hgr.out
            have a0 := fun y => (svc_cells (R1.out _ ((G2.out.trans hgr.out).trans (Grow.wplus wr y))) HX.out).1
            have a1 := fun y => (svc_cells (R1.out _ ((G2.out.trans hgr.out).trans (Grow.wplus wr y))) HX.out).2.1
            have a2 := fun y => (svc_cells (R1.out _ ((G2.out.trans hgr.out).trans (Grow.wplus wr y))) HX.out).2.2.1
            have a3 := fun y => (svc_cells (R1.out _ ((G2.out.trans hgr.out).trans (Grow.wplus wr y))) HX.out).2.2.2.1
            have a4 := fun y => (svc_cells (R1.out _ ((G2.out.trans hgr.out).trans (Grow.wplus wr y))) HX.out).2.2.2.2.1
            have a5 := fun y => (svc_cells (R1.out _ ((G2.out.trans hgr.out).trans (Grow.wplus wr y))) HX.out).2.2.2.2.2.1
            have a6 := fun y => (svc_cells (R1.out _ ((G2.out.trans hgr.out).trans (Grow.wplus wr y))) HX.out).2.2.2.2.2.2.1
            have a7 := fun y => (svc_cells (R1.out _ ((G2.out.trans hgr.out).trans (Grow.wplus wr y))) HX.out).2.2.2.2.2.2.2.1
            have a8 := fun y => (svc_cells (R1.out _ ((G2.out.trans hgr.out).trans (Grow.wplus wr y))) HX.out).2.2.2.2.2.2.2.2.1
            have a9 := fun y => (svc_cells (R1.out _ ((G2.out.trans hgr.out).trans (Grow.wplus wr y))) HX.out).2.2.2.2.2.2.2.2.2.1
            have a10 := fun y => (svc_cells (R1.out _ ((G2.out.trans hgr.out).trans (Grow.wplus wr y))) HX.out).2.2.2.2.2.2.2.2.2.2.1
            have a11 := fun y => (svc_cells (R1.out _ ((G2.out.trans hgr.out).trans (Grow.wplus wr y))) HX.out).2.2.2.2.2.2.2.2.2.2.2.1
            have a12 := fun y => (svc_cells (R1.out _ ((G2.out.trans hgr.out).trans (Grow.wplus wr y))) HX.out).2.2.2.2.2.2.2.2.2.2.2.2
            by_cases hp : 0 < s.per
            · have dp : decide (0 < s.per) = true := decide_eq_true hp
              obtain ⟨d, hd⟩ : ∃ d, dsr s = d := ⟨_, rfl⟩
              have HD := Lib.hid hd
              have HWW := Lib.hid (show wantsOk s = (decide (s.want = d) && decide (s.cool = 0)) by rw [wants_if hp, hd])
              clear hd
              rcases hw : decide (s.want = d)
              · have dw : (s.want != d) = true := by simpa using hw
                have HW := Lib.hid (HWW.out.trans (show _ = false by simp [hw]))
                refine at_plus ?_
                refine region_quiet ⟨_, rfl⟩ (by kernel_rfl) (by kernel_rfl) ?_
                repeat (first | go_big_quiet_step ((go_at_call 85; exact quiet_grow (demand_d s d HD.out hn.out hp _ (a8 _) (a9 _) (a10 _) (a11 _)))) | quiet_step (fail))
                refine wpQuiet_nil ?_
                rintro w5 ⟨y, rfl⟩
                go_wp2
                go_ret
                exact ⟨ret_bool (by rw [HF.out, HN.out HW.out]), (G2.out.trans G3.out).trans (Grow.wplus _ _)⟩
              · have dw : (s.want != d) = false := by simpa using hw
                rcases hc : decide (s.cool = 0)
                · have dc : (s.cool != 0) = true := by simpa using hc
                  have HW := Lib.hid (HWW.out.trans (show _ = false by simp [hw, hc]))
                  refine at_plus ?_
                  refine region_quiet ⟨_, rfl⟩ (by kernel_rfl) (by kernel_rfl) ?_
                  repeat (first | go_big_quiet_step ((go_at_call 85; exact quiet_grow (demand_d s d HD.out hn.out hp _ (a8 _) (a9 _) (a10 _) (a11 _)))) | quiet_step (fail))
                  refine wpQuiet_nil ?_
                  rintro w5 ⟨y, rfl⟩
                  go_wp2
                  go_ret
                  exact ⟨ret_bool (by rw [HF.out, HN.out HW.out]), (G2.out.trans G3.out).trans (Grow.wplus _ _)⟩
                · have dc : (s.cool != 0) = false := by simpa using hc
                  have HW := Lib.hid (HWW.out.trans (show _ = true by simp [hw, hc]))
                  refine at_plus ?_
                  refine region_quiet ⟨_, rfl⟩ (by kernel_rfl) (by kernel_rfl) ?_
                  repeat (first | go_big_quiet_step ((go_at_call 85; exact quiet_grow (demand_d s d HD.out hn.out hp _ (a8 _) (a9 _) (a10 _) (a11 _)))) | quiet_step (fail))
                  refine wpQuiet_nil ?_
                  rintro w5 ⟨y, rfl⟩
                  go_wp2
                  go_roundw
                  case rel => exact ⟨k + 1, by omega, by go_num, G3.out.trans (Grow.wplus _ _), HS.out.trans HW.out⟩
                  case measure => simp [intOf]; omega
            · have dp : decide (0 < s.per) = false := decide_eq_false hp
              have HW := Lib.hid (wants_no hp)
              refine at_plus ?_
              refine region_quiet ⟨_, rfl⟩ (by kernel_rfl) (by kernel_rfl) ?_
              repeat (first | go_big_quiet_step (fail) | quiet_step (fail))
              refine wpQuiet_nil ?_
              rintro w5 ⟨y, rfl⟩
              go_wp2
              go_roundw
              case rel => exact ⟨k + 1, by omega, by go_num, G3.out.trans (Grow.wplus _ _), HS.out.trans HW.out⟩
              case measure => simp [intOf]; omega
          · obtain rfl : k = b.svcs.length := by omega
            have HZ := Lib.hid (show b.svcs.all wantsOk = true by have := ha.out; rwa [List.take_length] at this)
            go_wp2
            go_ret
            exact ⟨ret_bool (by rw [HF.out, HZ.out]), G2.out.trans hgr.out⟩
end Go.Proofs.Ytnmknkdbeccmhaa
