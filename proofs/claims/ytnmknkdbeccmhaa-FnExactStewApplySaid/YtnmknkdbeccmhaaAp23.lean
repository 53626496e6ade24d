/- The walk of the reference's l4Apply. The walks of slices.IndexFunc at services, berths, copies. -/
import Derived.Test.YtnmknkdbeccmhaaAp22
namespace Go.Proofs.Ytnmknkdbeccmhaa
open Go.RowKit
set_option linter.unusedSimpArgs false
set_option linter.unusedVariables false
set_option maxRecDepth 100000 in
set_option maxHeartbeats 8000000 in
theorem l4Apply_c (b : Book) (a : SAct) {A A1 A2 A3 : Option Addr} {c c1 c2 c3 : Nat} (w : World) (hv : valid b = true) (h1 : Rows 13 svcC w A1 b.svcs) (h2 : Rows 7 cpyC w A2 b.cps) (h3 : Rows 2 brtC w A3 b.brs) (h4 : Rows 2 endC w A a.ends) (l4 : a.ends.length ≤ 2000000) :
    Calls Try.prog 98 #[.agg #[.int .i64 b.now, .slice A1 b.svcs.length c1, .slice A2 b.cps.length c2, .slice A3 b.brs.length c3], .agg #[.string a.service, .int .i64 a.version, .int .i64 a.create, .int .i64 a.want, .int .i64 a.cool, .bool a.scale, .slice A a.ends.length c, .bool a.drop]] w (Applied (actV b a) w) := by
  have hf := Lib.hid (fit_of_valid hv)
  have l1 : b.svcs.length ≤ 2000000 := by have := hf.out.l1; omega
  have l2 : b.cps.length ≤ 2000000 := by have := hf.out.l2; omega
  have l3 : b.brs.length ≤ 2000000 := by have := hf.out.l3; omega
  have R1 := Lib.hid (fun (w' : World) (hg : Grow w w') => h1.below hg)
  have R2 := Lib.hid (fun (w' : World) (hg : Grow w w') => h2.below hg)
  have R3 := Lib.hid (fun (w' : World) (hg : Grow w w') => h3.below hg)
  have R4 := Lib.hid (fun (w' : World) (hg : Grow w w') => h4.below hg)
  have REF := Lib.hid (show ∀ (z : Int) (w' : World), Grow w w' → Applied (b, z) w (.returned (.tuple #[.agg #[.int .i64 b.now, .slice A1 b.svcs.length c1, .slice A2 b.cps.length c2, .slice A3 b.brs.length c3], .int .i64 z])) w' from fun z w' hg => ⟨_, rfl, ⟨_, _, _, _, _, _, rfl, h1.below hg, h2.below hg, h3.below hg⟩, hg⟩)
  clear h1 h2 h3 h4
  go_enter Try.func98, Try.ntmps98
  go_upto_region 1 with fail
  refine rebase ?_
  intro W hW
  have G := Lib.hid (show Grow w W by rw [hW.out]; exact (((Grow.refl _).alloc _).alloc _).alloc _)
  have SW := Lib.hid (show W.heap.size = w.heap.size + 3 by rw [hW.out]; simp)
  obtain ⟨a1, a2, a3⟩ := heap_alloc3 w _ _ _
  have X1 := Lib.hid (heap_eq hW a1)
  have X2 := Lib.hid (heap_eq hW a2)
  have X3 := Lib.hid (heap_eq hW a3)
  clear hW a1 a2 a3

  have fb0 := blk_p X1.out 0
  have fb1 := blk_p X1.out 1
  have fb2 := blk_p X1.out 2
  have fb3 := blk_p X1.out 3
  have fa0 := blk_p X2.out 0
  have fa1 := blk_p X2.out 1
  have fa2 := blk_p X2.out 2
  have fa3 := blk_p X2.out 3
  have fa4 := blk_p X2.out 4
  have fa5 := blk_p X2.out 5
  have fa6 := blk_p X2.out 6
  have fa7 := blk_p X2.out 7
  have gz0 := blk_p X3.out 0
  have fz0 := frz_p X3.out 0 (by decide)
  have gz1 := blk_p X3.out 1
  have fz1 := frz_p X3.out 1 (by decide)
  have gz2 := blk_p X3.out 2
  have fz2 := frz_p X3.out 2 (by decide)
  have gz3 := blk_p X3.out 3
  have fz3 := frz_p X3.out 3 (by decide)
  rcases hfm : formedB a
  · have HR := Lib.hid (show actV b a = (b, 2) by unfold actV; rw [if_pos hfm])
    go_wp2_with (go_at_call 133; refine (l4ActOk_c a _ (R4.out _ (G.out.trans (Grow.wplus _ _))) l4).mono ?_; rintro e w1 ⟨rfl, hg1⟩; obtain ⟨y1, rfl⟩ := hg1.on)
    go_wp2
    refine bodyPost_ret (v := .tuple #[.agg #[.int .i64 b.now, .slice A1 b.svcs.length c1, .slice A2 b.cps.length c2, .slice A3 b.brs.length c3], .int .i64 2]) (by simp [results, Try.results98, go_sem, gz0, gz1, gz2, gz3]) rfl ?_
    rw [HR.out]
    exact REF.out 2 _ (by (repeat (refine Grow.set ?_ (by simp <;> omega) _)); exact G.out.trans (Grow.wplus _ _))

  rcases hq : svcAt b.svcs a.service with _ | i
  · have HR := Lib.hid (show actV b a = (b, 3) by unfold actV; rw [if_neg (by simp [hfm]), hq])
    have Hr := Lib.hid (show idxI (svcAt b.svcs a.service) = -1 by rw [hq]; rfl)
    go_wp2_with (first | (go_at_call 133; refine (l4ActOk_c a _ (R4.out _ (G.out.trans (Grow.wplus _ _))) l4).mono ?_; rintro e w1 ⟨rfl, hg1⟩; obtain ⟨y1, rfl⟩ := hg1.on) | (go_at_call 121; refine (l1Service_r b a.service _ (-1) (R1.out _ (G.out.trans (Grow.wplus _ _))) l1 Hr.out).mono ?_; rintro e w1 ⟨rfl, hg2⟩; obtain ⟨y2, rfl⟩ := hg2.on))
    go_wp2
    refine bodyPost_ret (v := .tuple #[.agg #[.int .i64 b.now, .slice A1 b.svcs.length c1, .slice A2 b.cps.length c2, .slice A3 b.brs.length c3], .int .i64 3]) (by simp [results, Try.results98, go_sem, gz0, gz1, gz2, gz3]) rfl ?_
    rw [HR.out]
    exact REF.out 3 _ (by (repeat (refine Grow.set ?_ (by simp <;> omega) _)); exact G.out.trans (Grow.wplus _ _))

  obtain ⟨s, hs, hsn⟩ := svcAt_some hq
  have hil : i < b.svcs.length := (List.getElem?_eq_some_iff.1 hs).1
  have Hr := Lib.hid (show idxI (svcAt b.svcs a.service) = (i : Int) by rw [hq]; rfl)
  have HA := Lib.hid (show actV b a = if endsThere b.cps a.service a.ends = false then (b, 3)
      else if decide (s.version = a.version) = false then (b, 4)
      else if endsSame b a.service a.ends = false then (b, 4)
      else match endAll a.service (b.now + 1) b a.ends with
        | none => (b, 5)
        | some b' => if whyNot b b' a s = 0 then (actDone b b' a s i, 0) else (b, whyNot b b' a s) by
    unfold actV
    rw [if_neg (by simp [hfm])]
    simp only [hq, hs]
    rfl)
  have HQ := Lib.hid hq
  have HS := Lib.hid hs
  clear hq hs
  have t0 : (0 : Int) ≤ (i : Int) := Int.natCast_nonneg _
  have t1 : decide ((i : Int) < 0) = false := by simp
  have l0 : (0 : Int) ≤ (a.ends.length : Int) := Int.natCast_nonneg _
  go_wp2_with (first | (go_at_call 133; refine (l4ActOk_c a _ (R4.out _ (G.out.trans (Grow.wplus _ _))) l4).mono ?_; rintro e w1 ⟨rfl, hg1⟩; obtain ⟨y1, rfl⟩ := hg1.on) | (go_at_call 121; refine (l1Service_r b a.service _ i (R1.out _ (G.out.trans (Grow.wplus _ _))) l1 Hr.out).mono ?_; rintro e w1 ⟨rfl, hg2⟩; obtain ⟨y2, rfl⟩ := hg2.on))
  go_loopw [7] (fun q wr => ∃ (k : Nat) (y : Ext), k ≤ a.ends.length ∧ q = .int .i64 k ∧ wr = wplus W y ∧ Hid (endsThere b.cps a.service a.ends = endsThere b.cps a.service (a.ends.drop k))) (fun q _ => a.ends.length - (intOf q).toNat)
  case atStart => exact ⟨0, _, Nat.zero_le _, rfl, rfl, rfl⟩
  case round =>
    obtain ⟨k, y, hk, rfl, rfl, hi⟩ := hrel
    by_cases hlt : k < a.ends.length
    · obtain ⟨x, hx⟩ := ex_at hlt
      obtain ⟨bb, o, rfl, hbb, f0, f1⟩ := end_p (R4.out _ G.out) hx
      have hd := Lib.hid (drop_at hx)
      clear hx
      have t2 : (0 : Int) ≤ (k : Int) := Int.natCast_nonneg _
      have t3 : (k : Int) < (a.ends.length : Int) := by omega
      rcases hc : cpyAt b.cps a.service x.number with _ | j
      · have HC := Lib.hid (show idxI (cpyAt b.cps a.service x.number) = -1 by rw [hc]; rfl)
        have HR := Lib.hid (show actV b a = (b, 3) by rw [HA.out, hi.out, hd.out, if_pos]; simp [endsThere, hc])
        go_wp2
        refine region_quiet ⟨_, rfl⟩ (by kernel_rfl) (by kernel_rfl) ?_
        repeat (go_big_quiet_step ((go_at_call 129; exact quiet_grow (l1Copy_r b _ _ _ (-1) (R2.out _ (G.out.trans (Grow.wplus _ _))) l2 HC.out))))
        refine wpQuiet_nil ?_
        rintro w2 ⟨y2, rfl⟩
        go_wp2
        refine bodyPost_ret (v := .tuple #[.agg #[.int .i64 b.now, .slice A1 b.svcs.length c1, .slice A2 b.cps.length c2, .slice A3 b.brs.length c3], .int .i64 3]) (by simp [results, Try.results98, go_sem, gz0, gz1, gz2, gz3]) rfl ?_
        rw [HR.out]
        exact REF.out 3 _ (by (repeat (refine Grow.set ?_ (by simp <;> omega) _)); exact G.out.trans (Grow.wplus _ _))

      · have HC := Lib.hid (show idxI (cpyAt b.cps a.service x.number) = (j : Int) by rw [hc]; rfl)
        have HN := Lib.hid (show endsThere b.cps a.service (x :: a.ends.drop (k + 1)) = endsThere b.cps a.service (a.ends.drop (k + 1)) by simp [endsThere, hc])
        have t4 : (0 : Int) ≤ (j : Int) := Int.natCast_nonneg _
        have t5 : decide ((j : Int) < 0) = false := by simp
        go_wp2
        refine region_quiet ⟨_, rfl⟩ (by kernel_rfl) (by kernel_rfl) ?_
        repeat (go_big_quiet_step ((go_at_call 129; exact quiet_grow (l1Copy_r b _ _ _ j (R2.out _ (G.out.trans (Grow.wplus _ _))) l2 HC.out))))
        refine wpQuiet_nil ?_
        rintro w2 ⟨y2, rfl⟩
        go_wp2
        go_roundw
        case rel => exact ⟨k + 1, _, by omega, by go_num, rfl, by unfold Hid; rw [hi.out, hd.out, HN.out]⟩
        case measure => simp [intOf]; omega
    · obtain rfl : k = a.ends.length := by omega
      have HT := Lib.hid (show endsThere b.cps a.service a.ends = true by rw [hi.out, List.drop_length]; rfl)
      clear hi
      obtain ⟨bs, os, rfl, hbs, s0, s1, s2, s3, s4, s5, s6, s7, s8, s9, s10, s11, s12⟩ := svc_p (R1.out _ G.out) HS.out
      have t6 : (i : Int) < (b.svcs.length : Int) := by omega
      rcases hve : decide (s.version = a.version)
      · have HR := Lib.hid (show actV b a = (b, 4) by rw [HA.out, if_neg (by rw [HT.out]; simp), if_pos hve])
        simp only [decide_eq_false_iff_not] at hve
        go_wp2
        refine region_quiet ⟨_, rfl⟩ (by kernel_rfl) (by kernel_rfl) ?_
        repeat (first | go_big_quiet_step (fail) | quiet_step (fail))
        refine wpQuiet_nil ?_
        rintro w2 ⟨y2, rfl⟩
        go_wp2
        refine bodyPost_ret (v := .tuple #[.agg #[.int .i64 b.now, .slice (some ⟨bs, os, none⟩) b.svcs.length c1, .slice A2 b.cps.length c2, .slice A3 b.brs.length c3], .int .i64 4]) (by simp [results, Try.results98, go_sem, gz0, gz1, gz2, gz3]) rfl ?_
        rw [HR.out]
        exact REF.out 4 _ (by (repeat (refine Grow.set ?_ (by simp <;> omega) _)); exact G.out.trans (Grow.wplus _ _))

      have HA2 := Lib.hid (HA.out.trans (show _ = if endsSame b a.service a.ends = false then (b, 4)
        else match endAll a.service (b.now + 1) b a.ends with
          | none => (b, 5)
          | some b' => if whyNot b b' a s = 0 then (actDone b b' a s i, 0) else (b, whyNot b b' a s) by rw [if_neg (by rw [HT.out]; simp), if_neg (by rw [hve]; simp)]))
      have HV := Lib.hid hve
      simp only [decide_eq_true_eq] at hve
      go_wp2
      refine region_quiet ⟨_, rfl⟩ (by kernel_rfl) (by kernel_rfl) ?_
      repeat (first | go_big_quiet_step (fail) | quiet_step (fail))
      refine wpQuiet_nil ?_
      rintro w2 ⟨y2, rfl⟩
      go_wp2
      go_loopw [8] (fun q wr => ∃ (k : Nat) (y : Ext), k ≤ a.ends.length ∧ q = .int .i64 k ∧ wr = wplus W y ∧ Hid (endsSame b a.service a.ends = endsSame b a.service (a.ends.drop k))) (fun q _ => a.ends.length - (intOf q).toNat)
      case atStart => exact ⟨0, _, Nat.zero_le _, rfl, rfl, rfl⟩
      case round =>
        obtain ⟨k, y, hk, rfl, rfl, hi⟩ := hrel
        by_cases hlt : k < a.ends.length
        · obtain ⟨x, hx⟩ := ex_at hlt
          obtain ⟨j, hj⟩ := there_at HT.out hx
          obtain ⟨cc, hcc, -⟩ := cpyAt_some hj
          obtain ⟨bb, o, rfl, hbb, f0, f1⟩ := end_p (R4.out _ G.out) hx
          obtain ⟨bc, oc, rfl, hbc, -, -, g2, -⟩ := cpy_p (R2.out _ G.out) hcc
          have hd := Lib.hid (drop_at hx)
          have HC := Lib.hid (show idxI (cpyAt b.cps a.service x.number) = (j : Int) by rw [hj]; rfl)
          have HM := Lib.hid (show endsSame b a.service (x :: a.ends.drop (k + 1)) = (decide (cc.version = x.version) && endsSame b a.service (a.ends.drop (k + 1))) by simp [endsSame, cpyGet, hj, hcc])
          have jl : j < b.cps.length := (List.getElem?_eq_some_iff.1 hcc).1
          clear hx hj hcc
          have t2 : (0 : Int) ≤ (k : Int) := Int.natCast_nonneg _
          have t3 : (k : Int) < (a.ends.length : Int) := by omega
          have t4 : (0 : Int) ≤ (j : Int) := Int.natCast_nonneg _
          have t5 : (j : Int) < (b.cps.length : Int) := by omega
          rcases hcv : decide (cc.version = x.version)
          all_goals
            have HD := Lib.hid hcv
            simp only [decide_eq_false_iff_not, decide_eq_true_eq] at hcv
            go_wp2
            refine region_quiet ⟨_, rfl⟩ (by kernel_rfl) (by kernel_rfl) ?_
            repeat (first | go_big_quiet_step ((go_at_call 129; exact quiet_grow (l1Copy_r b _ _ _ j (R2.out _ (G.out.trans (Grow.wplus _ _))) l2 HC.out))) | quiet_step (fail))
            refine wpQuiet_nil ?_
            rintro w2 ⟨y2, rfl⟩
          · have HR := Lib.hid (show actV b a = (b, 4) by rw [HA2.out, if_pos]; rw [hi.out, hd.out, HM.out, HD.out]; rfl)
            go_wp2
            refine bodyPost_ret (v := .tuple #[.agg #[.int .i64 b.now, .slice (some ⟨bs, os, none⟩) b.svcs.length c1, .slice (some ⟨bc, oc, none⟩) b.cps.length c2, .slice A3 b.brs.length c3], .int .i64 4]) (by simp [results, Try.results98, go_sem, gz0, gz1, gz2, gz3]) rfl ?_
            rw [HR.out]
            exact REF.out 4 _ (by (repeat (refine Grow.set ?_ (by simp <;> omega) _)); exact G.out.trans (Grow.wplus _ _))

          · go_wp2
            go_roundw
            case rel => exact ⟨k + 1, _, by omega, by go_num, rfl, by unfold Hid; rw [hi.out, hd.out, HM.out, HD.out]; rfl⟩
            case measure => simp [intOf]; omega
        · obtain rfl : k = a.ends.length := by omega
          have HT2 := Lib.hid (show endsSame b a.service a.ends = true by rw [hi.out, List.drop_length]; rfl)
          have HA3 := Lib.hid (HA2.out.trans (show _ = match endAll a.service (b.now + 1) b a.ends with
            | none => (b, 5)
            | some b' => if whyNot b b' a s = 0 then (actDone b b' a s i, 0) else (b, whyNot b b' a s) by rw [if_neg (by rw [HT2.out]; simp)]))
          clear hi HA HA2
          go_wp2_with fail
          refine (l1Book_c b _ (R1.out _ (G.out.trans (Grow.wplus _ _))) (R2.out _ (G.out.trans (Grow.wplus _ _))) (R3.out _ (G.out.trans (Grow.wplus _ _))) l1 l2 l3).mono ?_
          rintro e w1 ⟨v, rfl, hob, hg1⟩
          obtain ⟨B1, e1, B2, e2, B3, e3, rfl, hr3⟩ := three_own hob
          have RW := Lib.hid (rows_base hr3 (Grow.wplus W y).size)
          have GW1 := Lib.hid (show Grow W w1 from (Grow.wplus W y).trans hg1)
          clear hob hr3 hg1
          go_upto_region 19 with fail
          refine rename ?_
          intro V hV
          have K := Lib.hid (show Keep w1.heap.size w1 V from keep_eq hV (by (repeat (first | with_reducible exact Keep.refl _ _ | with_reducible assumption | with_reducible refine Keep.drew ?_ | with_reducible refine Keep.alloc ?_ _ | with_reducible refine Keep.set ?_ rfl _ | (with_reducible refine Keep.setNew ?_ ?_ _; rotate_left; (first | (dsimp only; omega) | (simp <;> omega)))))))
          have GV := Lib.hid (show Grow W V from Keep.grow K.out GW1.out GW1.out.size)
          have M := Lib.hid (Mine.make (w' := V) RW.out GW1.out.size (heap_eq hV (by first | exact heap_alloc_new _ _ | exact (blk_set (blk_set (blk_set (blk_set heap_alloc_new _ _ 0 _) 1 _) 2 _) 3 _))) K.out)
          clear RW GW1 K hV fb0 fb1 fb2 fb3 fa0 fa1 fa2 fa3 fa4 fa5 fa6 fa7 gz0 fz0 gz1 fz1 gz2 fz2 gz3 fz3
          obtain ⟨x0, -⟩ := box4 (blk_grow X1.out GV.out)
          have hnow := hf.out.now
          go_wp2
          clear x0
          go_loopw [11] (fun q wr => ∃ (k : Nat) (cps : List Cpy), k ≤ a.ends.length ∧ q = .int .i64 k ∧ Hid (Grow W wr) ∧ Hid (Mine W.heap.size w1.heap.size wr (.slice B1 b.svcs.length e1) (.slice B2 b.cps.length e2) (.slice B3 b.brs.length e3) ⟨b.now, b.svcs, cps, b.brs⟩) ∧ Hid (Fit ⟨b.now, b.svcs, cps, b.brs⟩) ∧ cps.length = b.cps.length ∧ Hid (endAll a.service (b.now + 1) b a.ends = endAll a.service (b.now + 1) ⟨b.now, b.svcs, cps, b.brs⟩ (a.ends.drop k))) (fun q _ => a.ends.length - (intOf q).toNat)
          case atStart => exact ⟨0, b.cps, Nat.zero_le _, rfl, GV.out, M.out, hf.out, rfl, rfl⟩
          case round =>
            obtain ⟨k, cps, hk, rfl, gr, mr, ft, hcl, hi⟩ := hrel
            by_cases hlt : k < a.ends.length
            · obtain ⟨x, hx⟩ := ex_at hlt
              obtain ⟨bb, o, rfl, hbb, f0, f1⟩ := end_p (R4.out _ (G.out.trans gr.out)) hx
              have hd := Lib.hid (drop_at hx)
              clear hx
              have t2 : (0 : Int) ≤ (k : Int) := Int.natCast_nonneg _
              have t3 : (k : Int) < (a.ends.length : Int) := by omega
              have fb0 := blk_p (blk_grow X1.out gr.out) 0
              have fb1 := blk_p (blk_grow X1.out gr.out) 1
              have fb2 := blk_p (blk_grow X1.out gr.out) 2
              have fb3 := blk_p (blk_grow X1.out gr.out) 3
              have fa0 := blk_p (blk_grow X2.out gr.out) 0
              have fa6 := blk_p (blk_grow X2.out gr.out) 6
              have gz0 := blk_p (blk_grow X3.out gr.out) 0
              have fz0 := frz_p (blk_grow X3.out gr.out) 0 (by decide)
              have gz1 := blk_p (blk_grow X3.out gr.out) 1
              have fz1 := frz_p (blk_grow X3.out gr.out) 1 (by decide)
              have gz2 := blk_p (blk_grow X3.out gr.out) 2
              have fz2 := frz_p (blk_grow X3.out gr.out) 2 (by decide)
              have gz3 := blk_p (blk_grow X3.out gr.out) 3
              have fz3 := frz_p (blk_grow X3.out gr.out) 3 (by decide)
              have mb0 := blk_p mr.out.box 0
              have mb1 := blk_p mr.out.box 1
              have mb2 := blk_p mr.out.box 2
              have mb3 := blk_p mr.out.box 3
              rcases hme : mayEndV ⟨b.now, b.svcs, cps, b.brs⟩ a.service x.number
              · have HR := Lib.hid (show actV b a = (b, 5) by rw [HA3.out, hi.out, hd.out, endAll, hme]; rfl)
                refine at_plus ?_
                go_wp2
                refine region_quiet ⟨_, rfl⟩ (by kernel_rfl) (by kernel_rfl) ?_
                repeat (first | go_big_quiet_step ((go_at_call 81; exact quiet_grow (l3MayEnd_n ⟨b.now, b.svcs, cps, b.brs⟩ _ _ false _ ft.out rfl rfl hcl.symm ((rows_of mr.out.rows).2.1.plus _) ((rows_of mr.out.rows).2.2.1.plus _) hme))) | quiet_step (fail))
                refine wpQuiet_nil ?_
                rintro w2 ⟨y2, rfl⟩
                go_wp2
                refine bodyPost_ret (v := .tuple #[.agg #[.int .i64 b.now, .slice (some ⟨bs, os, none⟩) b.svcs.length c1, .slice A2 b.cps.length c2, .slice A3 b.brs.length c3], .int .i64 5]) (by simp [results, Try.results98, go_sem, gz0, gz1, gz2, gz3]) rfl ?_
                rw [HR.out]
                exact REF.out 5 _ (by (repeat (refine Grow.set ?_ (by simp <;> omega) _)); exact (G.out.trans gr.out).trans (Grow.wplus _ _))

              · obtain ⟨j, cc, hj, hcc⟩ := mayEnd_some hme
                have HJ := Lib.hid (show idxI (cpyAt cps a.service x.number) = (j : Int) by have : cpyAt cps a.service x.number = some j := hj
                                                                                            rw [this]; rfl)
                have HE := Lib.hid (show endAll a.service (b.now + 1) ⟨b.now, b.svcs, cps, b.brs⟩ (x :: a.ends.drop (k + 1)) = endAll a.service (b.now + 1) (endOne ⟨b.now, b.svcs, cps, b.brs⟩ (b.now + 1) j) (a.ends.drop (k + 1)) by rw [endAll, if_pos hme, hj])
                have HCC := Lib.hid (show cps[j]? = some cc from hcc)
                have jl : j < cps.length := (List.getElem?_eq_some_iff.1 HCC.out).1
                obtain ⟨g2, rfl, hg2, hg2', hf2⟩ := own_head (xs := cps) mr.out.rows.r2 (by rintro rfl; simp at jl)
                have t4 : (0 : Int) ≤ (j : Int) := Int.natCast_nonneg _
                have t5 : (j : Int) < (b.cps.length : Int) := by omega
                have lc : cps.length ≤ 2000000 := by omega
                clear hj hcc
                refine at_plus ?_
                go_wp2
                refine region_quiet ⟨_, rfl⟩ (by kernel_rfl) (by kernel_rfl) ?_
                repeat (first | go_big_quiet_step ((go_at_call 81; exact quiet_grow (l3MayEnd_n ⟨b.now, b.svcs, cps, b.brs⟩ _ _ true _ ft.out rfl rfl hcl.symm ((rows_of mr.out.rows).2.1.plus _) ((rows_of mr.out.rows).2.2.1.plus _) hme))) | quiet_step (fail))
                refine wpQuiet_nil ?_
                rintro w2 ⟨y2, rfl⟩
                go_wp2
                refine region_quiet ⟨_, rfl⟩ (by kernel_rfl) (by kernel_rfl) ?_
                repeat (first | go_big_quiet_step ((go_at_call 129; exact quiet_grow (l1Copy_n ⟨b.now, b.svcs, cps, b.brs⟩ _ _ _ j rfl hcl.symm ((rows_of mr.out.rows).2.2.1.plus _) lc HJ.out))) | quiet_step (fail))
                refine wpQuiet_nil ?_
                rintro w3 ⟨y3, rfl⟩
                obtain ⟨bq, oq, hq, -, k0, k1, k2, k3, k4, k5, k6⟩ := cpy_p (rows_of mr.out.rows).2.2.1 HCC.out
                simp only [Option.some.injEq, Addr.mk.injEq] at hq
                obtain ⟨rfl, rfl, -⟩ := hq
                simp only [Nat.zero_add] at k2 k5
                have hfr : ∀ i, (wplus wr y3).frozen? ⟨g2, i, none⟩ = false := hf2 _ (Grow.wplus wr y3)
                obtain ⟨M1, K1⟩ := (mr.out.grow (Grow.wplus wr y3)).put2 (r := 5) (u := .bool true) (c' := { cc with ending := true }) HCC.out (by decide) rfl
                obtain ⟨M2, K2⟩ := M1.put2 (r := 2) (u := .int .i64 (b.now + 1)) (j := j) (c := { cc with ending := true }) (c' := { cc with ending := true, version := b.now + 1 }) (by simp [jl]) (by decide) rfl
                have HM2 := Lib.hid M2
                have HG2 := Lib.hid (show Grow W _ from Keep.grow (Keep.trans (Keep.trans (Keep.of (Grow.wplus wr y3)) K1) K2) gr.out hg2)
                have HO := Lib.hid (endOne_set (b := ⟨b.now, b.svcs, cps, b.brs⟩) (t := b.now + 1) HCC.out)
                clear M1 K1 M2 K2
                go_wp2
                go_roundw
                case rel => exact ⟨k + 1, _, by omega, by go_num, HG2.out, HM2.out, by have := endOne_fit ft.out (b.now + 1) j; rw [HO.out] at this; exact this, by simpa using hcl, by unfold Hid; rw [hi.out, hd.out, HE.out, HO.out]⟩
                case measure => simp [intOf]; omega
            · obtain rfl : k = a.ends.length := by omega
              have HB := Lib.hid (show actV b a = if whyNot b ⟨b.now, b.svcs, cps, b.brs⟩ a s = 0 then (actDone b ⟨b.now, b.svcs, cps, b.brs⟩ a s i, 0) else (b, whyNot b ⟨b.now, b.svcs, cps, b.brs⟩ a s) by rw [HA3.out, hi.out, List.drop_length]; rfl)
              have HEND := Lib.hid (show endAll a.service (b.now + 1) b a.ends = some ⟨b.now, b.svcs, cps, b.brs⟩ by rw [hi.out, List.drop_length]; rfl)
              clear HA3 hi
              obtain ⟨g1, rfl, hg1, hg1', hf1⟩ := own_head (xs := b.svcs) mr.out.rows.r1 (by intro e; rw [e] at hil; simp at hil)
              obtain ⟨bq, oq, hq, -, k0, k1, k2, k3, k4, k5, k6, k7, k8, k9, k10, k11, k12⟩ := svc_at (rows_of mr.out.rows).2.1 HS.out
              simp only [Option.some.injEq, Addr.mk.injEq] at hq
              obtain ⟨rfl, rfl, -⟩ := hq
              simp only [Nat.zero_add] at k0 k1 k2 k3 k4 k5 k6 k7 k8 k9 k10 k11 k12
              obtain ⟨x0, x1, x2, x3⟩ := box4 mr.out.box
              have a6 := cell_of_row wr _ 6 _ _ _ (blk_grow X2.out gr.out)
              go_upto_region 29 with fail
              clear a6 x0 x1 x2 x3 k0 k1 k2 k3 k4 k5 k6 k7 k8 k9 k10 k11 k12
              refine rename ?_
              intro U hU
              have gu := Lib.hid (show Grow wr U from grow_eq hU (by (repeat (first | with_reducible exact Grow.refl _ | with_reducible assumption | with_reducible refine Grow.drew ?_ | with_reducible refine Grow.alloc ?_ _ | (with_reducible refine Grow.set ?_ ?_ _; rotate_left; (first | (dsimp only; omega) | (simp <;> omega)))))))
              have XS := Lib.hid (heap_eq hU (by first | exact heap_alloc_new _ _ | exact (blk_set (blk_set (blk_set (blk_set (blk_set (blk_set (blk_set (blk_set (blk_set (blk_set (blk_set (blk_set (blk_set heap_alloc_new _ _ 0 _) 1 _) 2 _) 3 _) 4 _) 5 _) 6 _) 7 _) 8 _) 9 _) 10 _) 11 _) 12 _)))
              have mu := Lib.hid (mr.out.grow gu.out)
              have HLT := Lib.hid (blk_lt mr.out.box)
              have NE := Lib.hid (mr.out.ne (Nat.le_refl wr.heap.size))
              have gU := Lib.hid (gr.out.trans gu.out)
              have fU := Lib.hid ft.out
              clear hU mr gr gu ft
              obtain ⟨ct, hct⟩ : ∃ ct, cntOf b.cps a.service s.image = ct := ⟨_, rfl⟩
              have hctb := cntOf_bd a.service s.image l2
              obtain ⟨x0, x1, x2, x3⟩ := box4 (blk_grow X1.out gU.out)
              have a0 := cell_of_row U _ 0 _ _ _ (blk_grow X2.out gU.out)
              go_wp2_with fail
              refine (l2Count_some b a.service _ (R1.out _ (G.out.trans gU.out)) l1 (R2.out _ (G.out.trans gU.out)) l2 HQ.out HS.out).mono ?_
              rintro e w2 ⟨rfl, hg2⟩
              rw [hct]
              rw [hct] at hctb
              have HCT := Lib.hid hct
              clear x0 x1 x2 x3 a0 hct
              go_upto_region 30 with fail
              refine rename ?_
              intro U2 hU2
              have g2 := Lib.hid (show Grow U U2 from grow_eq hU2 (by (repeat (first | with_reducible exact Grow.refl _ | with_reducible assumption | with_reducible refine Grow.drew ?_ | with_reducible refine Grow.alloc ?_ _ | (with_reducible refine Grow.set ?_ ?_ _; rotate_left; (first | (dsimp only; omega) | (simp <;> omega))) | refine Grow.trans ?_ hg2))))
              have XC := Lib.hid (heap_eq hU2 (by first | exact heap_alloc_new _ _ | exact (blk_set (blk_set (blk_set (blk_set (blk_set heap_alloc_new _ _ 0 _) 1 _) 2 _) 3 _) 4 _)))
              have XS2 := Lib.hid (blk_grow XS.out g2.out)
              have m2 := Lib.hid (mu.out.grow g2.out)
              have gU2 := Lib.hid (gU.out.trans g2.out)
              clear hU2 hg2 XS mu gU
              have a7 := cell_of_row U2 _ 7 _ _ _ (blk_grow X2.out gU2.out)
              have c0 := cell_of_row U2 _ 0 _ _ _ XC.out
              have c4 := cell_of_row U2 _ 4 _ _ _ XC.out
              have s2 := cell_of_row U2 _ 2 _ _ _ XS2.out
              go_cut [156] (fun q wx => q = .bool (a.drop && (!s.gone || decide (0 < ct.live + ct.ending))) ∧ U2 = wx)
              case first =>
                by_cases hd : a.drop = false
                · rw [hd] at a7
                  go_wp2
                  go_meet
                  exact ⟨by rw [hd]; rfl, rfl⟩
                · simp only [Bool.not_eq_false] at hd
                  rw [hd] at a7
                  by_cases hg : s.gone = false
                  · rw [hg] at s2
                    go_wp2
                    go_meet
                    exact ⟨by rw [hd, hg]; rfl, rfl⟩
                  · simp only [Bool.not_eq_false] at hg
                    rw [hg] at s2
                    go_wp2
                    go_meet
                    exact ⟨by rw [hd, hg]; simp, rfl⟩
              case rest =>
                obtain ⟨rfl, rfl⟩ := hcut
                clear a7 c0 c4 s2
                have hnm : s.name = a.service := ByteArray.ext (Array.ext' (by have := hsn; simp only [eqN, beq_iff_eq] at this; rw [ByteArray.toList_eq, ByteArray.toList_eq] at this; exact this))
                rcases hD : (a.drop && (!s.gone || decide (0 < ct.live + ct.ending)))
                · rename_i KA hA KB hB
                  refine hB _ _ ?_
                  refine wp_cond_false rfl ?_
                  refine wp_skip ?_
                  show KA _ _
                  refine hA _ _ ?_
                  clear hB KB hA KA
                  have HNUM := Lib.hid (show ∀ x ∈ cps, eqN x.service s.name = true → x.number < s.next from fun x hx he => by
                    obtain ⟨y, h1, h2, h3⟩ := endAll_who HEND.out x hx
                    rw [← h3]
                    exact num_next hv HQ.out HS.out h1 (by rw [h2, ← hnm]; exact he))
                  have S : L4St b cps a (some ⟨bs, os, none⟩) A2 A3 A B2 B3 c1 c2 c3 a.ends.length c b.cps.length e1 e2 e3 w.heap.size (w.heap.size + 1) (w.heap.size + 1 + 1) w1.heap.size wr.heap.size g1 W.heap.size _ w U2 :=
                    ⟨G.out.trans gU2.out, Nat.le_refl _, Nat.lt_succ_self _, Nat.lt_succ_self _, by rw [SW.out]; omega, m2.out.low, HLT.out, by omega, NE.out.2.2.1, NE.out.2.2.2, blk_grow X1.out gU2.out, blk_grow X2.out gU2.out, blk_grow X3.out gU2.out, XS2.out, m2.out⟩
                  apply l4T32 b cps a s i w U2 hf (Lib.hid hfm) HQ HS (Lib.hid hnm) (Lib.hid hcl) HNUM REF HB (Lib.hid (by rw [hnm, HCT.out]; exact hD)) S
                · have HR := Lib.hid (show actV b a = (b, 6) by rw [HB.out, show whyNot b ⟨b.now, b.svcs, cps, b.brs⟩ a s = 6 by unfold whyNot; rw [hnm, HCT.out, hD]; rfl]; rfl)
                  have B1 := Lib.hid (blk_grow X1.out gU2.out)
                  have B3 := Lib.hid (blk_grow X3.out gU2.out)
                  have fb0 := cell_of_row U2 _ 0 _ _ _ B1.out
                  have fb1 := cell_of_row U2 _ 1 _ _ _ B1.out
                  have fb2 := cell_of_row U2 _ 2 _ _ _ B1.out
                  have fb3 := cell_of_row U2 _ 3 _ _ _ B1.out
                  have gz0 := cell_of_row U2 _ 0 _ _ _ B3.out
                  have gz1 := cell_of_row U2 _ 1 _ _ _ B3.out
                  have gz2 := cell_of_row U2 _ 2 _ _ _ B3.out
                  have gz3 := cell_of_row U2 _ 3 _ _ _ B3.out
                  have fz0 := frozen_of_row U2 _ 0 _ _ B3.out
                  have fz1 := frozen_of_row U2 _ 1 _ _ B3.out
                  have fz2 := frozen_of_row U2 _ 2 _ _ B3.out
                  have fz3 := frozen_of_row U2 _ 3 _ _ B3.out
                  go_wp2
                  refine bodyPost_ret (v := .tuple #[.agg #[.int .i64 b.now, .slice (some ⟨bs, os, none⟩) b.svcs.length c1, .slice A2 b.cps.length c2, .slice A3 b.brs.length c3], .int .i64 6]) (by simp [results, Try.results98, go_sem, gz0, gz1, gz2, gz3]) rfl ?_
                  rw [HR.out]
                  exact REF.out 6 _ (by (repeat (refine Grow.set ?_ (by simp <;> omega) _)); exact (G.out.trans gU2.out))
end Go.Proofs.Ytnmknkdbeccmhaa
namespace Go.Proofs.Ytnmknkdbeccmhaa
open Go.RowKit
set_option linter.unusedSimpArgs false
set_option linter.unusedVariables false
/-- What a predicate is that may lay blocks of its own: in every world that has grown out of w. -/
def Pred (P : Program) (f : Nat) (lb : Array Value) {α : Type} (cs : α → List Value) (p : α → Bool) (w : World) : Prop := ∀ (W : World) (x : α), Grow w W → Calls P f (#[.agg (cs x).toArray] ++ lb) W fun e w' => e = .returned (.bool (p x)) ∧ Grow W w'
theorem fIdx_append_none {α : Type} {p : α → Bool} : ∀ {xs : List α} {k : Nat}, (∀ x ∈ xs, p x = false) → fIdx p xs k = none
  | [], _, _ => rfl
  | x :: xs, k, h => by
    unfold fIdx
    rw [if_neg (by rw [h x (by simp)]; simp)]
    exact fIdx_append_none fun y hy => h y (by simp [hy])
set_option maxHeartbeats 1000000 in
theorem IndexFuncSvc_c (p : Svc → Bool) (xs : List Svc) {A : Option Addr} {n c : Nat} (f : Nat) (lb : Array Value) (r : Int) (w w0 : World) (eg : ∀ args w, (callFunc f args).run Try.prog w = .ok (.enter f args) w) (h0 : Grow w0 w) (hp : Pred Try.prog f lb svcC p w0) (hn : n = xs.length) (h : Rows 13 svcC w A xs) (hl : xs.length ≤ 2000000) (hr : idxI (fIdx p xs 0) = r) :
    Calls Try.prog 142 #[.slice A n c, .func (.func f) #[] lb] w fun e w' => e = .returned (.int .i64 r) ∧ Grow w w' := by
  subst hn
  have R := Lib.hid (fun (w' : World) (hg : Grow w w') => h.below hg)
  have HP := Lib.hid hp
  have HR := Lib.hid hr
  have H0 := Lib.hid h0
  clear h hp hr h0
  go_enter Try.func142, Try.ntmps142
  go_wp2
  go_loopw [8] (fun q wr => ∃ k : Nat, k ≤ xs.length ∧ q = .int .i64 k ∧ Hid (Grow w wr) ∧ Hid (fIdx p xs 0 = fIdx p (xs.drop k) k)) (fun q _ => xs.length - (intOf q).toNat)
  case atStart => exact ⟨0, Nat.zero_le _, rfl, Grow.refl _, rfl⟩
  case round =>
    obtain ⟨k, hk, rfl, hgr, hi⟩ := hrel
    have z0 : (0 : Int) ≤ (k : Nat) := by omega
    by_cases hlt : k < xs.length
    · obtain ⟨x, hx⟩ := ex_at hlt
      obtain ⟨bb, o, rfl, hbb, f0, f1, f2, f3, f4, f5, f6, f7, f8, f9, f10, f11, f12⟩ := svc_at (R.out _ hgr.out) hx
      have hd := Lib.hid (drop_at hx)
      have z1 : ((k : Nat) : Int) < (xs.length : Nat) := by omega
      have hc := HP.out wr x (H0.out.trans hgr.out)
      clear hx
      have hc' : Calls Try.prog f (#[.agg #[.string x.name, .int .i64 x.version, .bool x.gone, .int .i64 x.image, .int .i64 x.want, .int .i64 x.down, .int .i64 x.over, .int .i64 x.next, .int .i64 x.per, .int .i64 x.least, .int .i64 x.most, .int .i64 x.load, .int .i64 x.cool]] ++ lb) wr fun e w' => e = .returned (.bool (p x)) ∧ Grow wr w' := hc
      clear hc
      cases hq : p x with
      | true =>
        rw [hq] at hc'
        have HI := Lib.hid (show r = (k : Nat) by rw [← HR.out, hi.out, hd.out]; unfold fIdx; rw [if_pos hq]; rfl)
        go_wp2_with (refine hc'.mono ?_; rintro e w' ⟨rfl, hg2⟩)
        go_ret
        exact ⟨ret_int HI.out.symm, hgr.out.trans hg2⟩
      | false =>
        rw [hq] at hc'
        have HI := Lib.hid (show fIdx p xs 0 = fIdx p (xs.drop (k + 1)) (k + 1) by rw [hi.out, hd.out, fIdx, if_neg (by rw [hq]; simp)])
        go_wp2_with (refine hc'.mono ?_; rintro e w' ⟨rfl, hg2⟩)
        go_roundw
        case rel => exact ⟨k + 1, by omega, by go_num, hgr.out.trans hg2, HI.out⟩
        case measure => simp [intOf]; omega
    · obtain rfl : k = xs.length := by omega
      have HI := Lib.hid (show r = -1 by rw [← HR.out, hi.out, List.drop_length]; rfl)
      go_wp2
      go_ret
      exact ⟨ret_int HI.out.symm, hgr.out⟩
set_option maxHeartbeats 1000000 in
theorem IndexFuncBrt_c (p : Brt → Bool) (xs : List Brt) {A : Option Addr} {n c : Nat} (f : Nat) (lb : Array Value) (r : Int) (w w0 : World) (eg : ∀ args w, (callFunc f args).run Try.prog w = .ok (.enter f args) w) (h0 : Grow w0 w) (hp : Pred Try.prog f lb brtC p w0) (hn : n = xs.length) (h : Rows 2 brtC w A xs) (hl : xs.length ≤ 2000000) (hr : idxI (fIdx p xs 0) = r) :
    Calls Try.prog 149 #[.slice A n c, .func (.func f) #[] lb] w fun e w' => e = .returned (.int .i64 r) ∧ Grow w w' := by
  subst hn
  have R := Lib.hid (fun (w' : World) (hg : Grow w w') => h.below hg)
  have HP := Lib.hid hp
  have HR := Lib.hid hr
  have H0 := Lib.hid h0
  clear h hp hr h0
  go_enter Try.func149, Try.ntmps149
  go_wp2
  go_loopw [8] (fun q wr => ∃ k : Nat, k ≤ xs.length ∧ q = .int .i64 k ∧ Hid (Grow w wr) ∧ Hid (fIdx p xs 0 = fIdx p (xs.drop k) k)) (fun q _ => xs.length - (intOf q).toNat)
  case atStart => exact ⟨0, Nat.zero_le _, rfl, Grow.refl _, rfl⟩
  case round =>
    obtain ⟨k, hk, rfl, hgr, hi⟩ := hrel
    have z0 : (0 : Int) ≤ (k : Nat) := by omega
    by_cases hlt : k < xs.length
    · obtain ⟨x, hx⟩ := ex_at hlt
      obtain ⟨bb, o, rfl, hbb, f0, f1⟩ := brt_at (R.out _ hgr.out) hx
      have hd := Lib.hid (drop_at hx)
      have z1 : ((k : Nat) : Int) < (xs.length : Nat) := by omega
      have hc := HP.out wr x (H0.out.trans hgr.out)
      clear hx
      have hc' : Calls Try.prog f (#[.agg #[.string x.name, .bool x.drain]] ++ lb) wr fun e w' => e = .returned (.bool (p x)) ∧ Grow wr w' := hc
      clear hc
      cases hq : p x with
      | true =>
        rw [hq] at hc'
        have HI := Lib.hid (show r = (k : Nat) by rw [← HR.out, hi.out, hd.out]; unfold fIdx; rw [if_pos hq]; rfl)
        go_wp2_with (refine hc'.mono ?_; rintro e w' ⟨rfl, hg2⟩)
        go_ret
        exact ⟨ret_int HI.out.symm, hgr.out.trans hg2⟩
      | false =>
        rw [hq] at hc'
        have HI := Lib.hid (show fIdx p xs 0 = fIdx p (xs.drop (k + 1)) (k + 1) by rw [hi.out, hd.out, fIdx, if_neg (by rw [hq]; simp)])
        go_wp2_with (refine hc'.mono ?_; rintro e w' ⟨rfl, hg2⟩)
        go_roundw
        case rel => exact ⟨k + 1, by omega, by go_num, hgr.out.trans hg2, HI.out⟩
        case measure => simp [intOf]; omega
    · obtain rfl : k = xs.length := by omega
      have HI := Lib.hid (show r = -1 by rw [← HR.out, hi.out, List.drop_length]; rfl)
      go_wp2
      go_ret
      exact ⟨ret_int HI.out.symm, hgr.out⟩
set_option maxHeartbeats 1000000 in
theorem IndexFuncCpy_c (p : Cpy → Bool) (xs : List Cpy) {A : Option Addr} {n c : Nat} (f : Nat) (lb : Array Value) (r : Int) (w w0 : World) (eg : ∀ args w, (callFunc f args).run Try.prog w = .ok (.enter f args) w) (h0 : Grow w0 w) (hp : Pred Try.prog f lb cpyC p w0) (hn : n = xs.length) (h : Rows 7 cpyC w A xs) (hl : xs.length ≤ 2000000) (hr : idxI (fIdx p xs 0) = r) :
    Calls Try.prog 179 #[.slice A n c, .func (.func f) #[] lb] w fun e w' => e = .returned (.int .i64 r) ∧ Grow w w' := by
  subst hn
  have R := Lib.hid (fun (w' : World) (hg : Grow w w') => h.below hg)
  have HP := Lib.hid hp
  have HR := Lib.hid hr
  have H0 := Lib.hid h0
  clear h hp hr h0
  go_enter Try.func179, Try.ntmps179
  go_wp2
  go_loopw [8] (fun q wr => ∃ k : Nat, k ≤ xs.length ∧ q = .int .i64 k ∧ Hid (Grow w wr) ∧ Hid (fIdx p xs 0 = fIdx p (xs.drop k) k)) (fun q _ => xs.length - (intOf q).toNat)
  case atStart => exact ⟨0, Nat.zero_le _, rfl, Grow.refl _, rfl⟩
  case round =>
    obtain ⟨k, hk, rfl, hgr, hi⟩ := hrel
    have z0 : (0 : Int) ≤ (k : Nat) := by omega
    by_cases hlt : k < xs.length
    · obtain ⟨x, hx⟩ := ex_at hlt
      obtain ⟨bb, o, rfl, hbb, f0, f1, f2, f3, f4, f5, f6⟩ := cpy_at (R.out _ hgr.out) hx
      have hd := Lib.hid (drop_at hx)
      have z1 : ((k : Nat) : Int) < (xs.length : Nat) := by omega
      have hc := HP.out wr x (H0.out.trans hgr.out)
      clear hx
      have hc' : Calls Try.prog f (#[.agg #[.string x.service, .int .i64 x.number, .int .i64 x.version, .int .i64 x.image, .int .i64 x.state, .bool x.ending, .string x.berth]] ++ lb) wr fun e w' => e = .returned (.bool (p x)) ∧ Grow wr w' := hc
      clear hc
      cases hq : p x with
      | true =>
        rw [hq] at hc'
        have HI := Lib.hid (show r = (k : Nat) by rw [← HR.out, hi.out, hd.out]; unfold fIdx; rw [if_pos hq]; rfl)
        go_wp2_with (refine hc'.mono ?_; rintro e w' ⟨rfl, hg2⟩)
        go_ret
        exact ⟨ret_int HI.out.symm, hgr.out.trans hg2⟩
      | false =>
        rw [hq] at hc'
        have HI := Lib.hid (show fIdx p xs 0 = fIdx p (xs.drop (k + 1)) (k + 1) by rw [hi.out, hd.out, fIdx, if_neg (by rw [hq]; simp)])
        go_wp2_with (refine hc'.mono ?_; rintro e w' ⟨rfl, hg2⟩)
        go_roundw
        case rel => exact ⟨k + 1, by omega, by go_num, hgr.out.trans hg2, HI.out⟩
        case measure => simp [intOf]; omega
    · obtain rfl : k = xs.length := by omega
      have HI := Lib.hid (show r = -1 by rw [← HR.out, hi.out, List.drop_length]; rfl)
      go_wp2
      go_ret
      exact ⟨ret_int HI.out.symm, hgr.out⟩
end Go.Proofs.Ytnmknkdbeccmhaa
