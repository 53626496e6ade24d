/- The walks of the count of a service's copies. The walk of the reference's count. -/
import Derived.Test.YtnmknkdbeccmhaaAp4
import Derived.Test.YtnmknkdbeccmhaaAp5
import Derived.Test.YtnmknkdbeccmhaaAp1
namespace Go.Proofs.Ytnmknkdbeccmhaa
open Go.RowKit
set_option linter.unusedSimpArgs false

theorem blk_seti {w : World} {g i : Nat} {cs cs' : Array Value} {T : TypeId} {u : Value} (h : w.heap[g]? = some (.cells cs T (0, 0))) (e : cs.setIfInBounds i u = cs') : (w.setCell ⟨g, i, none⟩ u).heap[g]? = some (.cells cs' T (0, 0)) := e ▸ blk_set h i u
theorem blk_cd {w : World} {g : Nat} {a b c d e c' d' : Value} {T : TypeId} (h : w.heap[g]? = some (.cells #[a, b, c, d, e] T (0, 0))) (hc : c = c') (hd : d = d') : w.heap[g]? = some (.cells #[a, b, c', d', e] T (0, 0)) := by subst hc hd; exact h
theorem cnt_other {nm : ByteArray} {im : Int} {a : Cnt} {x : Cpy} (h : eqN x.service nm = false) : cntStep nm im a x = a := if_pos h
theorem cnt_ending {nm : ByteArray} {im : Int} {a : Cnt} {x : Cpy} (h : eqN x.service nm = true) (he : x.ending = true) : cntStep nm im a x = { a with ending := bump a.ending } := by
  unfold cntStep; rw [if_neg (by simp [h]), if_pos he]
theorem cnt_live {nm : ByteArray} {im : Int} {a : Cnt} {x : Cpy} (h : eqN x.service nm = true) (he : x.ending = false) :
    cntStep nm im a x = ⟨bump a.live, if x.state = 3 then bump a.serving else a.serving, if x.image = im then a.old else bump a.old, if x.state = 4 then bump a.failed else a.failed, a.ending⟩ := by
  unfold cntStep; rw [if_neg (by simp [h]), if_neg (by simp [he])]
set_option maxRecDepth 100000 in
set_option maxHeartbeats 4000000 in
theorem count_c (b : Book) {g sb so : Nat} {A1 A2 A3 : Option Addr} {c1 c2 c3 : Nat} (nm : ByteArray) (im : Int) (w : World) (hb : BookBlk w g b A1 A2 A3 c1 c2 c3) (h : Rows 7 cpyC w A2 b.cps) (hl : b.cps.length ≤ 2000000)
    (s0 : w.cell? ⟨sb, so, none⟩ = some (.string nm)) (s3 : w.cell? ⟨sb, so + 3, none⟩ = some (.int .i64 im)) :
    Calls Try.prog 80 #[.pointer (some ⟨g, 0, none⟩), .pointer (some ⟨sb, so, none⟩)] w fun e w' => e = .returned (.agg #[.int .i64 (cntOf b.cps nm im).live, .int .i64 (cntOf b.cps nm im).serving, .int .i64 (cntOf b.cps nm im).old, .int .i64 (cntOf b.cps nm im).failed, .int .i64 (cntOf b.cps nm im).ending]) ∧ Grow w w' := by
  have H := Lib.hid (fun (w' : World) (hg : Grow w w') => h.below hg)
  have HS0 := Lib.hid (fun (w' : World) (hg : Grow w w') => (hg.cell (World.block_lt_of_cell? w _ s0)).trans s0)
  have HS3 := Lib.hid (fun (w' : World) (hg : Grow w w') => (hg.cell (World.block_lt_of_cell? w _ s3)).trans s3)
  obtain ⟨hb0, -, -, hb2, -⟩ := hb.at_
  clear h hb s0 s3
  go_enter Try.func80, Try.ntmps80
  go_wp2
  go_loopw [13] (fun i wr => ∃ (k : Nat) (a : Cnt), k ≤ b.cps.length ∧ i = .int .i64 k ∧ Hid (cntOf b.cps nm im = (b.cps.drop k).foldl (cntStep nm im) a) ∧ Hid (Grow w wr) ∧ Hid (wr.heap[w.heap.size]? = some (.cells #[.int .i64 0, .int .i64 0, .int .i64 0, .int .i64 0, .int .i64 0] 50 (0, 0))) ∧
      Hid (wr.heap[w.heap.size + 1]? = some (.cells #[.int .i64 a.live, .int .i64 a.serving, .int .i64 a.old, .int .i64 a.failed, .int .i64 a.ending] 50 (0, 0)))) (fun i _ => b.cps.length - (intOf i).toNat)
  case atStart => exact ⟨0, cnt0, Nat.zero_le _, rfl, rfl, ((Grow.refl _).alloc _).alloc _, heap_alloc2 _ _ _, heap_alloc2_new _ _ _⟩
  case round =>
    obtain ⟨k, a, hk, rfl, hi, hgr, hz, ha⟩ := hrel
    by_cases hlt : k < b.cps.length
    · obtain ⟨x, hx⟩ := ex_at hlt
      obtain ⟨bb, o, rfl, hbb, f0, f1, f2, f3, f4, f5, f6⟩ := cpy_at (H.out _ hgr.out) hx
      have hd := Lib.hid (drop_at hx)
      clear hx
      have s0 := HS0.out _ hgr.out
      have s3 := HS3.out _ hgr.out
      have p0 := cell_of_row wr _ 0 _ _ _ ha.out
      have p1 := cell_of_row wr _ 1 _ _ _ ha.out
      have p2 := cell_of_row wr _ 2 _ _ _ ha.out
      have p3 := cell_of_row wr _ 3 _ _ _ ha.out
      have p4 := cell_of_row wr _ 4 _ _ _ ha.out
      have z0 := frozen_of_row wr _ 0 _ _ ha.out
      have z1 := frozen_of_row wr _ 1 _ _ ha.out
      have z2 := frozen_of_row wr _ 2 _ _ ha.out
      have z3 := frozen_of_row wr _ 3 _ _ ha.out
      have z4 := frozen_of_row wr _ 4 _ _ ha.out
      go_wp2
      refine rebase ?_
      intro W hW
      have G1 := Lib.hid (show Grow w W by rw [hW.out]; exact hgr.out.alloc _)
      have G1' := Lib.hid (show Grow wr W by rw [hW.out]; exact (Grow.refl _).alloc _)
      have B1 := Lib.hid (show W.heap[wr.heap.size]? = some (.cells #[.string x.service, .int .i64 x.number, .int .i64 x.version, .int .i64 x.image, .int .i64 x.state, .bool x.ending, .string x.berth] 65 (0, 0)) by rw [hW.out]; exact heap_alloc_new _ _)
      have Z1 := Lib.hid (blk_grow hz.out G1'.out)
      have C1 := Lib.hid (blk_grow ha.out G1'.out)
      have gs := blk_lt B1.out
      clear hW f0 f1 f2 f3 f4 f5 f6 s0 s3 p0 p1 p2 p3 p4 z0 z1 z2 z3 z4
      have fb0 := blk_p B1.out 0
      have s0 := fun y => HS0.out _ (G1.out.trans (Grow.wplus W y))
      refine region_quiet ⟨_, rfl⟩ (by kernel_rfl) (by kernel_rfl) ?_
      repeat (go_big_quiet_step (fail))
      refine wpQuiet_nil ?_
      rintro w2 ⟨y, rfl⟩
      clear fb0 s0
      have fb5 := blk_p B1.out 5 y
      have fb4 := blk_p B1.out 4 y
      have C2 := Lib.hid (blk_grow C1.out (Grow.wplus W y))
      have p0 := cell_of_row _ _ 0 _ _ _ C2.out
      have p1 := cell_of_row _ _ 1 _ _ _ C2.out
      have p4 := cell_of_row _ _ 4 _ _ _ C2.out
      have z0 := frozen_of_row _ _ 0 _ _ C2.out
      have z1 := frozen_of_row _ _ 1 _ _ C2.out
      have z4 := frozen_of_row _ _ 4 _ _ C2.out
      go_wp2
      · go_roundw
        case rel => exact ⟨k + 1, a, by omega, by go_num, by unfold Hid; rw [hi.out, hd.out, List.foldl_cons, cnt_other (by go_light; simp_all [eqN])], G1.out.trans (Grow.wplus W y), blk_grow Z1.out (Grow.wplus W y), C2.out⟩
        case measure => simp [intOf]; omega
      · go_roundw
        case rel => exact ⟨k + 1, { a with ending := bump a.ending }, by omega, by go_num, by unfold Hid; rw [hi.out, hd.out, List.foldl_cons, cnt_ending (by go_light; simp_all [eqN]) (by assumption)], (G1.out.trans (Grow.wplus W y)).set (by simp) _, blk_far (blk_grow Z1.out (Grow.wplus W y)) (by simp) _, blk_seti C2.out rfl⟩
        case measure => simp [intOf]; omega
      all_goals
        refine rebase ?_
        intro W3 hW3
        have G3 := Lib.hid (show Grow w W3 by rw [hW3.out]; (repeat (refine Grow.set ?_ (by simp) _)); exact G1.out.trans (Grow.wplus W y))
        have gsw : w.heap.size + 1 < wr.heap.size := blk_lt ha.out
        have B3 := Lib.hid (show W3.heap[wr.heap.size]? = some (.cells #[.string x.service, .int .i64 x.number, .int .i64 x.version, .int .i64 x.image, .int .i64 x.state, .bool x.ending, .string x.berth] 65 (0, 0)) by rw [hW3.out]; (repeat (refine blk_far ?_ (by simp; omega) _)); exact blk_grow B1.out (Grow.wplus W y))
        have Z3 := Lib.hid (show W3.heap[w.heap.size]? = some (.cells #[.int .i64 0, .int .i64 0, .int .i64 0, .int .i64 0, .int .i64 0] 50 (0, 0)) by rw [hW3.out]; (repeat (refine blk_far ?_ (by simp) _)); exact blk_grow Z1.out (Grow.wplus W y))
        have C3 := Lib.hid (show W3.heap[w.heap.size + 1]? = some (.cells #[.int .i64 (bump a.live), .int .i64 (if x.state = 3 then bump a.serving else a.serving), .int .i64 a.old, .int .i64 a.failed, .int .i64 a.ending] 50 (0, 0)) by
          rw [hW3.out]
          first
            | (rw [if_pos (by go_light; simp_all)]; exact blk_seti (blk_seti C2.out rfl) rfl)
            | (rw [if_neg (by go_light; simp_all)]; exact blk_seti C2.out rfl))
        have gs3 := blk_lt B3.out
        clear hW3 p0 p1 p4 z0 z1 z4 fb4 fb5
        have fb3 := blk_p B3.out 3
        have s3 := fun y => HS3.out _ (G3.out.trans (Grow.wplus W3 y))
        refine region_quiet ⟨_, rfl⟩ (by kernel_rfl) (by kernel_rfl) ?_
        repeat (go_big_quiet_step (fail))
        refine wpQuiet_nil ?_
        rintro w4 ⟨y4, rfl⟩
        clear fb3 s3
        have fb4 := blk_p B3.out 4 y4
        have C4 := Lib.hid (blk_grow C3.out (Grow.wplus W3 y4))
        have p2 := cell_of_row _ _ 2 _ _ _ C4.out
        have p3 := cell_of_row _ _ 3 _ _ _ C4.out
        have z2 := frozen_of_row _ _ 2 _ _ C4.out
        have z3 := frozen_of_row _ _ 3 _ _ C4.out
        go_wp2
        all_goals
          go_roundw
          case rel =>
            refine ⟨k + 1, ⟨bump a.live, if x.state = 3 then bump a.serving else a.serving, if x.image = im then a.old else bump a.old, if x.state = 4 then bump a.failed else a.failed, a.ending⟩, by omega, by go_num, ?_, ?_, ?_, ?_⟩
            · unfold Hid; rw [hi.out, hd.out, List.foldl_cons, cnt_live (by go_light; simp_all [eqN]) (by assumption)]
            · unfold Hid
              repeat (refine Grow.set ?_ (by simp) _)
              exact G3.out.trans (Grow.wplus W3 y4)
            · unfold Hid
              repeat (refine blk_far ?_ (by simp) _)
              exact blk_grow Z3.out (Grow.wplus W3 y4)
            · unfold Hid
              first
                | exact blk_cd (blk_seti (blk_seti C4.out rfl) rfl) (by first | exact congrArg (Value.int .i64) (if_pos (by go_light; simp_all)).symm | exact congrArg (Value.int .i64) (if_neg (by go_light; simp_all)).symm) (by first | exact congrArg (Value.int .i64) (if_pos (by go_light; simp_all)).symm | exact congrArg (Value.int .i64) (if_neg (by go_light; simp_all)).symm)
                | exact blk_cd (blk_seti C4.out rfl) (by first | exact congrArg (Value.int .i64) (if_pos (by go_light; simp_all)).symm | exact congrArg (Value.int .i64) (if_neg (by go_light; simp_all)).symm) (by first | exact congrArg (Value.int .i64) (if_pos (by go_light; simp_all)).symm | exact congrArg (Value.int .i64) (if_neg (by go_light; simp_all)).symm)
                | exact blk_cd C4.out (by first | exact congrArg (Value.int .i64) (if_pos (by go_light; simp_all)).symm | exact congrArg (Value.int .i64) (if_neg (by go_light; simp_all)).symm) (by first | exact congrArg (Value.int .i64) (if_pos (by go_light; simp_all)).symm | exact congrArg (Value.int .i64) (if_neg (by go_light; simp_all)).symm)
          case measure => simp [intOf]; omega
    · obtain rfl : k = b.cps.length := by omega
      have p0 := cell_of_row wr _ 0 _ _ _ ha.out
      have p1 := cell_of_row wr _ 1 _ _ _ ha.out
      have p2 := cell_of_row wr _ 2 _ _ _ ha.out
      have p3 := cell_of_row wr _ 3 _ _ _ ha.out
      have p4 := cell_of_row wr _ 4 _ _ _ ha.out
      have q0 := cell_of_row wr _ 0 _ _ _ hz.out
      have q1 := cell_of_row wr _ 1 _ _ _ hz.out
      have q2 := cell_of_row wr _ 2 _ _ _ hz.out
      have q3 := cell_of_row wr _ 3 _ _ _ hz.out
      have q4 := cell_of_row wr _ 4 _ _ _ hz.out
      have z0 := frozen_of_row wr _ 0 _ _ hz.out
      have z1 := frozen_of_row wr _ 1 _ _ hz.out
      have z2 := frozen_of_row wr _ 2 _ _ hz.out
      have z3 := frozen_of_row wr _ 3 _ _ hz.out
      have z4 := frozen_of_row wr _ 4 _ _ hz.out
      go_wp2
      have hr := hi.out
      rw [List.drop_length, List.foldl_nil] at hr
      rw [hr]
      refine bodyPost_ret (v := .agg #[.int .i64 a.live, .int .i64 a.serving, .int .i64 a.old, .int .i64 a.failed, .int .i64 a.ending]) (by simp [results, Try.results80, go_sem, p0, p1, p2, p3, p4, q0, q1, q2, q3, q4]) rfl ⟨rfl, ?_⟩
      repeat (refine Grow.set ?_ (by simp <;> omega) _)
      exact hgr.out
end Go.Proofs.Ytnmknkdbeccmhaa
namespace Go.Proofs.Ytnmknkdbeccmhaa
open Go.RowKit
set_option linter.unusedSimpArgs false
set_option linter.unusedVariables false

theorem blk_alloc {w : World} {g : Nat} {o o' : Obj} (h : w.heap[g]? = some o) : (w.alloc o').heap[g]? = some o := (Below.heap_alloc _ _ _ (blk_lt h)).trans h
theorem blk_new {w : World} {g : Nat} {o : Obj} (h : w.heap.size = g) : (w.alloc o).heap[g]? = some o := by subst h; exact heap_alloc_new _ _
theorem blk_bd {w : World} {g : Nat} {a b c d e b' d' : Value} {T : TypeId} (h : w.heap[g]? = some (.cells #[a, b, c, d, e] T (0, 0))) (hb : b = b') (hd : d = d') : w.heap[g]? = some (.cells #[a, b', c, d', e] T (0, 0)) := by subst hb hd; exact h

set_option maxRecDepth 100000 in
set_option maxHeartbeats 4000000 in
theorem l2Count_none (b : Book) {A1 A2 A3 : Option Addr} {n3 c1 c2 c3 : Nat} (nm : ByteArray) (w : World) (h1 : Rows 13 svcC w A1 b.svcs) (hl1 : b.svcs.length ≤ 2000000) (h : Rows 7 cpyC w A2 b.cps) (hl : b.cps.length ≤ 2000000) (hq : svcAt b.svcs nm = none) :
    Calls Try.prog 79 #[.agg #[.int .i64 b.now, .slice A1 b.svcs.length c1, .slice A2 b.cps.length c2, .slice A3 n3 c3], .string nm] w fun e w' => e = .returned (.agg #[.int .i64 0, .int .i64 0, .int .i64 0, .int .i64 0, .int .i64 0]) ∧ Grow w w' := by
  have H1 := Lib.hid (fun (w' : World) (hg : Grow w w') => h1.below hg)
  have Hr := Lib.hid (show idxI (svcAt b.svcs nm) = -1 by rw [hq]; rfl)
  clear h h1 hq
  go_enter Try.func79, Try.ntmps79
  go_wp2_with fail
  refine (l1Service_r b nm _ (-1) (H1.out _ ((((Grow.refl w).alloc _).alloc _).alloc _)) hl1 Hr.out).mono ?_
  rintro e w1 ⟨rfl, hg1⟩
  obtain ⟨a1, a2, a3⟩ := heap_alloc3 w _ _ _
  replace a1 := blk_grow a1 hg1
  replace a2 := blk_grow a2 hg1
  replace a3 := blk_grow a3 hg1
  have G1 := Lib.hid (((((Grow.refl w).alloc _).alloc _).alloc _).trans hg1)
  clear hg1
  have q2 := cell_of_row w1 _ 2 _ _ _ a1
  have r0 := cell_of_row w1 _ 0 _ _ _ a2
  have r1 := cell_of_row w1 _ 1 _ _ _ a2
  have r2 := cell_of_row w1 _ 2 _ _ _ a2
  have r3 := cell_of_row w1 _ 3 _ _ _ a2
  have r4 := cell_of_row w1 _ 4 _ _ _ a2
  have z0 := frozen_of_row w1 _ 0 _ _ a2
  have z1 := frozen_of_row w1 _ 1 _ _ a2
  have z2 := frozen_of_row w1 _ 2 _ _ a2
  have z3 := frozen_of_row w1 _ 3 _ _ a2
  have z4 := frozen_of_row w1 _ 4 _ _ a2
  have p0 := cell_of_row w1 _ 0 _ _ _ a3
  have p1 := cell_of_row w1 _ 1 _ _ _ a3
  have p2 := cell_of_row w1 _ 2 _ _ _ a3
  have p3 := cell_of_row w1 _ 3 _ _ _ a3
  have p4 := cell_of_row w1 _ 4 _ _ _ a3
  clear a1 a2 a3
  go_wp2_with fail
  go_loopw [7] (fun i wr => i = .int .i64 0 ∧ wr = w1) (fun _ _ => 0)
  case atStart => exact ⟨rfl, rfl⟩
  case round =>
    obtain ⟨rfl, rfl⟩ := hrel
    by_cases hc : b.cps.length = 0
    all_goals
      go_wp2_with fail
      refine bodyPost_ret (v := .agg #[.int .i64 0, .int .i64 0, .int .i64 0, .int .i64 0, .int .i64 0]) (by simp [results, Try.results79, go_sem, p0, p1, p2, p3, p4, r0, r1, r2, r3, r4]) rfl ⟨rfl, ?_⟩
      repeat (refine Grow.set ?_ (by simp <;> omega) _)
      exact G1.out
set_option maxRecDepth 100000 in
set_option maxHeartbeats 4000000 in
theorem l2Count_some (b : Book) {A1 A2 A3 : Option Addr} {n3 c1 c2 c3 : Nat} (nm : ByteArray) {i : Nat} {s : Svc} (w : World) (h1 : Rows 13 svcC w A1 b.svcs) (hl1 : b.svcs.length ≤ 2000000) (h : Rows 7 cpyC w A2 b.cps) (hl : b.cps.length ≤ 2000000) (hq : svcAt b.svcs nm = some i) (hs : b.svcs[i]? = some s) :
    Calls Try.prog 79 #[.agg #[.int .i64 b.now, .slice A1 b.svcs.length c1, .slice A2 b.cps.length c2, .slice A3 n3 c3], .string nm] w fun e w' => e = .returned (.agg #[.int .i64 (cntOf b.cps nm s.image).live, .int .i64 (cntOf b.cps nm s.image).serving, .int .i64 (cntOf b.cps nm s.image).old, .int .i64 (cntOf b.cps nm s.image).failed, .int .i64 (cntOf b.cps nm s.image).ending]) ∧ Grow w w' := by
  have H1 := Lib.hid (fun (w' : World) (hg : Grow w w') => h1.below hg)
  have H := Lib.hid (fun (w' : World) (hg : Grow w w') => h.below hg)
  have Hr := Lib.hid (show idxI (svcAt b.svcs nm) = i by rw [hq]; rfl)
  have HS := Lib.hid hs
  have hil : i < b.svcs.length := (List.getElem?_eq_some_iff.1 hs).1
  clear h h1 hq hs
  go_enter Try.func79, Try.ntmps79
  go_wp2_with fail
  refine (l1Service_r b nm _ i (H1.out _ ((((Grow.refl w).alloc _).alloc _).alloc _)) hl1 Hr.out).mono ?_
  rintro e w1 ⟨rfl, hg1⟩
  obtain ⟨a1, a2, a3⟩ := heap_alloc3 w _ _ _
  replace a1 := Lib.hid (blk_grow a1 hg1)
  replace a2 := Lib.hid (blk_grow a2 hg1)
  replace a3 := Lib.hid (blk_grow a3 hg1)
  have G1 := Lib.hid (((((Grow.refl w).alloc _).alloc _).alloc _).trans hg1)
  clear hg1
  go_wp2_with fail
  go_loopw [7] (fun i wr => ∃ (k : Nat) (a : Cnt), k ≤ b.cps.length ∧ i = .int .i64 k ∧ Hid (cntOf b.cps nm s.image = (b.cps.drop k).foldl (cntStep nm s.image) a) ∧ Hid (Grow w wr) ∧
      Hid (wr.heap[w.heap.size]? = some (.cells #[.int .i64 b.now, .slice A1 b.svcs.length c1, .slice A2 b.cps.length c2, .slice A3 n3 c3] 34 (0, 0))) ∧
      Hid (wr.heap[w.heap.size + 1]? = some (.cells #[.int .i64 0, .int .i64 0, .int .i64 0, .int .i64 0, .int .i64 0] 50 (0, 0))) ∧
      Hid (wr.heap[w.heap.size + 1 + 1]? = some (.cells #[.int .i64 a.live, .int .i64 a.serving, .int .i64 a.old, .int .i64 a.failed, .int .i64 a.ending] 50 (0, 0)))) (fun i _ => b.cps.length - (intOf i).toNat)
  case atStart => exact ⟨0, cnt0, Nat.zero_le _, rfl, rfl, G1.out, a1.out, a2.out, a3.out⟩
  case round =>
    obtain ⟨k, a, hk, rfl, hi, hgr, hbk, hz, ha⟩ := hrel
    clear a1 a2 a3
    have k2 := cell_of_row wr _ 2 _ _ _ hbk.out
    by_cases hlt : k < b.cps.length
    · obtain ⟨x, hx⟩ := ex_at hlt
      obtain ⟨bb, o, rfl, hbb, f0, f1, f2, f3, f4, f5, f6⟩ := cpy_at (H.out _ hgr.out) hx
      have hd := Lib.hid (drop_at hx)
      clear hx
      have p0 := cell_of_row wr _ 0 _ _ _ ha.out
      have p1 := cell_of_row wr _ 1 _ _ _ ha.out
      have p3 := cell_of_row wr _ 3 _ _ _ ha.out
      have p4 := cell_of_row wr _ 4 _ _ _ ha.out
      have z0 := frozen_of_row wr _ 0 _ _ ha.out
      have z1 := frozen_of_row wr _ 1 _ _ ha.out
      have z3 := frozen_of_row wr _ 3 _ _ ha.out
      have z4 := frozen_of_row wr _ 4 _ _ ha.out
      have t1 : (0 : Int) ≤ (i : Int) := Int.natCast_nonneg _
      have gl := blk_lt ha.out
      go_wp2_with fail
      · go_roundw
        case rel => exact ⟨k + 1, a, by omega, by go_num, by unfold Hid; rw [hi.out, hd.out, List.foldl_cons, cnt_other (by go_light; simp_all [eqN])], hgr.out.alloc _, blk_alloc hbk.out, blk_alloc hz.out, blk_alloc ha.out⟩
        case measure => simp [intOf]; omega
      · go_roundw
        case rel => exact ⟨k + 1, { a with ending := bump a.ending }, by omega, by go_num, by unfold Hid; rw [hi.out, hd.out, List.foldl_cons, cnt_ending (by go_light; simp_all [eqN]) (by assumption)], by unfold Hid; (repeat (first | exact hgr.out | refine Grow.alloc ?_ _ | refine Grow.set ?_ (by first | (simp; done) | (simp; omega) | omega) _)), by unfold Hid; (repeat (first | exact hbk.out | refine blk_alloc ?_ | refine blk_far ?_ (by first | (simp; done) | (simp; omega) | omega) _)), by unfold Hid; (repeat (first | exact hz.out | refine blk_alloc ?_ | refine blk_far ?_ (by first | (simp; done) | (simp; omega) | omega) _)), by unfold Hid; first | exact blk_alloc (blk_seti ha.out rfl) | exact blk_seti (blk_alloc ha.out) rfl⟩
        case measure => simp [intOf]; omega
      all_goals
        refine rebase ?_
        intro W3 hW3
        have G3 := Lib.hid (show Grow w W3 by rw [hW3.out]; (repeat (first | exact hgr.out | refine Grow.alloc ?_ _ | refine Grow.set ?_ (by first | (simp; done) | (simp; omega) | omega) _)))
        have B3 := Lib.hid (show W3.heap[wr.heap.size]? = some (.cells #[.string x.service, .int .i64 x.number, .int .i64 x.version, .int .i64 x.image, .int .i64 x.state, .bool x.ending, .string x.berth] 65 (0, 0)) by rw [hW3.out, (by assumption : x.ending = false)]; exact blk_new (by simp))
        have K3 := Lib.hid (show W3.heap[w.heap.size]? = some (.cells #[.int .i64 b.now, .slice A1 b.svcs.length c1, .slice (some ⟨bb, o, none⟩) b.cps.length c2, .slice A3 n3 c3] 34 (0, 0)) by rw [hW3.out]; (repeat (first | exact hbk.out | refine blk_alloc ?_ | refine blk_far ?_ (by first | (simp; done) | (simp; omega) | omega) _)))
        have Z3 := Lib.hid (show W3.heap[w.heap.size + 1]? = some (.cells #[.int .i64 0, .int .i64 0, .int .i64 0, .int .i64 0, .int .i64 0] 50 (0, 0)) by rw [hW3.out]; (repeat (first | exact hz.out | refine blk_alloc ?_ | refine blk_far ?_ (by first | (simp; done) | (simp; omega) | omega) _)))
        have C3 := Lib.hid (show W3.heap[w.heap.size + 1 + 1]? = some (.cells #[.int .i64 (bump a.live), .int .i64 (if x.state = 3 then bump a.serving else a.serving), .int .i64 a.old, .int .i64 (if x.state = 4 then bump a.failed else a.failed), .int .i64 a.ending] 50 (0, 0)) by
          rw [hW3.out]
          first
            | exact blk_bd (blk_alloc (blk_seti (blk_seti ha.out rfl) rfl)) (by first | exact congrArg (Value.int .i64) (if_pos (by go_light; simp_all)).symm | exact congrArg (Value.int .i64) (if_neg (by go_light; simp_all)).symm) (by first | exact congrArg (Value.int .i64) (if_pos (by go_light; simp_all)).symm | exact congrArg (Value.int .i64) (if_neg (by go_light; simp_all)).symm)
            | exact blk_bd (blk_alloc (blk_seti ha.out rfl)) (by first | exact congrArg (Value.int .i64) (if_pos (by go_light; simp_all)).symm | exact congrArg (Value.int .i64) (if_neg (by go_light; simp_all)).symm) (by first | exact congrArg (Value.int .i64) (if_pos (by go_light; simp_all)).symm | exact congrArg (Value.int .i64) (if_neg (by go_light; simp_all)).symm))
        have gs3 := blk_lt B3.out
        clear hW3 p0 p1 p3 p4 z0 z1 z3 z4
        have fb3 := blk_p B3.out 3
        have fk1 := blk_p K3.out 1
        have t2 : (i : Int) < (b.svcs.length : Int) := by omega
        obtain ⟨bs, os, rfl, hbs, -, -, -, s3, -⟩ := svc_p (H1.out _ G3.out) HS.out
        refine region_quiet ⟨_, rfl⟩ (by kernel_rfl) (by kernel_rfl) ?_
        repeat (go_big_quiet_step (fail))
        refine wpQuiet_nil ?_
        rintro w4 ⟨y4, rfl⟩
        clear fb3 fk1 s3
        have C4 := Lib.hid (blk_grow C3.out (Grow.wplus W3 y4))
        have p2 := cell_of_row _ _ 2 _ _ _ C4.out
        have z2 := frozen_of_row _ _ 2 _ _ C4.out
        go_wp2_with fail
        all_goals
          go_roundw
          case rel =>
            refine ⟨k + 1, ⟨bump a.live, if x.state = 3 then bump a.serving else a.serving, if x.image = s.image then a.old else bump a.old, if x.state = 4 then bump a.failed else a.failed, a.ending⟩, by omega, by go_num, ?_, ?_, ?_, ?_, ?_⟩
            · unfold Hid; rw [hi.out, hd.out, List.foldl_cons, cnt_live (by go_light; simp_all [eqN]) (by assumption)]
            · unfold Hid
              repeat (refine Grow.set ?_ (by first | (simp; done) | (simp; omega) | omega) _)
              exact G3.out.trans (Grow.wplus W3 y4)
            · unfold Hid
              repeat (refine blk_far ?_ (by first | (simp; done) | (simp; omega) | omega) _)
              exact blk_grow K3.out (Grow.wplus W3 y4)
            · unfold Hid
              repeat (refine blk_far ?_ (by first | (simp; done) | (simp; omega) | omega) _)
              exact blk_grow Z3.out (Grow.wplus W3 y4)
            · unfold Hid
              first
                | exact blk_cd (blk_seti C4.out rfl) (by first | exact congrArg (Value.int .i64) (if_pos (by go_light; simp_all)).symm | exact congrArg (Value.int .i64) (if_neg (by go_light; simp_all)).symm) rfl
                | exact blk_cd C4.out (by first | exact congrArg (Value.int .i64) (if_pos (by go_light; simp_all)).symm | exact congrArg (Value.int .i64) (if_neg (by go_light; simp_all)).symm) rfl
          case measure => simp [intOf]; omega
    · obtain rfl : k = b.cps.length := by omega
      have p0 := cell_of_row wr _ 0 _ _ _ ha.out
      have p1 := cell_of_row wr _ 1 _ _ _ ha.out
      have p2 := cell_of_row wr _ 2 _ _ _ ha.out
      have p3 := cell_of_row wr _ 3 _ _ _ ha.out
      have p4 := cell_of_row wr _ 4 _ _ _ ha.out
      have q0 := cell_of_row wr _ 0 _ _ _ hz.out
      have q1 := cell_of_row wr _ 1 _ _ _ hz.out
      have q2 := cell_of_row wr _ 2 _ _ _ hz.out
      have q3 := cell_of_row wr _ 3 _ _ _ hz.out
      have q4 := cell_of_row wr _ 4 _ _ _ hz.out
      have z0 := frozen_of_row wr _ 0 _ _ hz.out
      have z1 := frozen_of_row wr _ 1 _ _ hz.out
      have z2 := frozen_of_row wr _ 2 _ _ hz.out
      have z3 := frozen_of_row wr _ 3 _ _ hz.out
      have z4 := frozen_of_row wr _ 4 _ _ hz.out
      go_wp2_with fail
      have hr := hi.out
      rw [List.drop_length, List.foldl_nil] at hr
      rw [hr]
      refine bodyPost_ret (v := .agg #[.int .i64 a.live, .int .i64 a.serving, .int .i64 a.old, .int .i64 a.failed, .int .i64 a.ending]) (by simp [results, Try.results79, go_sem, p0, p1, p2, p3, p4, q0, q1, q2, q3, q4]) rfl ⟨rfl, ?_⟩
      repeat (refine Grow.set ?_ (by simp <;> omega) _)
      exact hgr.out
end Go.Proofs.Ytnmknkdbeccmhaa
