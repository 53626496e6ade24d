/- The walks of StewCountOf, the reference's and the program's. -/
import Derived.Test.YtnmknkdbeccmhaaB12
import Derived.Test.YtnmknkdbeccmhaaB5
namespace Go.Proofs.Ytnmknkdbeccmhaa
open Go.RowKit
set_option linter.unusedSimpArgs false
set_option linter.unusedVariables false

theorem eqStewCount_c (a : Cnt) (w : World) : Calls Try.prog 27 #[.agg #[.int .i64 a.live, .int .i64 a.serving, .int .i64 a.old, .int .i64 a.failed, .int .i64 a.ending], .agg #[.int .i64 a.live, .int .i64 a.serving, .int .i64 a.old, .int .i64 a.failed, .int .i64 a.ending]] w fun e w' => e = .returned (.bool true) ∧ Grow w w' := by
  go_enter Try.func27, Try.ntmps27
  go_wp2
  all_goals first
    | (go_ret; exact ⟨rfl, ((Grow.refl _).alloc _).alloc _⟩)
    | (exfalso; simp_all)
theorem cntOf_name {cps : List Cpy} {a nm : ByteArray} {im : Int} (h : a.toList = nm.toList) : cntOf cps nm im = cntOf cps a im := by
  have : cntStep nm im = cntStep a im := by funext c x; simp [cntStep, eqN, h]
  rw [cntOf, cntOf, this]
def countOf (b : Book) (nm : ByteArray) : Cnt := if valid b = true then (match (svcAt b.svcs nm).bind (b.svcs[·]?) with | none => cnt0 | some s => cntOf b.cps nm s.image) else cnt0
def cntV (a : Cnt) : Value := .agg #[.int .i64 a.live, .int .i64 a.serving, .int .i64 a.old, .int .i64 a.failed, .int .i64 a.ending]
theorem l2Count_c (b : Book) {A1 A2 A3 : Option Addr} {n3 c1 c2 c3 : Nat} (nm : ByteArray) (w : World) (h1 : Rows 13 svcC w A1 b.svcs) (hl1 : b.svcs.length ≤ 2000000) (h : Rows 7 cpyC w A2 b.cps) (hl : b.cps.length ≤ 2000000) (hv : valid b = true) :
    Calls Try.prog 79 #[.agg #[.int .i64 b.now, .slice A1 b.svcs.length c1, .slice A2 b.cps.length c2, .slice A3 n3 c3], .string nm] w fun e w' => e = .returned (cntV (countOf b nm)) ∧ Grow w w' := by
  rcases hq : svcAt b.svcs nm with _ | i
  · have : countOf b nm = cnt0 := by simp [countOf, hq]
    rw [this]; exact l2Count_none b nm w h1 hl1 h hl hq
  · obtain ⟨x, hx, -⟩ := svcAt_some hq
    have : countOf b nm = cntOf b.cps nm x.image := by simp [countOf, hq, hx, hv]
    rw [this]; exact l2Count_some b nm w h1 hl1 h hl hq hx
set_option maxRecDepth 100000 in
set_option maxHeartbeats 4000000 in
theorem specCountOf_c (b : Book) {A1 A2 A3 : Option Addr} {c1 c2 c3 : Nat} (nm : ByteArray) (w : World) (h1 : Rows 13 svcC w A1 b.svcs) (h2 : Rows 7 cpyC w A2 b.cps) (h3 : Rows 2 brtC w A3 b.brs)
    (l1 : b.svcs.length ≤ 2000000) (l2 : b.cps.length ≤ 2000000) (l3 : b.brs.length ≤ 2000000) :
    Calls Try.prog 25 #[.agg #[.int .i64 b.now, .slice A1 b.svcs.length c1, .slice A2 b.cps.length c2, .slice A3 b.brs.length c3], .string nm] w fun e w' => e = .returned (cntV (countOf b nm)) ∧ Grow w w' := by
  have R1 := Lib.hid (fun (w' : World) (hg : Grow w w') => h1.below hg)
  have R2 := Lib.hid (fun (w' : World) (hg : Grow w w') => h2.below hg)
  have R3 := Lib.hid (fun (w' : World) (hg : Grow w w') => h3.below hg)
  clear h1 h2 h3
  go_enter Try.func25, Try.ntmps25
  go_wp2_with fail
  refine (specValid_c b _ (R1.out _ (((Grow.refl w).alloc _).alloc _)) (R2.out _ (((Grow.refl w).alloc _).alloc _)) (R3.out _ (((Grow.refl w).alloc _).alloc _)) l1 l2 l3).mono ?_
  rintro e w1 ⟨rfl, hg1⟩
  have a1 := blk_grow (heap_alloc2 w _ _) hg1
  have a2 := blk_grow (heap_alloc2_new w _ _) hg1
  have G1 := Lib.hid ((((Grow.refl w).alloc _).alloc _).trans hg1)
  clear hg1
  have q0 := cell_of_row w1 _ 0 _ _ _ a1
  have q1 := cell_of_row w1 _ 1 _ _ _ a1
  have q2 := cell_of_row w1 _ 2 _ _ _ a1
  have q3 := cell_of_row w1 _ 3 _ _ _ a1
  have r0 := cell_of_row w1 _ 0 _ _ _ a2
  have r1 := cell_of_row w1 _ 1 _ _ _ a2
  have r2 := cell_of_row w1 _ 2 _ _ _ a2
  have r3 := cell_of_row w1 _ 3 _ _ _ a2
  have r4 := cell_of_row w1 _ 4 _ _ _ a2
  have z0 := frozen_of_row w1 _ 0 _ _ a2
  have z1 := frozen_of_row w1 _ 1 _ _ a2
  have z2 := frozen_of_row w1 _ 2 _ _ a2
  have z3 := frozen_of_row w1 _ 3 _ _ a2
  have z4 := frozen_of_row w1 _ 4 _ _ a2
  have A2' := Lib.hid a2
  clear a1 a2
  rcases hv : valid b
  · have hc : countOf b nm = cnt0 := by simp [countOf, hv]
    go_wp2_with fail
    rw [hc]
    refine bodyPost_ret (v := cntV cnt0) (by simp [results, Try.results25, go_sem, cntV, cnt0, r0, r1, r2, r3, r4]) rfl ⟨rfl, ?_⟩
    repeat (refine Grow.set ?_ (by simp <;> omega) _)
    exact G1.out
  · go_wp2_with fail
    refine (l2Count_c b nm w1 (R1.out _ G1.out) l1 (R2.out _ G1.out) l2 hv).mono ?_
    rintro e w2 ⟨rfl, hg2⟩
    have a2 := blk_grow A2'.out hg2
    have r0 := cell_of_row w2 _ 0 _ _ _ a2
    have z0 := frozen_of_row w2 _ 0 _ _ a2
    have r1 := cell_of_row w2 _ 1 _ _ _ a2
    have z1 := frozen_of_row w2 _ 1 _ _ a2
    have r2 := cell_of_row w2 _ 2 _ _ _ a2
    have z2 := frozen_of_row w2 _ 2 _ _ a2
    have r3 := cell_of_row w2 _ 3 _ _ _ a2
    have z3 := frozen_of_row w2 _ 3 _ _ a2
    have r4 := cell_of_row w2 _ 4 _ _ _ a2
    have z4 := frozen_of_row w2 _ 4 _ _ a2
    clear a2
    generalize ha : countOf b nm = a
    unfold cntV
    go_wp2_with fail
    refine bodyPost_ret (v := .agg #[.int .i64 a.live, .int .i64 a.serving, .int .i64 a.old, .int .i64 a.failed, .int .i64 a.ending]) (by simp [results, Try.results25, go_sem, r0, r1, r2, r3, r4]) rfl ⟨by rw [ha]; rfl, ?_⟩
    repeat (refine Grow.set ?_ (by simp <;> omega) _)
    exact G1.out.trans hg2
set_option maxRecDepth 100000 in
set_option maxHeartbeats 4000000 in
theorem implCountOf_c (b : Book) {A1 A2 A3 : Option Addr} {c1 c2 c3 : Nat} (nm : ByteArray) (w : World) (h1 : Rows 13 svcC w A1 b.svcs) (h2 : Rows 7 cpyC w A2 b.cps) (h3 : Rows 2 brtC w A3 b.brs)
    (l1 : b.svcs.length ≤ 2000000) (l2 : b.cps.length ≤ 2000000) (l3 : b.brs.length ≤ 2000000) :
    Calls Try.prog 26 #[.agg #[.int .i64 b.now, .slice A1 b.svcs.length c1, .slice A2 b.cps.length c2, .slice A3 b.brs.length c3], .string nm] w fun e w' => e = .returned (cntV (countOf b nm)) ∧ Grow w w' := by
  have R1 := Lib.hid (fun (w' : World) (hg : Grow w w') => h1.below hg)
  have R2 := Lib.hid (fun (w' : World) (hg : Grow w w') => h2.below hg)
  have R3 := Lib.hid (fun (w' : World) (hg : Grow w w') => h3.below hg)
  clear h1 h2 h3
  go_enter Try.func26, Try.ntmps26
  go_wp2_with fail
  refine (implValid_c b _ (R1.out _ (((Grow.refl w).alloc _).alloc _)) (R2.out _ (((Grow.refl w).alloc _).alloc _)) (R3.out _ (((Grow.refl w).alloc _).alloc _)) l1 l2 l3).mono ?_
  rintro e w1 ⟨rfl, hg1⟩
  have a1 := blk_grow (heap_alloc2 w _ _) hg1
  have a2 := blk_grow (heap_alloc2_new w _ _) hg1
  have G1 := Lib.hid ((((Grow.refl w).alloc _).alloc _).trans hg1)
  clear hg1
  have BB := Lib.hid (show BookBlk w1 w.heap.size b A1 A2 A3 c1 c2 c3 from a1)
  have r0 := cell_of_row w1 _ 0 _ _ _ a2
  have z0 := frozen_of_row w1 _ 0 _ _ a2
  have r1 := cell_of_row w1 _ 1 _ _ _ a2
  have z1 := frozen_of_row w1 _ 1 _ _ a2
  have r2 := cell_of_row w1 _ 2 _ _ _ a2
  have z2 := frozen_of_row w1 _ 2 _ _ a2
  have r3 := cell_of_row w1 _ 3 _ _ _ a2
  have z3 := frozen_of_row w1 _ 3 _ _ a2
  have r4 := cell_of_row w1 _ 4 _ _ _ a2
  have z4 := frozen_of_row w1 _ 4 _ _ a2
  have A2' := Lib.hid a2
  clear a1 a2
  rcases hv : valid b
  · have hc : countOf b nm = cnt0 := by simp [countOf, hv]
    go_wp2_with fail
    rw [hc]
    refine bodyPost_ret (v := cntV cnt0) (by simp [results, Try.results26, go_sem, cntV, cnt0, r0, r1, r2, r3, r4]) rfl ⟨rfl, ?_⟩
    repeat (refine Grow.set ?_ (by simp <;> omega) _)
    exact G1.out
  · have hc : ∀ x, (svcAt b.svcs nm).bind (b.svcs[·]?) = x → countOf b nm = (match x with | none => cnt0 | some s => cntOf b.cps nm s.image) := by rintro x rfl; simp [countOf, hv]
    rcases hq : svcAt b.svcs nm with _ | i
    · have hr := hc none (by rw [hq]; rfl)
      have Hp := Lib.hid (show elemPtr 13 A1 (svcAt b.svcs nm) = none by rw [hq]; rfl)
      clear hc hq
      go_wp2_with (go_at_call 71; refine (service_r b nm _ none BB.out (R1.out _ G1.out) l1 Hp.out).mono ?_; rintro e w2 ⟨rfl, rfl⟩)
      rw [hr]
      refine bodyPost_ret (v := cntV cnt0) (by simp [results, Try.results26, go_sem, cntV, cnt0, r0, r1, r2, r3, r4]) rfl ⟨rfl, ?_⟩
      repeat (refine Grow.set ?_ (by simp <;> omega) _)
      exact G1.out
    · obtain ⟨x, hx, hxn⟩ := svcAt_some hq
      have hr : countOf b nm = cntOf b.cps nm x.image := hc (some x) (by rw [hq]; exact hx)
      obtain ⟨bs, os, rfl, hbs, s0, -, -, s3, -⟩ := svc_at (R1.out _ G1.out) hx
      have Hp := Lib.hid (show elemPtr 13 (some ⟨bs, os, none⟩) (svcAt b.svcs nm) = some ⟨bs, os + i * 13, none⟩ by rw [hq]; rfl)
      have hn : cntOf b.cps nm x.image = cntOf b.cps x.name x.image := cntOf_name (by simpa [eqN] using hxn)
      clear hc hq hxn
      go_wp2_with (go_at_call 71; refine (service_r b nm _ _ BB.out (R1.out _ G1.out) l1 Hp.out).mono ?_; rintro e w2 ⟨rfl, rfl⟩)
      refine (count_c b x.name x.image _ BB.out (R2.out _ G1.out) l2 s0 s3).mono ?_
      rintro e w3 ⟨rfl, hg3⟩
      have a2 := blk_grow A2'.out hg3
      have r0 := cell_of_row w3 _ 0 _ _ _ a2
      have z0 := frozen_of_row w3 _ 0 _ _ a2
      have r1 := cell_of_row w3 _ 1 _ _ _ a2
      have z1 := frozen_of_row w3 _ 1 _ _ a2
      have r2 := cell_of_row w3 _ 2 _ _ _ a2
      have z2 := frozen_of_row w3 _ 2 _ _ a2
      have r3 := cell_of_row w3 _ 3 _ _ _ a2
      have z3 := frozen_of_row w3 _ 3 _ _ a2
      have r4 := cell_of_row w3 _ 4 _ _ _ a2
      have z4 := frozen_of_row w3 _ 4 _ _ a2
      clear a2
      generalize ha : cntOf b.cps x.name x.image = a
      go_wp2_with fail
      refine bodyPost_ret (v := .agg #[.int .i64 a.live, .int .i64 a.serving, .int .i64 a.old, .int .i64 a.failed, .int .i64 a.ending]) (by simp [results, Try.results26, go_sem, r0, r1, r2, r3, r4]) rfl ⟨by rw [hr, hn, ha]; rfl, ?_⟩
      repeat (refine Grow.set ?_ (by simp <;> omega) _)
      exact G1.out.trans hg3
end Go.Proofs.Ytnmknkdbeccmhaa
