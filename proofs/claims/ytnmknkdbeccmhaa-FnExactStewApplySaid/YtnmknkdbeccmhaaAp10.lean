/- The walks of StewCountOf, the reference's and the program's. The walks of the look-up of a copy and of the gate (may a copy be ended?). The walks of StewWorldOk, the reference's and the program's. -/
import Derived.Test.YtnmknkdbeccmhaaAp8
import Derived.Test.YtnmknkdbeccmhaaAp7
import Derived.Test.YtnmknkdbeccmhaaAp1
import Derived.IntWalk
namespace Go.Proofs.Ytnmknkdbeccmhaa
open Go.RowKit
set_option linter.unusedSimpArgs false
set_option linter.unusedVariables false

theorem eqStewCount_c (a : Cnt) (w : World) : Calls Try.prog 27 #[.agg #[.int .i64 a.live, .int .i64 a.serving, .int .i64 a.old, .int .i64 a.failed, .int .i64 a.ending], .agg #[.int .i64 a.live, .int .i64 a.serving, .int .i64 a.old, .int .i64 a.failed, .int .i64 a.ending]] w fun e w' => e = .returned (.bool true) ∧ Grow w w' := by
  go_enter Try.func27, Try.ntmps27
  go_wp2
  all_goals first
    | (go_ret; exact ⟨rfl, ((Grow.refl _).alloc _).alloc _⟩)
    | (exfalso; simp_all)
theorem cntOf_name {cps : List Cpy} {a nm : ByteArray} {im : Int} (h : a.toList = nm.toList) : cntOf cps nm im = cntOf cps a im := by
  have : cntStep nm im = cntStep a im := by funext c x; simp [cntStep, eqN, h]
  rw [cntOf, cntOf, this]
def countOf (b : Book) (nm : ByteArray) : Cnt := if valid b = true then (match (svcAt b.svcs nm).bind (b.svcs[·]?) with | none => cnt0 | some s => cntOf b.cps nm s.image) else cnt0
def cntV (a : Cnt) : Value := .agg #[.int .i64 a.live, .int .i64 a.serving, .int .i64 a.old, .int .i64 a.failed, .int .i64 a.ending]
theorem l2Count_c (b : Book) {A1 A2 A3 : Option Addr} {n3 c1 c2 c3 : Nat} (nm : ByteArray) (w : World) (h1 : Rows 13 svcC w A1 b.svcs) (hl1 : b.svcs.length ≤ 2000000) (h : Rows 7 cpyC w A2 b.cps) (hl : b.cps.length ≤ 2000000) (hv : valid b = true) :
    Calls Try.prog 79 #[.agg #[.int .i64 b.now, .slice A1 b.svcs.length c1, .slice A2 b.cps.length c2, .slice A3 n3 c3], .string nm] w fun e w' => e = .returned (cntV (countOf b nm)) ∧ Grow w w' := by
  rcases hq : svcAt b.svcs nm with _ | i
  · have : countOf b nm = cnt0 := by simp [countOf, hq]
    rw [this]; exact l2Count_none b nm w h1 hl1 h hl hq
  · obtain ⟨x, hx, -⟩ := svcAt_some hq
    have : countOf b nm = cntOf b.cps nm x.image := by simp [countOf, hq, hx, hv]
    rw [this]; exact l2Count_some b nm w h1 hl1 h hl hq hx
set_option maxRecDepth 100000 in
set_option maxHeartbeats 4000000 in
theorem specCountOf_c (b : Book) {A1 A2 A3 : Option Addr} {c1 c2 c3 : Nat} (nm : ByteArray) (w : World) (h1 : Rows 13 svcC w A1 b.svcs) (h2 : Rows 7 cpyC w A2 b.cps) (h3 : Rows 2 brtC w A3 b.brs)
    (l1 : b.svcs.length ≤ 2000000) (l2 : b.cps.length ≤ 2000000) (l3 : b.brs.length ≤ 2000000) :
    Calls Try.prog 25 #[.agg #[.int .i64 b.now, .slice A1 b.svcs.length c1, .slice A2 b.cps.length c2, .slice A3 b.brs.length c3], .string nm] w fun e w' => e = .returned (cntV (countOf b nm)) ∧ Grow w w' := by
  have R1 := Lib.hid (fun (w' : World) (hg : Grow w w') => h1.below hg)
  have R2 := Lib.hid (fun (w' : World) (hg : Grow w w') => h2.below hg)
  have R3 := Lib.hid (fun (w' : World) (hg : Grow w w') => h3.below hg)
  clear h1 h2 h3
  go_enter Try.func25, Try.ntmps25
  go_wp2_with fail
  refine (specValid_c b _ (R1.out _ (((Grow.refl w).alloc _).alloc _)) (R2.out _ (((Grow.refl w).alloc _).alloc _)) (R3.out _ (((Grow.refl w).alloc _).alloc _)) l1 l2 l3).mono ?_
  rintro e w1 ⟨rfl, hg1⟩
  have a1 := blk_grow (heap_alloc2 w _ _) hg1
  have a2 := blk_grow (heap_alloc2_new w _ _) hg1
  have G1 := Lib.hid ((((Grow.refl w).alloc _).alloc _).trans hg1)
  clear hg1
  have q0 := cell_of_row w1 _ 0 _ _ _ a1
  have q1 := cell_of_row w1 _ 1 _ _ _ a1
  have q2 := cell_of_row w1 _ 2 _ _ _ a1
  have q3 := cell_of_row w1 _ 3 _ _ _ a1
  have r0 := cell_of_row w1 _ 0 _ _ _ a2
  have r1 := cell_of_row w1 _ 1 _ _ _ a2
  have r2 := cell_of_row w1 _ 2 _ _ _ a2
  have r3 := cell_of_row w1 _ 3 _ _ _ a2
  have r4 := cell_of_row w1 _ 4 _ _ _ a2
  have z0 := frozen_of_row w1 _ 0 _ _ a2
  have z1 := frozen_of_row w1 _ 1 _ _ a2
  have z2 := frozen_of_row w1 _ 2 _ _ a2
  have z3 := frozen_of_row w1 _ 3 _ _ a2
  have z4 := frozen_of_row w1 _ 4 _ _ a2
  have A2' := Lib.hid a2
  clear a1 a2
  rcases hv : valid b
  · have hc : countOf b nm = cnt0 := by simp [countOf, hv]
    go_wp2_with fail
    rw [hc]
    refine bodyPost_ret (v := cntV cnt0) (by simp [results, Try.results25, go_sem, cntV, cnt0, r0, r1, r2, r3, r4]) rfl ⟨rfl, ?_⟩
    repeat (refine Grow.set ?_ (by simp <;> omega) _)
    exact G1.out
  · go_wp2_with fail
    refine (l2Count_c b nm w1 (R1.out _ G1.out) l1 (R2.out _ G1.out) l2 hv).mono ?_
    rintro e w2 ⟨rfl, hg2⟩
    have a2 := blk_grow A2'.out hg2
    have r0 := cell_of_row w2 _ 0 _ _ _ a2
    have z0 := frozen_of_row w2 _ 0 _ _ a2
    have r1 := cell_of_row w2 _ 1 _ _ _ a2
    have z1 := frozen_of_row w2 _ 1 _ _ a2
    have r2 := cell_of_row w2 _ 2 _ _ _ a2
    have z2 := frozen_of_row w2 _ 2 _ _ a2
    have r3 := cell_of_row w2 _ 3 _ _ _ a2
    have z3 := frozen_of_row w2 _ 3 _ _ a2
    have r4 := cell_of_row w2 _ 4 _ _ _ a2
    have z4 := frozen_of_row w2 _ 4 _ _ a2
    clear a2
    generalize ha : countOf b nm = a
    unfold cntV
    go_wp2_with fail
    refine bodyPost_ret (v := .agg #[.int .i64 a.live, .int .i64 a.serving, .int .i64 a.old, .int .i64 a.failed, .int .i64 a.ending]) (by simp [results, Try.results25, go_sem, r0, r1, r2, r3, r4]) rfl ⟨by rw [ha]; rfl, ?_⟩
    repeat (refine Grow.set ?_ (by simp <;> omega) _)
    exact G1.out.trans hg2
set_option maxRecDepth 100000 in
set_option maxHeartbeats 4000000 in
theorem implCountOf_c (b : Book) {A1 A2 A3 : Option Addr} {c1 c2 c3 : Nat} (nm : ByteArray) (w : World) (h1 : Rows 13 svcC w A1 b.svcs) (h2 : Rows 7 cpyC w A2 b.cps) (h3 : Rows 2 brtC w A3 b.brs)
    (l1 : b.svcs.length ≤ 2000000) (l2 : b.cps.length ≤ 2000000) (l3 : b.brs.length ≤ 2000000) :
    Calls Try.prog 26 #[.agg #[.int .i64 b.now, .slice A1 b.svcs.length c1, .slice A2 b.cps.length c2, .slice A3 b.brs.length c3], .string nm] w fun e w' => e = .returned (cntV (countOf b nm)) ∧ Grow w w' := by
  have R1 := Lib.hid (fun (w' : World) (hg : Grow w w') => h1.below hg)
  have R2 := Lib.hid (fun (w' : World) (hg : Grow w w') => h2.below hg)
  have R3 := Lib.hid (fun (w' : World) (hg : Grow w w') => h3.below hg)
  clear h1 h2 h3
  go_enter Try.func26, Try.ntmps26
  go_wp2_with fail
  refine (implValid_c b _ (R1.out _ (((Grow.refl w).alloc _).alloc _)) (R2.out _ (((Grow.refl w).alloc _).alloc _)) (R3.out _ (((Grow.refl w).alloc _).alloc _)) l1 l2 l3).mono ?_
  rintro e w1 ⟨rfl, hg1⟩
  have a1 := blk_grow (heap_alloc2 w _ _) hg1
  have a2 := blk_grow (heap_alloc2_new w _ _) hg1
  have G1 := Lib.hid ((((Grow.refl w).alloc _).alloc _).trans hg1)
  clear hg1
  have BB := Lib.hid (show BookBlk w1 w.heap.size b A1 A2 A3 c1 c2 c3 from a1)
  have r0 := cell_of_row w1 _ 0 _ _ _ a2
  have z0 := frozen_of_row w1 _ 0 _ _ a2
  have r1 := cell_of_row w1 _ 1 _ _ _ a2
  have z1 := frozen_of_row w1 _ 1 _ _ a2
  have r2 := cell_of_row w1 _ 2 _ _ _ a2
  have z2 := frozen_of_row w1 _ 2 _ _ a2
  have r3 := cell_of_row w1 _ 3 _ _ _ a2
  have z3 := frozen_of_row w1 _ 3 _ _ a2
  have r4 := cell_of_row w1 _ 4 _ _ _ a2
  have z4 := frozen_of_row w1 _ 4 _ _ a2
  have A2' := Lib.hid a2
  clear a1 a2
  rcases hv : valid b
  · have hc : countOf b nm = cnt0 := by simp [countOf, hv]
    go_wp2_with fail
    rw [hc]
    refine bodyPost_ret (v := cntV cnt0) (by simp [results, Try.results26, go_sem, cntV, cnt0, r0, r1, r2, r3, r4]) rfl ⟨rfl, ?_⟩
    repeat (refine Grow.set ?_ (by simp <;> omega) _)
    exact G1.out
  · have hc : ∀ x, (svcAt b.svcs nm).bind (b.svcs[·]?) = x → countOf b nm = (match x with | none => cnt0 | some s => cntOf b.cps nm s.image) := by rintro x rfl; simp [countOf, hv]
    rcases hq : svcAt b.svcs nm with _ | i
    · have hr := hc none (by rw [hq]; rfl)
      have Hp := Lib.hid (show elemPtr 13 A1 (svcAt b.svcs nm) = none by rw [hq]; rfl)
      clear hc hq
      go_wp2_with (go_at_call 71; refine (service_r b nm _ none BB.out (R1.out _ G1.out) l1 Hp.out).mono ?_; rintro e w2 ⟨rfl, rfl⟩)
      rw [hr]
      refine bodyPost_ret (v := cntV cnt0) (by simp [results, Try.results26, go_sem, cntV, cnt0, r0, r1, r2, r3, r4]) rfl ⟨rfl, ?_⟩
      repeat (refine Grow.set ?_ (by simp <;> omega) _)
      exact G1.out
    · obtain ⟨x, hx, hxn⟩ := svcAt_some hq
      have hr : countOf b nm = cntOf b.cps nm x.image := hc (some x) (by rw [hq]; exact hx)
      obtain ⟨bs, os, rfl, hbs, s0, -, -, s3, -⟩ := svc_at (R1.out _ G1.out) hx
      have Hp := Lib.hid (show elemPtr 13 (some ⟨bs, os, none⟩) (svcAt b.svcs nm) = some ⟨bs, os + i * 13, none⟩ by rw [hq]; rfl)
      have hn : cntOf b.cps nm x.image = cntOf b.cps x.name x.image := cntOf_name (by simpa [eqN] using hxn)
      clear hc hq hxn
      go_wp2_with (go_at_call 71; refine (service_r b nm _ _ BB.out (R1.out _ G1.out) l1 Hp.out).mono ?_; rintro e w2 ⟨rfl, rfl⟩)
      refine (count_c b x.name x.image _ BB.out (R2.out _ G1.out) l2 s0 s3).mono ?_
      rintro e w3 ⟨rfl, hg3⟩
      have a2 := blk_grow A2'.out hg3
      have r0 := cell_of_row w3 _ 0 _ _ _ a2
      have z0 := frozen_of_row w3 _ 0 _ _ a2
      have r1 := cell_of_row w3 _ 1 _ _ _ a2
      have z1 := frozen_of_row w3 _ 1 _ _ a2
      have r2 := cell_of_row w3 _ 2 _ _ _ a2
      have z2 := frozen_of_row w3 _ 2 _ _ a2
      have r3 := cell_of_row w3 _ 3 _ _ _ a2
      have z3 := frozen_of_row w3 _ 3 _ _ a2
      have r4 := cell_of_row w3 _ 4 _ _ _ a2
      have z4 := frozen_of_row w3 _ 4 _ _ a2
      clear a2
      generalize ha : cntOf b.cps x.name x.image = a
      go_wp2_with fail
      refine bodyPost_ret (v := .agg #[.int .i64 a.live, .int .i64 a.serving, .int .i64 a.old, .int .i64 a.failed, .int .i64 a.ending]) (by simp [results, Try.results26, go_sem, r0, r1, r2, r3, r4]) rfl ⟨by rw [hr, hn, ha]; rfl, ?_⟩
      repeat (refine Grow.set ?_ (by simp <;> omega) _)
      exact G1.out.trans hg3
end Go.Proofs.Ytnmknkdbeccmhaa
namespace Go.Proofs.Ytnmknkdbeccmhaa
open Go.RowKit
set_option linter.unusedSimpArgs false
set_option linter.unusedVariables false

theorem eqN_def (a b : ByteArray) : eqN a b = (a.toList == b.toList) := rfl
theorem cpyAt_step {xs : List Cpy} {nm : ByteArray} {n : Int} {k : Nat} {x : Cpy} {ys : List Cpy} {o : Option Nat} (hi : o = fIdx (fun c => eqN c.service nm && decide (c.number = n)) xs k) (hd : xs = x :: ys) :
    o = if (eqN x.service nm && decide (x.number = n)) = true then some k else fIdx (fun c => eqN c.service nm && decide (c.number = n)) ys (k + 1) := by rw [hi, hd, fIdx]
set_option maxHeartbeats 1000000 in
theorem l1Copy_c (b : Book) {A1 A2 A3 : Option Addr} {n1 n3 c1 c2 c3 : Nat} (nm : ByteArray) (n : Int) (w : World) (h : Rows 7 cpyC w A2 b.cps) (hl : b.cps.length ≤ 2000000) :
    Calls Try.prog 129 #[.agg #[.int .i64 b.now, .slice A1 n1 c1, .slice A2 b.cps.length c2, .slice A3 n3 c3], .string nm, .int .i64 n] w fun e w' => e = .returned (.int .i64 (idxI (cpyAt b.cps nm n))) ∧ Grow w w' := by
  have H := Lib.hid h
  clear h
  go_enter Try.func129, Try.ntmps129
  go_wp2
  go_loop [7] (fun i => ∃ k : Nat, k ≤ b.cps.length ∧ i = .int .i64 k ∧ Hid (cpyAt b.cps nm n = fIdx (fun c => eqN c.service nm && decide (c.number = n)) (b.cps.drop k) k)) (fun i => b.cps.length - (intOf i).toNat)
  case atStart => exact ⟨0, Nat.zero_le _, rfl, rfl⟩
  case round =>
    obtain ⟨k, hk, rfl, hi⟩ := hrel
    by_cases hlt : k < b.cps.length
    · obtain ⟨x, hx⟩ := ex_at hlt
      obtain ⟨bb, o, rfl, hbb, f0, f1, -⟩ := cpy_at H.out hx
      have hd := Lib.hid (cpyAt_step hi.out (drop_at hx))
      clear hx hi
      go_wp2
      all_goals first
        | (go_ret
           exact ⟨ret_int (by rw [hd.out, if_pos (by go_light; simp_all [eqN])]; rfl), (Grow.refl _).alloc _⟩)
        | (go_round
           case rel => exact ⟨k + 1, by omega, by go_num, by unfold Hid; rw [hd.out, if_neg (by go_light; simp_all [eqN])]⟩
           case measure => simp [intOf]; omega)
    · obtain rfl : k = b.cps.length := by omega
      go_wp2
      go_ret
      exact ⟨ret_int (by rw [hi.out, List.drop_length]; rfl), (Grow.refl _).alloc _⟩
theorem l1Copy_r (b : Book) {A1 A2 A3 : Option Addr} {n1 n3 c1 c2 c3 : Nat} (nm : ByteArray) (n : Int) (w : World) (r : Int) (h : Rows 7 cpyC w A2 b.cps) (hl : b.cps.length ≤ 2000000) (hr : idxI (cpyAt b.cps nm n) = r) :
    Calls Try.prog 129 #[.agg #[.int .i64 b.now, .slice A1 n1 c1, .slice A2 b.cps.length c2, .slice A3 n3 c3], .string nm, .int .i64 n] w fun e w' => e = .returned (.int .i64 r) ∧ Grow w w' := by
  rw [← hr]; exact l1Copy_c b nm n w h hl
set_option maxHeartbeats 1000000 in
theorem copy_c (b : Book) {g : Nat} {A1 A2 A3 : Option Addr} {c1 c2 c3 : Nat} (nm : ByteArray) (n : Int) (w : World) (hb : BookBlk w g b A1 A2 A3 c1 c2 c3) (h : Rows 7 cpyC w A2 b.cps) (hl : b.cps.length ≤ 2000000) :
    Calls Try.prog 82 #[.pointer (some ⟨g, 0, none⟩), .string nm, .int .i64 n] w fun e w' => e = .returned (.pointer (elemPtr 7 A2 (cpyAt b.cps nm n))) ∧ w = w' := by
  have H := Lib.hid h
  obtain ⟨-, -, -, hb1, -⟩ := hb.at_
  clear h hb
  go_enter Try.func82, Try.ntmps82
  go_wp2
  go_loop [13] (fun i => ∃ k : Nat, k ≤ b.cps.length ∧ i = .int .i64 k ∧ Hid (cpyAt b.cps nm n = fIdx (fun c => eqN c.service nm && decide (c.number = n)) (b.cps.drop k) k)) (fun i => b.cps.length - (intOf i).toNat)
  case atStart => exact ⟨0, Nat.zero_le _, rfl, rfl⟩
  case round =>
    obtain ⟨k, hk, rfl, hi⟩ := hrel
    by_cases hlt : k < b.cps.length
    · obtain ⟨x, hx⟩ := ex_at hlt
      obtain ⟨bb, o, rfl, hbb, f0, f1, -⟩ := cpy_at H.out hx
      have hd := Lib.hid (cpyAt_step hi.out (drop_at hx))
      clear hx hi
      go_wp2
      all_goals first
        | (go_ret
           exact ⟨ret_ptr (by rw [hd.out, if_pos (by go_light; simp_all [eqN])]; rfl), rfl⟩)
        | (go_round
           case rel => exact ⟨k + 1, by omega, by go_num, by unfold Hid; rw [hd.out, if_neg (by go_light; simp_all [eqN])]⟩
           case measure => simp [intOf]; omega)
    · obtain rfl : k = b.cps.length := by omega
      go_wp2
      go_ret
      exact ⟨ret_ptr (by rw [hi.out, List.drop_length]; rfl), rfl⟩
theorem copy_r (b : Book) {g : Nat} {A1 A2 A3 : Option Addr} {c1 c2 c3 : Nat} (nm : ByteArray) (n : Int) (w : World) (r : Option Addr) (hb : BookBlk w g b A1 A2 A3 c1 c2 c3) (h : Rows 7 cpyC w A2 b.cps) (hl : b.cps.length ≤ 2000000) (hr : elemPtr 7 A2 (cpyAt b.cps nm n) = r) :
    Calls Try.prog 82 #[.pointer (some ⟨g, 0, none⟩), .string nm, .int .i64 n] w fun e w' => e = .returned (.pointer r) ∧ w = w' := by
  rw [← hr]; exact copy_c b nm n w hb h hl

theorem svc_cells {w : World} {bs os : Nat} {xs : List Svc} (h : Rows 13 svcC w (some ⟨bs, os, none⟩) xs) {i : Nat} {x : Svc} (hx : xs[i]? = some x) :
    w.cell? ⟨bs, os + i * 13, none⟩ = some (.string x.name) ∧ w.cell? ⟨bs, os + i * 13 + 1, none⟩ = some (.int .i64 x.version) ∧ w.cell? ⟨bs, os + i * 13 + 2, none⟩ = some (.bool x.gone) ∧
      w.cell? ⟨bs, os + i * 13 + 3, none⟩ = some (.int .i64 x.image) ∧ w.cell? ⟨bs, os + i * 13 + 4, none⟩ = some (.int .i64 x.want) ∧ w.cell? ⟨bs, os + i * 13 + 5, none⟩ = some (.int .i64 x.down) ∧ w.cell? ⟨bs, os + i * 13 + 6, none⟩ = some (.int .i64 x.over) ∧
      w.cell? ⟨bs, os + i * 13 + 7, none⟩ = some (.int .i64 x.next) ∧ w.cell? ⟨bs, os + i * 13 + 8, none⟩ = some (.int .i64 x.per) ∧ w.cell? ⟨bs, os + i * 13 + 9, none⟩ = some (.int .i64 x.least) ∧ w.cell? ⟨bs, os + i * 13 + 10, none⟩ = some (.int .i64 x.most) ∧
      w.cell? ⟨bs, os + i * 13 + 11, none⟩ = some (.int .i64 x.load) ∧ w.cell? ⟨bs, os + i * 13 + 12, none⟩ = some (.int .i64 x.cool) := by
  obtain ⟨b, o, e, -, hc⟩ := svc_at h hx
  simp only [Option.some.injEq, Addr.mk.injEq] at e
  obtain ⟨rfl, rfl, -⟩ := e
  exact hc
theorem cpy_cells {w : World} {bs os : Nat} {xs : List Cpy} (h : Rows 7 cpyC w (some ⟨bs, os, none⟩) xs) {i : Nat} {x : Cpy} (hx : xs[i]? = some x) :
    w.cell? ⟨bs, os + i * 7, none⟩ = some (.string x.service) ∧ w.cell? ⟨bs, os + i * 7 + 1, none⟩ = some (.int .i64 x.number) ∧ w.cell? ⟨bs, os + i * 7 + 2, none⟩ = some (.int .i64 x.version) ∧
      w.cell? ⟨bs, os + i * 7 + 3, none⟩ = some (.int .i64 x.image) ∧ w.cell? ⟨bs, os + i * 7 + 4, none⟩ = some (.int .i64 x.state) ∧ w.cell? ⟨bs, os + i * 7 + 5, none⟩ = some (.bool x.ending) ∧ w.cell? ⟨bs, os + i * 7 + 6, none⟩ = some (.string x.berth) := by
  obtain ⟨b, o, e, -, hc⟩ := cpy_at h hx
  simp only [Option.some.injEq, Addr.mk.injEq] at e
  obtain ⟨rfl, rfl, -⟩ := e
  exact hc
/-- The cells of a book that a function was handed by value and laid in a block of its own. -/
theorem box4 {w : World} {g : Nat} {u0 u1 u2 u3 : Value} {T : TypeId} {fr : Nat × Nat} (h : w.heap[g]? = some (.cells #[u0, u1, u2, u3] T fr)) :
    w.cell? ⟨g, 0, none⟩ = some u0 ∧ w.cell? ⟨g, 1, none⟩ = some u1 ∧ w.cell? ⟨g, 2, none⟩ = some u2 ∧ w.cell? ⟨g, 3, none⟩ = some u3 :=
  ⟨cell_of_row w g 0 _ _ _ h, cell_of_row w g 1 _ _ _ h, cell_of_row w g 2 _ _ _ h, cell_of_row w g 3 _ _ _ h⟩

theorem blk_wsets {g : Nat} {T : TypeId} : ∀ (vs Q M : List Value) (w : World), w.heap[g]? = some (.cells (Q ++ M).toArray T (0, 0)) → M.length = vs.length → (wsets g w Q.length vs).heap[g]? = some (.cells (Q ++ vs).toArray T (0, 0))
  | [], Q, [], w, h, _ => h
  | v :: vs, Q, m :: M, w, h, hl => by
    have h1 := blk_set h Q.length v
    have e : (Q ++ m :: M).toArray.setIfInBounds Q.length v = ((Q ++ [v]) ++ M).toArray := by
      rw [List.setIfInBounds_toArray]
      simp [List.set_append]
    rw [e] at h1
    have h2 := blk_wsets vs (Q ++ [v]) M _ h1 (by simpa using hl)
    rw [show (Q ++ [v]).length = Q.length + 1 by simp] at h2
    simpa [wsets] using h2
  | [], _, _ :: _, _, _, hl => by simp at hl
  | _ :: _, _, [], _, _, hl => by simp at hl
/-- A whole row is stored into a block that is known. -/
theorem blk_row {w : World} {g : Nat} {T : TypeId} {M : List Value} (vs : List Value) (h : w.heap[g]? = some (.cells M.toArray T (0, 0))) (hl : M.length = vs.length) : (wsets g w 0 vs).heap[g]? = some (.cells vs.toArray T (0, 0)) :=
  blk_wsets vs [] M w h hl
theorem svc_blk {w : World} {g : Nat} {s : Svc} {T : TypeId} {fr : Nat × Nat} (h : w.heap[g]? = some (.cells (svcC s).toArray T fr)) :
    w.cell? ⟨g, 0, none⟩ = some (.string s.name) ∧ w.cell? ⟨g, 1, none⟩ = some (.int .i64 s.version) ∧ w.cell? ⟨g, 2, none⟩ = some (.bool s.gone) ∧
      w.cell? ⟨g, 3, none⟩ = some (.int .i64 s.image) ∧ w.cell? ⟨g, 4, none⟩ = some (.int .i64 s.want) ∧ w.cell? ⟨g, 5, none⟩ = some (.int .i64 s.down) ∧ w.cell? ⟨g, 6, none⟩ = some (.int .i64 s.over) ∧
      w.cell? ⟨g, 7, none⟩ = some (.int .i64 s.next) ∧ w.cell? ⟨g, 8, none⟩ = some (.int .i64 s.per) ∧ w.cell? ⟨g, 9, none⟩ = some (.int .i64 s.least) ∧ w.cell? ⟨g, 10, none⟩ = some (.int .i64 s.most) ∧
      w.cell? ⟨g, 11, none⟩ = some (.int .i64 s.load) ∧ w.cell? ⟨g, 12, none⟩ = some (.int .i64 s.cool) :=
  ⟨cell_of_row w g 0 _ _ _ h, cell_of_row w g 1 _ _ _ h, cell_of_row w g 2 _ _ _ h, cell_of_row w g 3 _ _ _ h, cell_of_row w g 4 _ _ _ h, cell_of_row w g 5 _ _ _ h, cell_of_row w g 6 _ _ _ h, cell_of_row w g 7 _ _ _ h, cell_of_row w g 8 _ _ _ h, cell_of_row w g 9 _ _ _ h, cell_of_row w g 10 _ _ _ h, cell_of_row w g 11 _ _ _ h, cell_of_row w g 12 _ _ _ h⟩
theorem cpy_blk {w : World} {g : Nat} {s : Cpy} {T : TypeId} {fr : Nat × Nat} (h : w.heap[g]? = some (.cells (cpyC s).toArray T fr)) :
    w.cell? ⟨g, 0, none⟩ = some (.string s.service) ∧ w.cell? ⟨g, 1, none⟩ = some (.int .i64 s.number) ∧ w.cell? ⟨g, 2, none⟩ = some (.int .i64 s.version) ∧
      w.cell? ⟨g, 3, none⟩ = some (.int .i64 s.image) ∧ w.cell? ⟨g, 4, none⟩ = some (.int .i64 s.state) ∧ w.cell? ⟨g, 5, none⟩ = some (.bool s.ending) ∧ w.cell? ⟨g, 6, none⟩ = some (.string s.berth) :=
  ⟨cell_of_row w g 0 _ _ _ h, cell_of_row w g 1 _ _ _ h, cell_of_row w g 2 _ _ _ h, cell_of_row w g 3 _ _ _ h, cell_of_row w g 4 _ _ _ h, cell_of_row w g 5 _ _ _ h, cell_of_row w g 6 _ _ _ h⟩
theorem run_cnt1 (a b c d e : Value) (w : World) : (Instr.field 50 (.agg #[a, b, c, d, e]) 1).run Try.prog w = .ok b w := by kernel_rfl
theorem l2Count_v (b : Book) {A1 A2 A3 : Option Addr} {n3 c1 c2 c3 : Nat} (nm : ByteArray) (w : World) (ct : Cnt) {i : Nat} {x : Svc} (h1 : Rows 13 svcC w A1 b.svcs) (hl1 : b.svcs.length ≤ 2000000) (h : Rows 7 cpyC w A2 b.cps) (hl : b.cps.length ≤ 2000000) (hq : svcAt b.svcs nm = some i) (hx : b.svcs[i]? = some x) (hct : cntOf b.cps nm x.image = ct) :
    Calls Try.prog 79 #[.agg #[.int .i64 b.now, .slice A1 b.svcs.length c1, .slice A2 b.cps.length c2, .slice A3 n3 c3], .string nm] w fun e w' => e = .returned (.agg #[.int .i64 ct.live, .int .i64 ct.serving, .int .i64 ct.old, .int .i64 ct.failed, .int .i64 ct.ending]) ∧ Grow w w' := by
  subst hct; exact l2Count_some b nm w h1 hl1 h hl hq hx
set_option maxRecDepth 100000 in
set_option maxHeartbeats 2000000 in
theorem l3MayEnd_c (b : Book) {A1 A2 A3 : Option Addr} {n3 c1 c2 c3 : Nat} (nm : ByteArray) (n : Int) (w : World) (hf : Fit b) (h1 : Rows 13 svcC w A1 b.svcs) (h2 : Rows 7 cpyC w A2 b.cps) :
    Calls Try.prog 81 #[.agg #[.int .i64 b.now, .slice A1 b.svcs.length c1, .slice A2 b.cps.length c2, .slice A3 n3 c3], .string nm, .int .i64 n] w fun e w' => e = .returned (.bool (mayEndV b nm n)) ∧ Grow w w' := by
  have R1 := Lib.hid (fun (w' : World) (hg : Grow w w') => h1.below hg)
  have R2 := Lib.hid (fun (w' : World) (hg : Grow w w') => h2.below hg)
  have l1 : b.svcs.length ≤ 2000000 := by have := hf.l1; omega
  have l2 : b.cps.length ≤ 2000000 := by have := hf.l2; omega
  clear h1 h2
  rcases hq : cpyAt b.cps nm n with _ | k
  · have HR := Lib.hid (show mayEndV b nm n = false by simp [mayEndV, cpyGet, hq])
    have Hr := Lib.hid (show idxI (cpyAt b.cps nm n) = -1 by rw [hq]; rfl)
    clear hq hf
    go_enter Try.func81, Try.ntmps81
    go_wp2_with (go_at_call 129; refine (l1Copy_r b nm n _ (-1) (R2.out _ (by (repeat (first | with_reducible exact Grow.refl _ | with_reducible assumption | with_reducible refine Grow.drew ?_ | with_reducible refine Grow.alloc ?_ _ | (with_reducible refine Grow.set ?_ ?_ _; rotate_left; (first | (dsimp only; omega) | (simp <;> omega))))))) l2 Hr.out).mono ?_; rintro e w1 ⟨rfl, hg1⟩)
    go_ret
    exact ⟨ret_bool HR.out.symm, Grow.trans (by (repeat (first | with_reducible exact Grow.refl _ | with_reducible assumption | with_reducible refine Grow.drew ?_ | with_reducible refine Grow.alloc ?_ _ | (with_reducible refine Grow.set ?_ ?_ _; rotate_left; (first | (dsimp only; omega) | (simp <;> omega)))))) hg1⟩
  · obtain ⟨c, hc, hcn, -⟩ := cpyAt_some hq
    obtain ⟨i, s, hi, hs, hsn, hnum⟩ := svc_there hf hq
    have HR := Lib.hid (show mayEndV b nm n = gate b.cps s c by simp [mayEndV, cpyGet, svcGet, hq, hc, hi, hs])
    have Hr := Lib.hid (show idxI (cpyAt b.cps nm n) = k by rw [hq]; rfl)
    have Hi := Lib.hid (show idxI (svcAt b.svcs nm) = i by rw [hi]; rfl)
    have HN := Lib.hid (show cntOf b.cps nm s.image = cntOf b.cps s.name s.image from cntOf_name (eqN_iff.1 hsn))
    have kl : k < b.cps.length := (List.getElem?_eq_some_iff.1 hc).1
    have il : i < b.svcs.length := (List.getElem?_eq_some_iff.1 hs).1
    have k0 : (0 : Int) ≤ (k : Int) := Int.natCast_nonneg _
    have k1 : (k : Int) < (b.cps.length : Int) := by omega
    have i0 : (0 : Int) ≤ (i : Int) := Int.natCast_nonneg _
    have i1 : (i : Int) < (b.svcs.length : Int) := by omega
    have HC := Lib.hid hc
    have HS := Lib.hid hs
    have HI := Lib.hid hi
    clear hq hf hc hs hi hsn hcn
    rcases he : c.ending
    · go_enter Try.func81, Try.ntmps81
      go_wp2_with fail
      refine (l1Copy_r b nm n _ k (R2.out _ (by (repeat (first | with_reducible exact Grow.refl _ | with_reducible assumption | with_reducible refine Grow.drew ?_ | with_reducible refine Grow.alloc ?_ _ | (with_reducible refine Grow.set ?_ ?_ _; rotate_left; (first | (dsimp only; omega) | (simp <;> omega))))))) l2 Hr.out).mono ?_
      rintro e w1 ⟨rfl, hg1⟩
      have a1 := blk_grow (heap_alloc_new w _) hg1
      have G1 := Lib.hid (Grow.trans (show Grow w _ by (repeat (first | with_reducible exact Grow.refl _ | with_reducible assumption | with_reducible refine Grow.drew ?_ | with_reducible refine Grow.alloc ?_ _ | (with_reducible refine Grow.set ?_ ?_ _; rotate_left; (first | (dsimp only; omega) | (simp <;> omega)))))) hg1)
      have X1 := Lib.hid a1
      obtain ⟨bb, o, rfl, hbb, -, -, -, -, f4, f5, -⟩ := cpy_at (R2.out _ G1.out) HC.out
      obtain ⟨x0, x1, x2, x3⟩ := box4 a1
      obtain ⟨bs, os, rfl, hbs, -⟩ := svc_at (R1.out _ G1.out) HS.out
      have wz := blk_lt a1
      clear hg1 a1
      go_upto_region 4 with fail
      clear x0 x1 x2 x3 f4 f5
      have SS := Lib.hid (fun (w' : World) (hg : Grow w1 w') => (⟨hg, box4 (blk_grow X1.out hg), svc_cells (R1.out _ (G1.out.trans hg)) HS.out⟩ : Hid (Grow w1 w') ∧ _ ∧ _))
      go_cut [8] (fun s8 wx => ∃ g : Nat, s8 = .pointer (some ⟨g, 0, none⟩) ∧ Hid (Grow w1 wx) ∧ Hid (wx.heap[g]? = some (.cells (svcC s).toArray 83 (0, 0))))
      case first =>
        go_region_held3 (fun w' => Hid (Grow w1 w') ∧ (w'.cell? ⟨w.heap.size, 0, none⟩ = some (.int .i64 b.now) ∧ w'.cell? ⟨w.heap.size, 1, none⟩ = some (.slice (some ⟨bs, os, none⟩) b.svcs.length c1) ∧ w'.cell? ⟨w.heap.size, 2, none⟩ = some (.slice (some ⟨bb, o, none⟩) b.cps.length c2) ∧ w'.cell? ⟨w.heap.size, 3, none⟩ = some (.slice A3 n3 c3)) ∧
            w'.cell? ⟨bs, os + i * 13, none⟩ = some (.string s.name) ∧ w'.cell? ⟨bs, os + i * 13 + 1, none⟩ = some (.int .i64 s.version) ∧ w'.cell? ⟨bs, os + i * 13 + 2, none⟩ = some (.bool s.gone) ∧
            w'.cell? ⟨bs, os + i * 13 + 3, none⟩ = some (.int .i64 s.image) ∧ w'.cell? ⟨bs, os + i * 13 + 4, none⟩ = some (.int .i64 s.want) ∧ w'.cell? ⟨bs, os + i * 13 + 5, none⟩ = some (.int .i64 s.down) ∧ w'.cell? ⟨bs, os + i * 13 + 6, none⟩ = some (.int .i64 s.over) ∧
            w'.cell? ⟨bs, os + i * 13 + 7, none⟩ = some (.int .i64 s.next) ∧ w'.cell? ⟨bs, os + i * 13 + 8, none⟩ = some (.int .i64 s.per) ∧ w'.cell? ⟨bs, os + i * 13 + 9, none⟩ = some (.int .i64 s.least) ∧ w'.cell? ⟨bs, os + i * 13 + 10, none⟩ = some (.int .i64 s.most) ∧
            w'.cell? ⟨bs, os + i * 13 + 11, none⟩ = some (.int .i64 s.load) ∧ w'.cell? ⟨bs, os + i * 13 + 12, none⟩ = some (.int .i64 s.cool))
          ((refine SS.out _ ?_; (repeat (first | with_reducible exact Grow.refl _ | with_reducible assumption | with_reducible refine Grow.drew ?_ | with_reducible refine Grow.alloc ?_ _ | (with_reducible refine Grow.set ?_ ?_ _; rotate_left; (first | (dsimp only; omega) | (simp <;> omega))) | refine Grow.trans ?_ hg2))))
          (first | (go_at_call 121; refine (l1Service_r b nm _ i (R1.out _ (G1.out.trans (by (repeat (first | with_reducible exact Grow.refl _ | with_reducible assumption | with_reducible refine Grow.drew ?_ | with_reducible refine Grow.alloc ?_ _ | (with_reducible refine Grow.set ?_ ?_ _; rotate_left; (first | (dsimp only; omega) | (simp <;> omega)))))))) l1 Hi.out).mono ?_; rintro e w2 ⟨rfl, hg2⟩; first | (have zb : w2.heap[w1.heap.size]? = _ := blk_grow (heap_alloc_new w1.drew (.cells #[.string ⟨#[]⟩, .int .i64 0, .bool false, .int .i64 0, .int .i64 0, .int .i64 0, .int .i64 0, .int .i64 0, .int .i64 0, .int .i64 0, .int .i64 0, .int .i64 0, .int .i64 0] 83 (0, 0))) hg2; have zc0 := cell_of_row w2 _ 0 _ _ _ zb; have zc1 := cell_of_row w2 _ 1 _ _ _ zb; have zc2 := cell_of_row w2 _ 2 _ _ _ zb; have zc3 := cell_of_row w2 _ 3 _ _ _ zb; have zc4 := cell_of_row w2 _ 4 _ _ _ zb; have zc5 := cell_of_row w2 _ 5 _ _ _ zb; have zc6 := cell_of_row w2 _ 6 _ _ _ zb; have zc7 := cell_of_row w2 _ 7 _ _ _ zb; have zc8 := cell_of_row w2 _ 8 _ _ _ zb; have zc9 := cell_of_row w2 _ 9 _ _ _ zb; have zc10 := cell_of_row w2 _ 10 _ _ _ zb; have zc11 := cell_of_row w2 _ 11 _ _ _ zb; have zc12 := cell_of_row w2 _ 12 _ _ _ zb; have zf0 := frozen_of_row w2 _ 0 _ _ zb; have zf1 := frozen_of_row w2 _ 1 _ _ zb; have zf2 := frozen_of_row w2 _ 2 _ _ zb; have zf3 := frozen_of_row w2 _ 3 _ _ zb; have zf4 := frozen_of_row w2 _ 4 _ _ zb; have zf5 := frozen_of_row w2 _ 5 _ _ zb; have zf6 := frozen_of_row w2 _ 6 _ _ zb; have zf7 := frozen_of_row w2 _ 7 _ _ zb; have zf8 := frozen_of_row w2 _ 8 _ _ zb; have zf9 := frozen_of_row w2 _ 9 _ _ zb; have zf10 := frozen_of_row w2 _ 10 _ _ zb; have zf11 := frozen_of_row w2 _ 11 _ _ zb; have zf12 := frozen_of_row w2 _ 12 _ _ zb) | skip))
        · go_wp2_with fail
          go_meet
          refine ⟨_, rfl, ?_, ?_⟩
          · unfold Hid
            (repeat (first | with_reducible exact Grow.refl _ | with_reducible assumption | with_reducible refine Grow.drew ?_ | with_reducible refine Grow.alloc ?_ _ | (with_reducible refine Grow.set ?_ ?_ _; rotate_left; (first | (dsimp only; omega) | (simp <;> omega))) | refine Grow.trans ?_ hg2))
          · exact heap_alloc_new _ _
        · go_wp2_with fail
          go_meet
          refine ⟨_, rfl, ?_, ?_⟩
          · unfold Hid
            (repeat (first | with_reducible exact Grow.refl _ | with_reducible assumption | with_reducible refine Grow.drew ?_ | with_reducible refine Grow.alloc ?_ _ | (with_reducible refine Grow.set ?_ ?_ _; rotate_left; (first | (dsimp only; omega) | (simp <;> omega))) | refine Grow.trans ?_ hg2))
          · exact blk_row (M := [_, _, _, _, _, _, _, _, _, _, _, _, _]) (svcC s) zb rfl
      case rest =>
        obtain ⟨g, rfl, hg, hb⟩ := hcut
        obtain ⟨x0, x1, x2, x3⟩ := box4 (blk_grow X1.out hg.out)
        have G2 := Lib.hid (G1.out.trans hg.out)
        obtain ⟨-, -, -, -, f4, f5, -⟩ := cpy_cells (R2.out _ G2.out) HC.out
        obtain ⟨-, -, q2, -⟩ := svc_blk hb.out
        have Hb := Lib.hid hb.out
        have X2 := Lib.hid (blk_grow X1.out hg.out)
        have glt := blk_lt hb.out
        have wlt := blk_lt X2.out
        rcases h3 : decide (c.state = 3)
        · have d3 : (c.state != 3) = true := by simpa using h3
          have HF := Lib.hid (HR.out.trans (show _ = true by simp [gate, he, h3]))
          go_wp2
          go_ret
          exact ⟨ret_bool HF.out.symm, G2.out⟩
        · have d3 : (c.state != 3) = false := by simpa using h3
          rcases h4 : s.gone
          · have HF := Lib.hid (HR.out.trans (show _ = decide (s.want - s.down ≤ (cntOf b.cps s.name s.image).serving - 1) by simp [gate, he, h3, h4]))
            obtain ⟨ct, hct⟩ : ∃ ct, cntOf b.cps nm s.image = ct := ⟨_, rfl⟩
            have cb := cntOf_bd nm s.image l2
            rw [hct] at cb
            unfold SvcNum at hnum
            have u1 : IntKind.i64.wrap (ct.serving - 1) = ct.serving - 1 := IntWalk.i64_in _ (by omega)
            have u2 : IntKind.i64.wrap (s.want - s.down) = s.want - s.down := IntWalk.i64_in _ (by omega)
            have HCT := Lib.hid hct
            clear cb hct x0 x1 f5
            go_wp2
            clear q2 x2 x3 f4
            have x0 := blk_p X2.out 0
            have x1 := blk_p X2.out 1
            have x2 := blk_p X2.out 2
            have x3 := blk_p X2.out 3
            have q4 := fun y => (svc_blk (blk_grow Hb.out (Grow.wplus wc y))).2.2.2.2.1
            have q5 := fun y => (svc_blk (blk_grow Hb.out (Grow.wplus wc y))).2.2.2.2.2.1
            have kf := fun w' => run_cnt1 (.int .i64 ct.live) (.int .i64 ct.serving) (.int .i64 ct.old) (.int .i64 ct.failed) (.int .i64 ct.ending) w'
            refine at_plus ?_
            refine region_quiet ⟨_, rfl⟩ (by kernel_rfl) (by kernel_rfl) ?_
            repeat (first | go_big_quiet_step ((go_at_call 79; exact quiet_grow (l2Count_v b nm _ ct (R1.out _ (G2.out.trans (Grow.wplus _ _))) l1 (R2.out _ (G2.out.trans (Grow.wplus _ _))) l2 HI.out HS.out HCT.out)))  | quiet_step (fail))
            refine wpQuiet_nil ?_
            rintro w2 ⟨y, rfl⟩
            go_wp2
            go_ret
            exact ⟨ret_bool (by rw [HF.out, ← HN.out, HCT.out]), G2.out.trans (Grow.wplus _ _)⟩
          · have HF := Lib.hid (HR.out.trans (show _ = true by simp [gate, he, h3, h4]))
            go_wp2
            go_ret
            exact ⟨ret_bool HF.out.symm, G2.out⟩
    · have HG := Lib.hid (HR.out.trans (show _ = false by simp [gate, he]))
      go_enter Try.func81, Try.ntmps81
      go_wp2_with fail
      refine (l1Copy_r b nm n _ k (R2.out _ (by (repeat (first | with_reducible exact Grow.refl _ | with_reducible assumption | with_reducible refine Grow.drew ?_ | with_reducible refine Grow.alloc ?_ _ | (with_reducible refine Grow.set ?_ ?_ _; rotate_left; (first | (dsimp only; omega) | (simp <;> omega))))))) l2 Hr.out).mono ?_
      rintro e w1 ⟨rfl, hg1⟩
      have a1 := blk_grow (heap_alloc_new w _) hg1
      have G1 := Lib.hid (Grow.trans (show Grow w _ by (repeat (first | with_reducible exact Grow.refl _ | with_reducible assumption | with_reducible refine Grow.drew ?_ | with_reducible refine Grow.alloc ?_ _ | (with_reducible refine Grow.set ?_ ?_ _; rotate_left; (first | (dsimp only; omega) | (simp <;> omega)))))) hg1)
      obtain ⟨bb, o, rfl, hbb, -, -, -, -, f4, f5, -⟩ := cpy_at (R2.out _ G1.out) HC.out
      obtain ⟨x0, x1, x2, x3⟩ := box4 a1
      clear hg1 a1
      go_wp2
      go_ret
      exact ⟨ret_bool HG.out.symm, G1.out⟩
end Go.Proofs.Ytnmknkdbeccmhaa
namespace Go.Proofs.Ytnmknkdbeccmhaa
open Go.RowKit
set_option linter.unusedSimpArgs false
set_option linter.unusedVariables false

theorem pastOk_no {now : Int} {q : Option Book} {x : Book} {xs : List Book} (h : valid x = false) : pastOk now q (x :: xs) = false := by cases q <;> simp [pastOk, h]
theorem heap_eq' {W w : World} (h : Hid (W = w)) {g : Nat} {o : Obj} (hb : w.heap[g]? = some o) : W.heap[g]? = some o := by rw [h.out]; exact hb
theorem grow_eq' {V W w : World} (h : Hid (W = w)) (hb : Grow V w) : Grow V W := by rw [h.out]; exact hb
theorem cell_p' {w : World} {g i : Nat} {u : Value} (h : w.cell? ⟨g, i, none⟩ = some u) (y : Ext) : (wplus w y).cell? ⟨g, i, none⟩ = some u := ((Grow.wplus w y).cell (World.block_lt_of_cell? w _ h)).trans h
theorem lt_of_le_b {a b : Int} {c : Bool} (h : decide (a ≤ b) = c) : decide (b < a) = !c := by cases c <;> simp at h ⊢ <;> omega
theorem rename' {P : Program} {c : Code} {Q : Exit → Act → World → Prop} {a : Act} {w : World} (h : ∀ W : World, Hid (W = w) → Code.wp P c Q a W) : Code.wp P c Q a w := h w rfl
theorem box5 {w : World} {g : Nat} {u0 u1 u2 u3 u4 : Value} {T : TypeId} {fr : Nat × Nat} (h : w.heap[g]? = some (.cells #[u0, u1, u2, u3, u4] T fr)) :
    w.cell? ⟨g, 0, none⟩ = some u0 ∧ w.cell? ⟨g, 1, none⟩ = some u1 ∧ w.cell? ⟨g, 2, none⟩ = some u2 ∧ w.cell? ⟨g, 3, none⟩ = some u3 ∧ w.cell? ⟨g, 4, none⟩ = some u4 :=
  ⟨cell_of_row w g 0 _ _ _ h, cell_of_row w g 1 _ _ _ h, cell_of_row w g 2 _ _ _ h, cell_of_row w g 3 _ _ _ h, cell_of_row w g 4 _ _ _ h⟩
set_option maxRecDepth 100000 in
set_option maxHeartbeats 4000000 in
theorem specWorldOk_c (v : Wld) {AP A1 A2 A3 : Option Addr} {cP c1 c2 c3 : Nat} (w : World) (hp : BooksAt w AP v.past) (h1 : Rows 13 svcC w A1 v.book.svcs) (h2 : Rows 7 cpyC w A2 v.book.cps) (h3 : Rows 2 brtC w A3 v.book.brs)
    (lp : v.past.length ≤ 2000000) (sp : ∀ x ∈ v.past, Sized x) (sb : Sized v.book) :
    Calls Try.prog 21 #[.agg #[.slice AP v.past.length cP, .int .i64 v.book.now, .slice A1 v.book.svcs.length c1, .slice A2 v.book.cps.length c2, .slice A3 v.book.brs.length c3]] w fun e w' => e = .returned (.bool (worldOk v)) ∧ Grow w w' := by
  have RP := Lib.hid (fun (w' : World) (hg : Grow w w') => hp.below hg)
  have R1 := Lib.hid (fun (w' : World) (hg : Grow w w') => h1.below hg)
  have R2 := Lib.hid (fun (w' : World) (hg : Grow w w') => h2.below hg)
  have R3 := Lib.hid (fun (w' : World) (hg : Grow w w') => h3.below hg)
  have SP := Lib.hid sp
  obtain ⟨l1, l2, l3⟩ := sb
  clear hp h1 h2 h3 sp
  go_enter Try.func21, Try.ntmps21
  go_wp2_with fail
  refine (specValid_c v.book _ (R1.out _ (by (repeat (first | with_reducible exact Grow.refl _ | with_reducible assumption | with_reducible refine Grow.drew ?_ | with_reducible refine Grow.alloc ?_ _ | (with_reducible refine Grow.set ?_ ?_ _; rotate_left; (first | (dsimp only; omega) | (simp <;> omega))))))) (R2.out _ (by (repeat (first | with_reducible exact Grow.refl _ | with_reducible assumption | with_reducible refine Grow.drew ?_ | with_reducible refine Grow.alloc ?_ _ | (with_reducible refine Grow.set ?_ ?_ _; rotate_left; (first | (dsimp only; omega) | (simp <;> omega))))))) (R3.out _ (by (repeat (first | with_reducible exact Grow.refl _ | with_reducible assumption | with_reducible refine Grow.drew ?_ | with_reducible refine Grow.alloc ?_ _ | (with_reducible refine Grow.set ?_ ?_ _; rotate_left; (first | (dsimp only; omega) | (simp <;> omega))))))) l1 l2 l3).mono ?_
  rintro e w1 ⟨rfl, hg1⟩
  have G1 := Lib.hid (Grow.trans (show Grow w _ by (repeat (first | with_reducible exact Grow.refl _ | with_reducible assumption | with_reducible refine Grow.drew ?_ | with_reducible refine Grow.alloc ?_ _ | (with_reducible refine Grow.set ?_ ?_ _; rotate_left; (first | (dsimp only; omega) | (simp <;> omega)))))) hg1)
  have X1 := Lib.hid (blk_grow (heap_alloc_new w _) hg1)
  obtain ⟨x0, x1, x2, x3, x4⟩ := box5 X1.out
  clear hg1
  rcases hv : valid v.book
  · have HF := Lib.hid (show worldOk v = false by simp [worldOk, hv])
    go_wp2
    go_ret
    exact ⟨ret_bool HF.out.symm, G1.out⟩
  · by_cases h8 : v.past.length ≤ 8
    · have HF := Lib.hid (show worldOk v = pastOk v.book.now none v.past by simp [worldOk, hv, h8])
      go_wp2_with fail
      refine rebase ?_
      intro W hW
      have GW := Lib.hid (show Grow w W from grow_eq' hW G1.out)
      have XW := Lib.hid (heap_eq' hW X1.out)
      clear hW x0 x1 x2 x3 x4
      have x0 := blk_p XW.out 0
      have x1 := blk_p XW.out 1
      have x2 := blk_p XW.out 2
      have x3 := blk_p XW.out 3
      have x4 := blk_p XW.out 4
      go_loopw [3] (fun i wr => ∃ (k : Nat) (y : Ext), k ≤ v.past.length ∧ i = .int .i64 k ∧ wr = wplus W y ∧ Hid (pastOk v.book.now none v.past = pastOk v.book.now (prev v.past k) (v.past.drop k))) (fun i _ => v.past.length - (intOf i).toNat)
      case atStart => exact ⟨0, _, Nat.zero_le _, rfl, rfl, rfl⟩
      case round =>
        obtain ⟨k, y, hk, rfl, rfl, hi⟩ := hrel
        by_cases hlt : k < v.past.length
        · obtain ⟨x, hx⟩ := ex_at hlt
          obtain ⟨bl, o, rfl, hbl, B1, d1, B2, d2, B3, d3, f0, f1, f2, f3, r1, r2, r3⟩ := (RP.out _ GW.out).at_ hx
          obtain ⟨s1, s2, s3⟩ := SP.out x (List.mem_of_getElem? hx)
          have HR1 := Lib.hid r1
          have HR2 := Lib.hid r2
          have HR3 := Lib.hid r3
          replace f0 := cell_p' f0
          replace f1 := cell_p' f1
          replace f2 := cell_p' f2
          replace f3 := cell_p' f3
          have hd := Lib.hid (drop_at hx)
          have HX := Lib.hid hx
          clear r1 r2 r3 hx
          have t2 : (0 : Int) ≤ (k : Int) := Int.natCast_nonneg _
          have t3 : (k : Int) < (v.past.length : Int) := by omega
          by_cases h0 : k = 0
          · have t4 : decide (0 < k) = false := decide_eq_false (by omega)
            have HP := Lib.hid (show prev v.past k = none by rw [h0]; rfl)
            clear h0
            rcases chain2 (valid x) (decide (x.now ≤ v.book.now)) with k1 | ⟨k1, k2⟩ | ⟨k1, k2⟩
            all_goals
              try have k3 := lt_of_le_b k2
              try simp only [Bool.not_false, Bool.not_true] at k3
              go_wp2
              refine region_quiet ⟨_, rfl⟩ (by kernel_rfl) (by kernel_rfl) ?_
              repeat (go_big_quiet_step ((go_at_call 16; exact quiet_grow (specValid_c x _ (HR1.out.plus _) (HR2.out.plus _) (HR3.out.plus _) s1 s2 s3))))
              refine wpQuiet_nil ?_
              rintro w2 ⟨y2, rfl⟩
              go_wp2
              first
                | (go_ret; exact ⟨ret_bool (by rw [HF.out, hi.out, hd.out, HP.out]; go_light; simp [pastOk, *]), GW.out.trans (Grow.wplus _ _)⟩)
                | (go_roundw
                   case rel => exact ⟨k + 1, _, by omega, by go_num, rfl, by unfold Hid; rw [hi.out, hd.out, HP.out, show prev v.past (k + 1) = some x from HX.out]; go_light; simp [pastOk, *]⟩
                   case measure => simp [intOf]; omega)
          · obtain ⟨q, hq⟩ : ∃ q, v.past[k - 1]? = some q := ex_at (by omega)
            have t4 : decide (0 < k) = true := decide_eq_true (by omega)
            have t5 : IntKind.i64.wrap ((k : Int) - 1) = (k : Int) - 1 := IntWalk.i64_in _ (by omega)
            have t6 : (0 : Int) ≤ (k : Int) - 1 := by omega
            have t7 : (k : Int) - 1 < (v.past.length : Int) := by omega
            have t8 : ((k : Int) - 1).toNat = k - 1 := by omega
            have HP := Lib.hid (show prev v.past k = some q by cases k with | zero => exact absurd rfl h0 | succ j => exact hq)
            obtain ⟨bb', o', he, -, D1, e1, D2, e2, D3, e3, g0, -⟩ := (RP.out _ GW.out).at_ hq
            simp only [Option.some.injEq, Addr.mk.injEq] at he
            obtain ⟨rfl, rfl, -⟩ := he
            replace g0 := cell_p' g0
            clear h0 hq
            rcases chain3 (valid x) (decide (x.now ≤ v.book.now)) (decide (q.now ≤ x.now)) with k1 | ⟨k1, k2⟩ | ⟨k1, k2, k3⟩ | ⟨k1, k2, k3⟩
            all_goals
              try have k4 := lt_of_le_b k2
              try simp only [Bool.not_false, Bool.not_true] at k4
              try have k5 := lt_of_le_b k3
              try simp only [Bool.not_false, Bool.not_true] at k5
              go_wp2
              refine region_quiet ⟨_, rfl⟩ (by kernel_rfl) (by kernel_rfl) ?_
              repeat (go_big_quiet_step ((go_at_call 16; exact quiet_grow (specValid_c x _ (HR1.out.plus _) (HR2.out.plus _) (HR3.out.plus _) s1 s2 s3))))
              refine wpQuiet_nil ?_
              rintro w2 ⟨y2, rfl⟩
              go_wp2
              first
                | (go_ret; exact ⟨ret_bool (by rw [HF.out, hi.out, hd.out, HP.out]; go_light; simp [pastOk, *]), GW.out.trans (Grow.wplus _ _)⟩)
                | (go_roundw
                   case rel => exact ⟨k + 1, _, by omega, by go_num, rfl, by unfold Hid; rw [hi.out, hd.out, HP.out, show prev v.past (k + 1) = some x from HX.out]; go_light; simp [pastOk, *]⟩
                   case measure => simp [intOf]; omega)
        · obtain rfl : k = v.past.length := by omega
          have HE := Lib.hid (show pastOk v.book.now none v.past = true by rw [hi.out, List.drop_length]; cases v.past.length <;> rfl)
          go_wp2
          go_ret
          exact ⟨ret_bool (by rw [HF.out, HE.out]), GW.out.trans (Grow.wplus _ _)⟩
    · have HF := Lib.hid (show worldOk v = false by simp [worldOk, hv, h8])
      have h9 : (8 : Int) < (v.past.length : Int) := by omega
      go_wp2
      go_ret
      exact ⟨ret_bool HF.out.symm, G1.out⟩
set_option maxRecDepth 100000 in
set_option maxHeartbeats 4000000 in
theorem implWorldOk_c (v : Wld) {AP A1 A2 A3 : Option Addr} {cP c1 c2 c3 : Nat} (w : World) (hp : BooksAt w AP v.past) (h1 : Rows 13 svcC w A1 v.book.svcs) (h2 : Rows 7 cpyC w A2 v.book.cps) (h3 : Rows 2 brtC w A3 v.book.brs)
    (lp : v.past.length ≤ 2000000) (sp : ∀ x ∈ v.past, Sized x) (sb : Sized v.book) :
    Calls Try.prog 23 #[.agg #[.slice AP v.past.length cP, .int .i64 v.book.now, .slice A1 v.book.svcs.length c1, .slice A2 v.book.cps.length c2, .slice A3 v.book.brs.length c3]] w fun e w' => e = .returned (.bool (worldOk v)) ∧ Grow w w' := by
  have RP := Lib.hid (fun (w' : World) (hg : Grow w w') => hp.below hg)
  have R1 := Lib.hid (fun (w' : World) (hg : Grow w w') => h1.below hg)
  have R2 := Lib.hid (fun (w' : World) (hg : Grow w w') => h2.below hg)
  have R3 := Lib.hid (fun (w' : World) (hg : Grow w w') => h3.below hg)
  have SP := Lib.hid sp
  obtain ⟨l1, l2, l3⟩ := sb
  clear hp h1 h2 h3 sp
  go_enter Try.func23, Try.ntmps23
  go_wp2_with fail
  refine (implValid_c v.book _ (R1.out _ (by (repeat (first | with_reducible exact Grow.refl _ | with_reducible assumption | with_reducible refine Grow.drew ?_ | with_reducible refine Grow.alloc ?_ _ | (with_reducible refine Grow.set ?_ ?_ _; rotate_left; (first | (dsimp only; omega) | (simp <;> omega))))))) (R2.out _ (by (repeat (first | with_reducible exact Grow.refl _ | with_reducible assumption | with_reducible refine Grow.drew ?_ | with_reducible refine Grow.alloc ?_ _ | (with_reducible refine Grow.set ?_ ?_ _; rotate_left; (first | (dsimp only; omega) | (simp <;> omega))))))) (R3.out _ (by (repeat (first | with_reducible exact Grow.refl _ | with_reducible assumption | with_reducible refine Grow.drew ?_ | with_reducible refine Grow.alloc ?_ _ | (with_reducible refine Grow.set ?_ ?_ _; rotate_left; (first | (dsimp only; omega) | (simp <;> omega))))))) l1 l2 l3).mono ?_
  rintro e w1 ⟨rfl, hg1⟩
  have G1 := Lib.hid (Grow.trans (show Grow w _ by (repeat (first | with_reducible exact Grow.refl _ | with_reducible assumption | with_reducible refine Grow.drew ?_ | with_reducible refine Grow.alloc ?_ _ | (with_reducible refine Grow.set ?_ ?_ _; rotate_left; (first | (dsimp only; omega) | (simp <;> omega)))))) hg1)
  have X1 := Lib.hid (blk_grow (heap_alloc_new w _) hg1)
  obtain ⟨x0, x1, x2, x3, x4⟩ := box5 X1.out
  clear hg1
  rcases hv : valid v.book
  · have HF := Lib.hid (show worldOk v = false by simp [worldOk, hv])
    go_wp2
    go_ret
    exact ⟨ret_bool HF.out.symm, G1.out⟩
  · by_cases h8 : v.past.length ≤ 8
    · have HF := Lib.hid (show worldOk v = pastOk v.book.now none v.past by simp [worldOk, hv, h8])
      go_wp2_with fail
      refine rebase ?_
      intro W hW
      have GW := Lib.hid (show Grow w W from grow_eq' hW G1.out)
      have XW := Lib.hid (heap_eq' hW X1.out)
      clear hW x0 x1 x2 x3 x4
      have x0 := blk_p XW.out 0
      have x1 := blk_p XW.out 1
      have x2 := blk_p XW.out 2
      have x3 := blk_p XW.out 3
      have x4 := blk_p XW.out 4
      go_loopw [18] (fun i wr => ∃ (k : Nat), k ≤ v.past.length ∧ i = .int .i64 k ∧ Hid (Grow W wr) ∧ Hid (pastOk v.book.now none v.past = pastOk v.book.now (prev v.past k) (v.past.drop k))) (fun i _ => v.past.length - (intOf i).toNat)
      case atStart => exact ⟨0, Nat.zero_le _, rfl, Grow.wplus _ _, rfl⟩
      case round =>
        obtain ⟨k, hk, rfl, hgr, hi⟩ := hrel
        have GR := Lib.hid (GW.out.trans hgr.out)
        by_cases hlt : k < v.past.length
        · obtain ⟨x, hx⟩ := ex_at hlt
          obtain ⟨bl, o, rfl, hbl, B1, d1, B2, d2, B3, d3, f0, f1, f2, f3, r1, r2, r3⟩ := (RP.out _ GR.out).at_ hx
          obtain ⟨s1, s2, s3⟩ := SP.out x (List.mem_of_getElem? hx)
          have HR1 := Lib.hid r1
          have HR2 := Lib.hid r2
          have HR3 := Lib.hid r3
          have hd := Lib.hid (drop_at hx)
          have HX := Lib.hid hx
          clear r1 r2 r3 hx
          go_wp2_with fail
          refine rename' ?_
          intro W2 hW2
          have G2 := Lib.hid (grow_eq' hW2 ((Grow.refl wr).alloc _))
          have P2 := Lib.hid (heap_eq' hW2 (heap_alloc_new wr _))
          have X2 := Lib.hid (blk_grow XW.out (hgr.out.trans G2.out))
          clear hW2 f0 f1 f2 f3 x0 x1 x2 x3 x4
          have x0 := blk_p X2.out 0
          have x1 := blk_p X2.out 1
          have f0 := blk_p P2.out 0
          have f1 := blk_p P2.out 1
          have f2 := blk_p P2.out 2
          have f3 := blk_p P2.out 3
          refine at_plus ?_
          have t2 : (0 : Int) ≤ (k : Int) := Int.natCast_nonneg _
          have t3 : (k : Int) < (v.past.length : Int) := by omega
          by_cases h0 : k = 0
          · have t4 : decide (0 < k) = false := decide_eq_false (by omega)
            have HP := Lib.hid (show prev v.past k = none by rw [h0]; rfl)
            clear h0
            rcases chain2 (valid x) (decide (x.now ≤ v.book.now)) with k1 | ⟨k1, k2⟩ | ⟨k1, k2⟩
            all_goals
              try have k3 := lt_of_le_b k2
              try simp only [Bool.not_false, Bool.not_true] at k3
              refine region_quiet ⟨_, rfl⟩ (by kernel_rfl) (by kernel_rfl) ?_
              repeat (go_big_quiet_step ((go_at_call 18; exact quiet_grow (implValid_c x _ (HR1.out.below (G2.out.trans (Grow.wplus W2 _))) (HR2.out.below (G2.out.trans (Grow.wplus W2 _))) (HR3.out.below (G2.out.trans (Grow.wplus W2 _))) s1 s2 s3))))
              refine wpQuiet_nil ?_
              rintro w2 ⟨y2, rfl⟩
              go_wp2
              first
                | (go_ret; exact ⟨ret_bool (by rw [HF.out, hi.out, hd.out, HP.out]; go_light; simp [pastOk, *]), (GR.out.trans G2.out).trans (Grow.wplus _ _)⟩)
                | (go_roundw
                   case rel => exact ⟨k + 1, by omega, by go_num, (hgr.out.trans G2.out).trans (Grow.wplus _ _), by unfold Hid; rw [hi.out, hd.out, HP.out, show prev v.past (k + 1) = some x from HX.out]; go_light; simp [pastOk, *]⟩
                   case measure => simp [intOf]; omega)
          · obtain ⟨q, hq⟩ : ∃ q, v.past[k - 1]? = some q := ex_at (by omega)
            have t4 : decide (0 < k) = true := decide_eq_true (by omega)
            have t5 : IntKind.i64.wrap ((k : Int) - 1) = (k : Int) - 1 := IntWalk.i64_in _ (by omega)
            have t6 : (0 : Int) ≤ (k : Int) - 1 := by omega
            have t7 : (k : Int) - 1 < (v.past.length : Int) := by omega
            have t8 : ((k : Int) - 1).toNat = k - 1 := by omega
            have HP := Lib.hid (show prev v.past k = some q by cases k with | zero => exact absurd rfl h0 | succ j => exact hq)
            obtain ⟨bb', o', he, -, D1, e1, D2, e2, D3, e3, g0, -⟩ := (RP.out _ (GR.out.trans G2.out)).at_ hq
            simp only [Option.some.injEq, Addr.mk.injEq] at he
            obtain ⟨rfl, rfl, -⟩ := he
            replace g0 := cell_p' g0
            clear h0 hq
            rcases chain3 (valid x) (decide (x.now ≤ v.book.now)) (decide (q.now ≤ x.now)) with k1 | ⟨k1, k2⟩ | ⟨k1, k2, k3⟩ | ⟨k1, k2, k3⟩
            all_goals
              try have k4 := lt_of_le_b k2
              try simp only [Bool.not_false, Bool.not_true] at k4
              try have k5 := lt_of_le_b k3
              try simp only [Bool.not_false, Bool.not_true] at k5
              refine region_quiet ⟨_, rfl⟩ (by kernel_rfl) (by kernel_rfl) ?_
              repeat (go_big_quiet_step ((go_at_call 18; exact quiet_grow (implValid_c x _ (HR1.out.below (G2.out.trans (Grow.wplus W2 _))) (HR2.out.below (G2.out.trans (Grow.wplus W2 _))) (HR3.out.below (G2.out.trans (Grow.wplus W2 _))) s1 s2 s3))))
              refine wpQuiet_nil ?_
              rintro w2 ⟨y2, rfl⟩
              go_wp2
              first
                | (go_ret; exact ⟨ret_bool (by rw [HF.out, hi.out, hd.out, HP.out]; go_light; simp [pastOk, *]), (GR.out.trans G2.out).trans (Grow.wplus _ _)⟩)
                | (go_roundw
                   case rel => exact ⟨k + 1, by omega, by go_num, (hgr.out.trans G2.out).trans (Grow.wplus _ _), by unfold Hid; rw [hi.out, hd.out, HP.out, show prev v.past (k + 1) = some x from HX.out]; go_light; simp [pastOk, *]⟩
                   case measure => simp [intOf]; omega)
        · obtain rfl : k = v.past.length := by omega
          clear x0 x1 x2 x3 x4
          have HE := Lib.hid (show pastOk v.book.now none v.past = true by rw [hi.out, List.drop_length]; cases v.past.length <;> rfl)
          go_wp2
          go_ret
          exact ⟨ret_bool (by rw [HF.out, HE.out]), GR.out⟩
    · have HF := Lib.hid (show worldOk v = false by simp [worldOk, hv, h8])
      have h9 : (8 : Int) < (v.past.length : Int) := by omega
      go_wp2
      go_ret
      exact ⟨ret_bool HF.out.symm, G1.out⟩
end Go.Proofs.Ytnmknkdbeccmhaa
