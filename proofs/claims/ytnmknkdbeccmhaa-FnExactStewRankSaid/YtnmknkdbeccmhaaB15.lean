/- The walks of the program's gate, and of StewMayEnd on both sides. -/
import Derived.Test.YtnmknkdbeccmhaaB14
namespace Go.Proofs.Ytnmknkdbeccmhaa
open Go.RowKit
set_option linter.unusedSimpArgs false
set_option linter.unusedVariables false

theorem cell_p {w : World} {g i : Nat} {u : Value} (h : w.cell? ⟨g, i, none⟩ = some u) (y : Ext) : (wplus w y).cell? ⟨g, i, none⟩ = some u := ((Grow.wplus w y).cell (World.block_lt_of_cell? w _ h)).trans h
theorem count_v (b : Book) {g sb so : Nat} {A1 A2 A3 : Option Addr} {c1 c2 c3 : Nat} (nm : ByteArray) (im : Int) (w : World) (ct : Cnt) (hb : BookBlk w g b A1 A2 A3 c1 c2 c3) (h : Rows 7 cpyC w A2 b.cps) (hl : b.cps.length ≤ 2000000)
    (s0 : w.cell? ⟨sb, so, none⟩ = some (.string nm)) (s3 : w.cell? ⟨sb, so + 3, none⟩ = some (.int .i64 im)) (hct : cntOf b.cps nm im = ct) :
    Calls Try.prog 80 #[.pointer (some ⟨g, 0, none⟩), .pointer (some ⟨sb, so, none⟩)] w fun e w' => e = .returned (.agg #[.int .i64 ct.live, .int .i64 ct.serving, .int .i64 ct.old, .int .i64 ct.failed, .int .i64 ct.ending]) ∧ Grow w w' := by
  subst hct; exact count_c b nm im w hb h hl s0 s3
set_option maxRecDepth 100000 in
set_option maxHeartbeats 2000000 in
theorem mayEnd_c (b : Book) (s : Svc) (c : Cpy) {g bs os bc oc : Nat} {A1 A2 A3 : Option Addr} {c1 c2 c3 : Nat} (w : World) (hb : BookBlk w g b A1 A2 A3 c1 c2 c3) (h : Rows 7 cpyC w A2 b.cps) (hl : b.cps.length ≤ 2000000) (hn : SvcNum s 1000000)
    (s0 : w.cell? ⟨bs, os, none⟩ = some (.string s.name)) (s2 : w.cell? ⟨bs, os + 2, none⟩ = some (.bool s.gone)) (s3 : w.cell? ⟨bs, os + 3, none⟩ = some (.int .i64 s.image)) (s4 : w.cell? ⟨bs, os + 4, none⟩ = some (.int .i64 s.want)) (s5 : w.cell? ⟨bs, os + 5, none⟩ = some (.int .i64 s.down))
    (k4 : w.cell? ⟨bc, oc + 4, none⟩ = some (.int .i64 c.state)) (k5 : w.cell? ⟨bc, oc + 5, none⟩ = some (.bool c.ending)) :
    Calls Try.prog 83 #[.pointer (some ⟨g, 0, none⟩), .pointer (some ⟨bs, os, none⟩), .pointer (some ⟨bc, oc, none⟩)] w fun e w' => e = .returned (.bool (gate b.cps s c)) ∧ Grow w w' := by
  rcases he : c.ending
  · rw [he] at k5
    obtain ⟨ct, hct⟩ : ∃ ct, cntOf b.cps s.name s.image = ct := ⟨_, rfl⟩
    have cb := cntOf_bd s.name s.image hl
    rw [hct] at cb
    unfold SvcNum at hn
    have HH := Lib.hid h
    have HB := Lib.hid hb
    have HCT := Lib.hid hct
    have S0 := Lib.hid s0
    have S3 := Lib.hid s3
    have u1 : IntKind.i64.wrap (ct.serving - 1) = ct.serving - 1 := IntWalk.i64_in _ (by omega)
    have u2 : IntKind.i64.wrap (s.want - s.down) = s.want - s.down := IntWalk.i64_in _ (by omega)
    have p2 := cell_p s2
    have p4 := cell_p s4
    have p5 := cell_p s5
    have r4 := cell_p k4
    have kf := fun w' => run_cnt1 (.int .i64 ct.live) (.int .i64 ct.serving) (.int .i64 ct.old) (.int .i64 ct.failed) (.int .i64 ct.ending) w'
    clear h hb s0 s3 cb hct s2 s4 s5 k4
    rcases h3 : decide (c.state = 3)
    · have d3 : (c.state != 3) = true := by simpa using h3
      have HF := Lib.hid (show gate b.cps s c = true by simp [gate, he, h3])
      go_enter Try.func83, Try.ntmps83
      go_wp2
      refine at_plus ?_
      refine region_quiet ⟨_, rfl⟩ (by kernel_rfl) (by kernel_rfl) ?_
      repeat (first | go_big_quiet_step (fail) | quiet_step (fail))
      refine wpQuiet_nil ?_
      rintro w2 ⟨y, rfl⟩
      go_wp2
      go_ret
      exact ⟨ret_bool HF.out.symm, Grow.wplus _ _⟩
    · have d3 : (c.state != 3) = false := by simpa using h3
      rcases h4 : s.gone
      · rw [h4] at p2
        have HF := Lib.hid (show gate b.cps s c = decide (s.want - s.down ≤ ct.serving - 1) by rw [← HCT.out]; simp [gate, he, h3, h4])
        go_enter Try.func83, Try.ntmps83
        go_wp2
        refine at_plus ?_
        refine region_quiet ⟨_, rfl⟩ (by kernel_rfl) (by kernel_rfl) ?_
        repeat (first | go_big_quiet_step ((go_at_call 80; exact quiet_grow (count_v b s.name s.image _ ct (HB.out.grow (Grow.wplus _ _)) (HH.out.plus _) hl (cell_p S0.out _) (cell_p S3.out _) HCT.out))) | quiet_step (fail))
        refine wpQuiet_nil ?_
        rintro w2 ⟨y, rfl⟩
        go_wp2
        go_ret
        exact ⟨ret_bool HF.out.symm, Grow.wplus _ _⟩
      · rw [h4] at p2
        have HF := Lib.hid (show gate b.cps s c = true by simp [gate, he, h3, h4])
        go_enter Try.func83, Try.ntmps83
        go_wp2
        refine at_plus ?_
        refine region_quiet ⟨_, rfl⟩ (by kernel_rfl) (by kernel_rfl) ?_
        repeat (first | go_big_quiet_step (fail) | quiet_step (fail))
        refine wpQuiet_nil ?_
        rintro w2 ⟨y, rfl⟩
        go_wp2
        go_ret
        exact ⟨ret_bool HF.out.symm, Grow.wplus _ _⟩
  · rw [he] at k5
    have HF := Lib.hid (show gate b.cps s c = false by simp [gate, he])
    clear hb h s0 s2 s3 s4 s5 k4
    go_enter Try.func83, Try.ntmps83
    go_wp2
    go_ret
    exact ⟨ret_bool HF.out.symm, Grow.refl _⟩

set_option maxRecDepth 100000 in
set_option maxHeartbeats 2000000 in
theorem specMayEnd_c (b : Book) {A1 A2 A3 : Option Addr} {c1 c2 c3 : Nat} (nm : ByteArray) (n : Int) (w : World) (h1 : Rows 13 svcC w A1 b.svcs) (h2 : Rows 7 cpyC w A2 b.cps) (h3 : Rows 2 brtC w A3 b.brs)
    (l1 : b.svcs.length ≤ 2000000) (l2 : b.cps.length ≤ 2000000) (l3 : b.brs.length ≤ 2000000) :
    Calls Try.prog 28 #[.agg #[.int .i64 b.now, .slice A1 b.svcs.length c1, .slice A2 b.cps.length c2, .slice A3 b.brs.length c3], .string nm, .int .i64 n] w fun e w' => e = .returned (.bool (mayEndB b nm n)) ∧ Grow w w' := by
  have R1 := Lib.hid (fun (w' : World) (hg : Grow w w') => h1.below hg)
  have R2 := Lib.hid (fun (w' : World) (hg : Grow w w') => h2.below hg)
  have R3 := Lib.hid (fun (w' : World) (hg : Grow w w') => h3.below hg)
  clear h1 h2 h3
  go_enter Try.func28, Try.ntmps28
  go_wp2_with fail
  refine (specValid_c b _ (R1.out _ (by (repeat (first | with_reducible exact Grow.refl _ | with_reducible assumption | with_reducible refine Grow.drew ?_ | with_reducible refine Grow.alloc ?_ _ | (with_reducible refine Grow.set ?_ ?_ _; rotate_left; (first | (dsimp only; omega) | (simp <;> omega))))))) (R2.out _ (by (repeat (first | with_reducible exact Grow.refl _ | with_reducible assumption | with_reducible refine Grow.drew ?_ | with_reducible refine Grow.alloc ?_ _ | (with_reducible refine Grow.set ?_ ?_ _; rotate_left; (first | (dsimp only; omega) | (simp <;> omega))))))) (R3.out _ (by (repeat (first | with_reducible exact Grow.refl _ | with_reducible assumption | with_reducible refine Grow.drew ?_ | with_reducible refine Grow.alloc ?_ _ | (with_reducible refine Grow.set ?_ ?_ _; rotate_left; (first | (dsimp only; omega) | (simp <;> omega))))))) l1 l2 l3).mono ?_
  rintro e w1 ⟨rfl, hg1⟩
  have G1 := Lib.hid (Grow.trans (show Grow w _ by (repeat (first | with_reducible exact Grow.refl _ | with_reducible assumption | with_reducible refine Grow.drew ?_ | with_reducible refine Grow.alloc ?_ _ | (with_reducible refine Grow.set ?_ ?_ _; rotate_left; (first | (dsimp only; omega) | (simp <;> omega)))))) hg1)
  obtain ⟨x0, x1, x2, x3⟩ := box4 (blk_grow (heap_alloc_new w _) hg1)
  clear hg1
  rcases hv : valid b
  · have HF := Lib.hid (show mayEndB b nm n = false by simp [mayEndB, hv])
    go_wp2
    go_ret
    exact ⟨ret_bool HF.out.symm, G1.out⟩
  · have HF := Lib.hid (show mayEndB b nm n = mayEndV b nm n by simp [mayEndB, hv])
    have hf := Lib.hid (fit_of_valid hv)
    go_wp2_with fail
    refine (l3MayEnd_c b nm n _ hf.out (R1.out _ G1.out) (R2.out _ G1.out)).mono ?_
    rintro e w2 ⟨rfl, hg2⟩
    go_wp2
    go_ret
    exact ⟨ret_bool HF.out.symm, G1.out.trans hg2⟩
set_option maxRecDepth 100000 in
set_option maxHeartbeats 2000000 in
theorem implMayEnd_c (b : Book) {A1 A2 A3 : Option Addr} {c1 c2 c3 : Nat} (nm : ByteArray) (n : Int) (w : World) (h1 : Rows 13 svcC w A1 b.svcs) (h2 : Rows 7 cpyC w A2 b.cps) (h3 : Rows 2 brtC w A3 b.brs)
    (l1 : b.svcs.length ≤ 2000000) (l2 : b.cps.length ≤ 2000000) (l3 : b.brs.length ≤ 2000000) :
    Calls Try.prog 29 #[.agg #[.int .i64 b.now, .slice A1 b.svcs.length c1, .slice A2 b.cps.length c2, .slice A3 b.brs.length c3], .string nm, .int .i64 n] w fun e w' => e = .returned (.bool (mayEndB b nm n)) ∧ Grow w w' := by
  have R1 := Lib.hid (fun (w' : World) (hg : Grow w w') => h1.below hg)
  have R2 := Lib.hid (fun (w' : World) (hg : Grow w w') => h2.below hg)
  have R3 := Lib.hid (fun (w' : World) (hg : Grow w w') => h3.below hg)
  clear h1 h2 h3
  go_enter Try.func29, Try.ntmps29
  go_wp2_with fail
  refine (implValid_c b _ (R1.out _ (by (repeat (first | with_reducible exact Grow.refl _ | with_reducible assumption | with_reducible refine Grow.drew ?_ | with_reducible refine Grow.alloc ?_ _ | (with_reducible refine Grow.set ?_ ?_ _; rotate_left; (first | (dsimp only; omega) | (simp <;> omega))))))) (R2.out _ (by (repeat (first | with_reducible exact Grow.refl _ | with_reducible assumption | with_reducible refine Grow.drew ?_ | with_reducible refine Grow.alloc ?_ _ | (with_reducible refine Grow.set ?_ ?_ _; rotate_left; (first | (dsimp only; omega) | (simp <;> omega))))))) (R3.out _ (by (repeat (first | with_reducible exact Grow.refl _ | with_reducible assumption | with_reducible refine Grow.drew ?_ | with_reducible refine Grow.alloc ?_ _ | (with_reducible refine Grow.set ?_ ?_ _; rotate_left; (first | (dsimp only; omega) | (simp <;> omega))))))) l1 l2 l3).mono ?_
  rintro e w1 ⟨rfl, hg1⟩
  have G1 := Lib.hid (Grow.trans (show Grow w _ by (repeat (first | with_reducible exact Grow.refl _ | with_reducible assumption | with_reducible refine Grow.drew ?_ | with_reducible refine Grow.alloc ?_ _ | (with_reducible refine Grow.set ?_ ?_ _; rotate_left; (first | (dsimp only; omega) | (simp <;> omega)))))) hg1)
  have BB := Lib.hid (show BookBlk w1 w.heap.size b A1 A2 A3 c1 c2 c3 from blk_grow (heap_alloc_new w _) hg1)
  clear hg1
  rcases hv : valid b
  · have HF := Lib.hid (show mayEndB b nm n = false by simp [mayEndB, hv])
    go_wp2
    go_ret
    exact ⟨ret_bool HF.out.symm, G1.out⟩
  · have HF := Lib.hid (show mayEndB b nm n = mayEndV b nm n by simp [mayEndB, hv])
    have hf := Lib.hid (fit_of_valid hv)
    rcases hq : cpyAt b.cps nm n with _ | k
    · have HR := Lib.hid (HF.out.trans (show mayEndV b nm n = false by simp [mayEndV, cpyGet, hq]))
      have Hr := Lib.hid (show elemPtr 7 A2 (cpyAt b.cps nm n) = none by rw [hq]; rfl)
      clear hq
      go_wp2_with (go_at_call 82; refine (copy_r b nm n _ none BB.out (R2.out _ G1.out) l2 Hr.out).mono ?_; rintro e w2 ⟨rfl, rfl⟩)
      go_ret
      exact ⟨ret_bool HR.out.symm, G1.out⟩
    · obtain ⟨c, hc, hcn, -⟩ := cpyAt_some hq
      obtain ⟨i, s, hi, hs, hsn, hnum⟩ := svc_there hf.out hq
      have HR := Lib.hid (HF.out.trans (show mayEndV b nm n = gate b.cps s c by simp [mayEndV, cpyGet, svcGet, hq, hc, hi, hs]))
      obtain ⟨bb, o, rfl, hbb, -, -, -, -, f4, f5, -⟩ := cpy_at (R2.out _ G1.out) hc
      obtain ⟨bs, os, rfl, hbs, s0, -, s2, s3, s4, s5, -⟩ := svc_at (R1.out _ G1.out) hs
      have Hr := Lib.hid (show elemPtr 7 (some ⟨bb, o, none⟩) (cpyAt b.cps nm n) = some ⟨bb, o + k * 7, none⟩ by rw [hq]; rfl)
      have Hi := Lib.hid (show elemPtr 13 (some ⟨bs, os, none⟩) (svcAt b.svcs nm) = some ⟨bs, os + i * 13, none⟩ by rw [hi]; rfl)
      have HC := Lib.hid (mayEnd_c b s c w1 BB.out (R2.out _ G1.out) l2 hnum s0 s2 s3 s4 s5 f4 f5)
      clear hq hc hs hi hsn hcn s0 s2 s3 s4 s5 f4 f5
      go_wp2_with (first
        | (go_at_call 82; refine (copy_r b nm n _ _ BB.out (R2.out _ G1.out) l2 Hr.out).mono ?_; rintro e w2 ⟨rfl, rfl⟩)
        | (go_at_call 71; refine (service_r b nm _ _ BB.out (R1.out _ G1.out) l1 Hi.out).mono ?_; rintro e w2 ⟨rfl, rfl⟩)
        | (go_at_call 83; refine HC.out.mono ?_; rintro e w3 ⟨rfl, hg3⟩))
      go_ret
      exact ⟨ret_bool HR.out.symm, G1.out.trans hg3⟩
end Go.Proofs.Ytnmknkdbeccmhaa
