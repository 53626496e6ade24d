/- The walks of the laws' work on acts: the measure, the copy, the comparison, the marks. The walks of the laws' comparison and marks of acts. The walks of the laws' check that marks are still held, on rows and on a book. The walks of the test whether an act is formed: the reference's and the program's. Words for the walk of the reference's l4Apply. The walk of the reference's l4Apply, from region 32 on: what lies in memory. -/
import Derived.Test.YtnmknkdbeccmhaaAp1
import Derived.Test.YtnmknkdbeccmhaaAp16
namespace Go.Proofs.Ytnmknkdbeccmhaa
open Go.RowKit
set_option linter.unusedSimpArgs false
set_option linter.unusedVariables false

theorem end_p {w : World} {A : Option Addr} {xs : List SEnd} (h : Rows 2 endC w A xs) {i : Nat} {x : SEnd} (hx : xs[i]? = some x) :
    ∃ b o, A = some ⟨b, o, none⟩ ∧ b < w.heap.size ∧ (∀ y, (wplus w y).cell? ⟨b, o + i * 2, none⟩ = some (.int .i64 x.number)) ∧ (∀ y, (wplus w y).cell? ⟨b, o + i * 2 + 1, none⟩ = some (.int .i64 x.version)) := by
  obtain ⟨b, o, e, hb, hc⟩ := cells_plus h hx ⟨_, rfl⟩
  exact ⟨b, o, e, hb, hc 0 _ rfl, hc 1 _ rfl⟩
set_option maxRecDepth 100000 in
set_option maxHeartbeats 2000000 in
theorem toStewEnd_c (s : SEnd) (w : World) : Calls Try.prog 134 #[.agg #[.int .i64 s.number, .int .i64 s.version]] w fun e w' => e = .returned (.agg #[.int .i64 s.number, .int .i64 s.version]) ∧ Grow w w' := by
  go_enter Try.func134, Try.ntmps134
  go_wp2
  exact bodyPost_ret (v := .agg #[.int .i64 s.number, .int .i64 s.version]) (by simp [results, Try.results134, go_sem]) rfl ⟨rfl, (((Grow.refl _).alloc _).alloc _).alloc _⟩
theorem info_End : (Try.prog.info? 150).map (fun i => (i.zero, i.size, i.bytes)) = some (some (.agg #[.int .i64 0, .int .i64 0]), 2, 16) := by kernel_rfl
set_option maxRecDepth 100000 in
set_option maxHeartbeats 4000000 in
theorem toStewEndS_c (xs : List SEnd) {A : Option Addr} {c : Nat} (hn : xs.length ≤ 2000000) (w : World) (h : Rows 2 endC w A xs) :
    Calls Try.prog 100 #[.slice A xs.length c] w (MadeRow 150 2 endC xs w) := by
  obtain ⟨i0, hi, hz0, hz1, hz2⟩ := info_parts info_End
  have R := Lib.hid (fun (w' : World) (hg : Grow w w') => h.below hg)
  clear h
  go_enter Try.func100, Try.ntmps100
  go_wp2_with (refine wpList_make_full _ rfl _ _ _ rfl w.heap.size 150 i0 _ 2 Try.underlying75 hi hz0 hz1 .i64 .i64 xs.length xs.length xs.length rfl rfl rfl rfl (by rw [hz2]; omega) (by unfold maxLen; omega) (Nat.le_refl _) ?_; intro w1 hown hgr; have HO := Lib.hid hown; have HG := Lib.hid hgr; clear hown hgr)
  go_loopw [4] (fun i wr => ∃ (k : Nat) (rest : List Value), k ≤ xs.length ∧ i = .int .i64 k ∧ Hid (Grow w wr) ∧ Hid (wr.ownsRow w.heap.size 150 2 (.slice (some ⟨w.heap.size, 0, none⟩) xs.length xs.length) xs.length ((xs.take k).flatMap endC ++ rest))) (fun i _ => xs.length - (intOf i).toNat)
  case atStart => exact ⟨0, _, Nat.zero_le _, rfl, (Grow.refl _).grown HG.out (by simp), HO.out⟩
  case round =>
    obtain ⟨k, rest, hk, rfl, hgr, ho⟩ := hrel
    by_cases hlt : k < xs.length
    · obtain ⟨x, hx⟩ := ex_at hlt
      obtain ⟨bb, o, rfl, hbb, f0, f1⟩ := end_at (R.out _ hgr.out) hx
      have HX := Lib.hid hx
      clear hx
      go_wp2_with (go_at_call 134; refine (toStewEnd_c x _).mono ?_; rintro e w' ⟨rfl, hg⟩; have HG2 := Lib.hid hg; have HO2 := Lib.hid (own_grow ho.out hg); obtain ⟨V, hV⟩ := own_V HO2.out; have e0 : w'.cell? ⟨w.heap.size, k * 2, none⟩ = some (V (k * 2 + 0)) := hV _ (by omega); have e1 : w'.cell? ⟨w.heap.size, k * 2 + 1, none⟩ = some (V (k * 2 + 1)) := hV _ (by omega); have hf : ∀ j, w'.frozen? ⟨w.heap.size, j, none⟩ = false := fun j => HO2.out.frozenAt j; clear hg hV)
      obtain ⟨rest', h1, h2⟩ := own_put (cs := endC) (fun _ => rfl) HX.out rfl HO2.out
      go_roundw
      case rel => exact ⟨k + 1, rest', by omega, by go_num, (hgr.out.trans HG2.out).grown h2 (fun q hq => by simp at hq; omega), h1⟩
      case measure => simp [intOf]; omega
    · obtain rfl : k = xs.length := by omega
      have h1 := ho.out
      have HO3 := Lib.hid (own_full endC_len rfl h1)
      clear h1
      go_wp2
      go_ret
      exact ⟨_, rfl, HO3.out, hgr.out⟩
set_option maxRecDepth 100000 in
set_option maxHeartbeats 2000000 in
theorem eqStewEnd_c (s : SEnd) (w : World) : Calls Try.prog 139 #[.agg #[.int .i64 s.number, .int .i64 s.version], .agg #[.int .i64 s.number, .int .i64 s.version]] w fun e w' => e = .returned (.bool true) ∧ Grow w w' := by
  go_enter Try.func139, Try.ntmps139
  go_wp2
  go_ret
  exact ⟨rfl, ((Grow.refl _).alloc _).alloc _⟩
set_option maxRecDepth 100000 in
set_option maxHeartbeats 4000000 in
theorem eqStewEndS_c (xs : List SEnd) {A B : Option Addr} {c c' : Nat} (hn : xs.length ≤ 2000000) (w : World) (h : Rows 2 endC w A xs) (h' : Rows 2 endC w B xs) :
    Calls Try.prog 103 #[.slice A xs.length c, .slice B xs.length c'] w fun e w' => e = .returned (.bool true) ∧ Grow w w' := by
  have R := Lib.hid h
  have R' := Lib.hid h'
  clear h h'
  go_enter Try.func103, Try.ntmps103
  go_wp2
  refine rebase ?_
  intro W hW
  obtain rfl := hW.out
  go_loopw [5] (fun i wr => ∃ (k : Nat) (y : Ext), k ≤ xs.length ∧ i = .int .i64 k ∧ wr = wplus W y) (fun i _ => xs.length - (intOf i).toNat)
  case atStart => exact ⟨0, _, Nat.zero_le _, rfl, rfl⟩
  case round =>
    obtain ⟨k, y, hk, rfl, rfl⟩ := hrel
    by_cases hlt : k < xs.length
    · obtain ⟨x, hx⟩ := ex_at hlt
      obtain ⟨b1, o1, rfl, hb1, f0, f1⟩ := end_p R.out hx
      obtain ⟨b2, o2, rfl, hb2, g0, g1⟩ := end_p R'.out hx
      clear hx
      have t2 : (0 : Int) ≤ (k : Int) := Int.natCast_nonneg _
      have t3 : (k : Int) < (xs.length : Int) := by omega
      go_wp2
      refine region_quiet ⟨_, rfl⟩ (by kernel_rfl) (by kernel_rfl) ?_
      repeat (go_big_quiet_step ((go_at_call 139; exact quiet_grow (eqStewEnd_c x _))))
      refine wpQuiet_nil ?_
      rintro w2 ⟨y2, rfl⟩
      go_wp2
      go_roundw
      case rel => exact ⟨k + 1, _, by omega, by go_num, rfl⟩
      case measure => simp [intOf]; omega
    · obtain rfl : k = xs.length := by omega
      go_wp2
      go_ret
      exact ⟨rfl, Grow.wplus _ _⟩
/-- The laws' measures of ends and acts. -/
def szEnds (n : Nat) (l : Int) : Int := if l - n < 0 then -1 else l - n
def szAct (a : SAct) (l : Int) : Int := if l - (a.service.size : Int) < 0 then -1 else szEnds a.ends.length (l - a.service.size)
set_option maxRecDepth 100000 in
set_option maxHeartbeats 2000000 in
theorem szStewEndS_c (n : Nat) (l : Int) {A : Option Addr} {c : Nat} (hl0 : 0 ≤ l) (hl1 : l ≤ 2000000) (hn : n ≤ 9223372036854775807) (w : World) :
    Calls Try.prog 97 #[.slice A n c, .int .i64 l] w fun e w' => e = .returned (.int .i64 (szEnds n l)) ∧ w = w' := by
  by_cases hc : l - n < 0
  · have HR := Lib.hid (show szEnds n l = -1 by unfold szEnds; rw [if_pos hc])
    go_enter Try.func97, Try.ntmps97
    go_wp2
    go_ret
    exact ⟨ret_int HR.out.symm, rfl⟩
  · have HR := Lib.hid (show szEnds n l = l - n by unfold szEnds; rw [if_neg hc])
    go_enter Try.func97, Try.ntmps97
    go_wp2
    go_ret
    exact ⟨ret_int HR.out.symm, rfl⟩
/-- An act as a value. -/
def actAgg (a : SAct) (A : Option Addr) (c : Nat) : Value := .agg #[.string a.service, .int .i64 a.version, .int .i64 a.create, .int .i64 a.want, .int .i64 a.cool, .bool a.scale, .slice A a.ends.length c, .bool a.drop]
set_option maxRecDepth 100000 in
set_option maxHeartbeats 2000000 in
theorem szStewAct_c (a : SAct) (l : Int) {A : Option Addr} {c : Nat} (hl0 : 0 ≤ l) (hl1 : l ≤ 2000000) (hs : (a.service.size : Int) ≤ 9223372036854775807) (hn : a.ends.length ≤ 9223372036854775807) (w : World) :
    Calls Try.prog 40 #[.agg #[.string a.service, .int .i64 a.version, .int .i64 a.create, .int .i64 a.want, .int .i64 a.cool, .bool a.scale, .slice A a.ends.length c, .bool a.drop], .int .i64 l] w fun e w' => e = .returned (.int .i64 (szAct a l)) ∧ Grow w w' := by
  by_cases h1 : l - (a.service.size : Int) < 0
  · have HR := Lib.hid (show szAct a l = -1 by unfold szAct; rw [if_pos h1])
    go_enter Try.func40, Try.ntmps40
    go_wp2
    go_ret
    exact ⟨ret_int HR.out.symm, (Grow.refl _).alloc _⟩
  · have HR := Lib.hid (show szAct a l = szEnds a.ends.length (l - a.service.size) by unfold szAct; rw [if_neg h1])
    by_cases h2 : szEnds a.ends.length (l - a.service.size) < 0
    · have HS := Lib.hid (show szEnds a.ends.length (l - a.service.size) = -1 by unfold szEnds at h2 ⊢; split at h2 <;> first | rw [if_pos (by assumption)] | omega)
      go_enter Try.func40, Try.ntmps40
      go_wp2_with (go_at_call 97; refine (szStewEndS_c a.ends.length (l - a.service.size) (by omega) (by omega) hn _).mono ?_; rintro e w2 ⟨rfl, rfl⟩)
      go_ret
      exact ⟨ret_int (by rw [HR.out, HS.out]), (Grow.refl _).alloc _⟩
    · go_enter Try.func40, Try.ntmps40
      go_wp2_with (go_at_call 97; refine (szStewEndS_c a.ends.length (l - a.service.size) (by omega) (by omega) hn _).mono ?_; rintro e w2 ⟨rfl, rfl⟩)
      go_ret
      exact ⟨ret_int HR.out.symm, (Grow.refl _).alloc _⟩
theorem keep_eq {g : Nat} {A B W : World} (hW : Hid (W = B)) (h : Keep g A B) : Keep g A W := by rw [hW.out]; exact h
/-- An act that the call has made: the ends lie in memory of its own. -/
def OwnAct (base : Nat) (w : World) (v : Value) (a : SAct) : Prop := ∃ v6, v = .agg #[.string a.service, .int .i64 a.version, .int .i64 a.create, .int .i64 a.want, .int .i64 a.cool, .bool a.scale, v6, .bool a.drop] ∧ w.ownsRow base 150 2 v6 a.ends.length (a.ends.flatMap endC)
def MadeAct (a : SAct) (w : World) (e : Ending) (w' : World) : Prop := ∃ v, e = .returned v ∧ OwnAct w.heap.size w' v a ∧ Grow w w'
set_option maxRecDepth 100000 in
set_option maxHeartbeats 4000000 in
theorem toStewAct_c (a : SAct) {A : Option Addr} {c : Nat} (w : World) (h : Rows 2 endC w A a.ends) (hl : a.ends.length ≤ 2000000) :
    Calls Try.prog 42 #[.agg #[.string a.service, .int .i64 a.version, .int .i64 a.create, .int .i64 a.want, .int .i64 a.cool, .bool a.scale, .slice A a.ends.length c, .bool a.drop]] w (MadeAct a w) := by
  have H1 := Lib.hid (fun (w' : World) (hg : Grow w w') => h.below hg)
  clear h
  go_enter Try.func42, Try.ntmps42
  go_upto_region 2 with fail
  refine rename ?_
  intro W0 hW0
  have GW0 := Lib.hid (show Grow w W0 from grow_eq hW0 (by (repeat (first | with_reducible exact Grow.refl _ | with_reducible assumption | with_reducible refine Grow.drew ?_ | with_reducible refine Grow.alloc ?_ _ | (with_reducible refine Grow.set ?_ ?_ _; rotate_left; (first | (dsimp only; omega) | (simp <;> omega)))))))
  have SW0 := Lib.hid (show W0.heap.size = w.heap.size + 3 by rw [hW0.out]; simp)
  obtain ⟨a1, a2, a3⟩ := heap_alloc3 w _ _ _
  have Z1 := Lib.hid (heap_eq hW0 a1)
  have Z2 := Lib.hid (heap_eq hW0 a2)
  have Z3 := Lib.hid (heap_eq hW0 a3)
  clear hW0 a1 a2 a3
  have q0 := cell_of_row W0 _ 0 _ _ _ Z1.out
  have q1 := cell_of_row W0 _ 1 _ _ _ Z1.out
  have q2 := cell_of_row W0 _ 2 _ _ _ Z1.out
  have q3 := cell_of_row W0 _ 3 _ _ _ Z1.out
  have q4 := cell_of_row W0 _ 4 _ _ _ Z1.out
  have q5 := cell_of_row W0 _ 5 _ _ _ Z1.out
  have p0 := cell_of_row W0 _ 0 _ _ _ Z3.out
  have p1 := cell_of_row W0 _ 1 _ _ _ Z3.out
  have p2 := cell_of_row W0 _ 2 _ _ _ Z3.out
  have p3 := cell_of_row W0 _ 3 _ _ _ Z3.out
  have p4 := cell_of_row W0 _ 4 _ _ _ Z3.out
  have p5 := cell_of_row W0 _ 5 _ _ _ Z3.out
  have pf0 := frozen_of_row W0 _ 0 _ _ Z3.out
  have pf1 := frozen_of_row W0 _ 1 _ _ Z3.out
  have pf2 := frozen_of_row W0 _ 2 _ _ Z3.out
  have pf3 := frozen_of_row W0 _ 3 _ _ Z3.out
  have pf4 := frozen_of_row W0 _ 4 _ _ Z3.out
  have pf5 := frozen_of_row W0 _ 5 _ _ Z3.out
  go_upto_region 8 with fail
  clear q0 q1 q2 q3 q4 q5 p0 p1 p2 p3 p4 p5 pf0 pf1 pf2 pf3 pf4 pf5
  refine rename ?_
  intro W hW
  have K := Lib.hid (show Keep (w.heap.size + 1 + 1) W0 W from keep_eq hW (by (repeat (first | with_reducible exact Keep.refl _ _ | with_reducible assumption | with_reducible refine Keep.drew ?_ | with_reducible refine Keep.alloc ?_ _ | with_reducible refine Keep.set ?_ rfl _ | (with_reducible refine Keep.setNew ?_ ?_ _; rotate_left; (first | (dsimp only; omega) | (simp <;> omega)))))))
  have GW := Lib.hid (show Grow w W from Keep.grow K.out GW0.out (by omega))
  have SW := Lib.hid (show w.heap.size + 3 ≤ W.heap.size by have := SW0.out; have := K.out.size; omega)
  have X1 := Lib.hid (Keep.blk K.out Z1.out (by omega))
  have X2 := Lib.hid (Keep.blk K.out Z2.out (by omega))
  have X3 := Lib.hid (heap_eq hW (blk_set (blk_set (blk_set (blk_set (blk_set (blk_set Z3.out 0 _) 1 _) 2 _) 3 _) 4 _) 5 _))
  clear hW K GW0 SW0 Z1 Z2 Z3
  have q6 := cell_of_row W _ 6 _ _ _ X1.out
  have q7 := cell_of_row W _ 7 _ _ _ X1.out
  go_wp2_with fail
  refine (toStewEndS_c a.ends hl _ (H1.out _ GW.out)).mono ?_
  rintro e w2 ⟨v2, rfl, ho2, hg2⟩
  obtain ⟨B2, d2, rfl, -, -⟩ := own_rows endC_len rfl ho2
  have O2 := Lib.hid (own_base (b' := w.heap.size + 3) ho2 (by have := SW.out; omega))
  have Y1 := Lib.hid (blk_grow X1.out hg2)
  have Y2 := Lib.hid (blk_grow X2.out hg2)
  have Y3 := Lib.hid (blk_grow X3.out hg2)
  have G2 := Lib.hid (GW.out.trans hg2)
  clear ho2 hg2 GW X1 X2 X3 q6 q7
  have q6 := cell_of_row w2 _ 6 _ _ _ Y1.out
  have q7 := cell_of_row w2 _ 7 _ _ _ Y1.out
  have p0 := cell_of_row w2 _ 0 _ _ _ Y3.out
  have p1 := cell_of_row w2 _ 1 _ _ _ Y3.out
  have p2 := cell_of_row w2 _ 2 _ _ _ Y3.out
  have p3 := cell_of_row w2 _ 3 _ _ _ Y3.out
  have p4 := cell_of_row w2 _ 4 _ _ _ Y3.out
  have p5 := cell_of_row w2 _ 5 _ _ _ Y3.out
  have p6 := cell_of_row w2 _ 6 _ _ _ Y3.out
  have p7 := cell_of_row w2 _ 7 _ _ _ Y3.out
  have pf0 := frozen_of_row w2 _ 0 _ _ Y3.out
  have pf1 := frozen_of_row w2 _ 1 _ _ Y3.out
  have pf2 := frozen_of_row w2 _ 2 _ _ Y3.out
  have pf3 := frozen_of_row w2 _ 3 _ _ Y3.out
  have pf4 := frozen_of_row w2 _ 4 _ _ Y3.out
  have pf5 := frozen_of_row w2 _ 5 _ _ Y3.out
  have pf6 := frozen_of_row w2 _ 6 _ _ Y3.out
  have pf7 := frozen_of_row w2 _ 7 _ _ Y3.out
  have r0 := cell_of_row w2 _ 0 _ _ _ Y2.out
  have r1 := cell_of_row w2 _ 1 _ _ _ Y2.out
  have r2 := cell_of_row w2 _ 2 _ _ _ Y2.out
  have r3 := cell_of_row w2 _ 3 _ _ _ Y2.out
  have r4 := cell_of_row w2 _ 4 _ _ _ Y2.out
  have r5 := cell_of_row w2 _ 5 _ _ _ Y2.out
  have r6 := cell_of_row w2 _ 6 _ _ _ Y2.out
  have r7 := cell_of_row w2 _ 7 _ _ _ Y2.out
  have rf0 := frozen_of_row w2 _ 0 _ _ Y2.out
  have rf1 := frozen_of_row w2 _ 1 _ _ Y2.out
  have rf2 := frozen_of_row w2 _ 2 _ _ Y2.out
  have rf3 := frozen_of_row w2 _ 3 _ _ Y2.out
  have rf4 := frozen_of_row w2 _ 4 _ _ Y2.out
  have rf5 := frozen_of_row w2 _ 5 _ _ Y2.out
  have rf6 := frozen_of_row w2 _ 6 _ _ Y2.out
  have rf7 := frozen_of_row w2 _ 7 _ _ Y2.out
  go_wp2
  refine bodyPost_ret (v := .agg #[.string a.service, .int .i64 a.version, .int .i64 a.create, .int .i64 a.want, .int .i64 a.cool, .bool a.scale, .slice B2 a.ends.length d2, .bool a.drop]) (by simp [results, Try.results42, go_sem, r0, r1, r2, r3, r4, r5, r6, r7, p0, p1, p2, p3, p4, p5, p6, p7]) rfl ⟨_, rfl, ⟨_, rfl, ?_⟩, ?_⟩
  · refine own_base (b := w.heap.size + 3) ?_ (by omega)
    repeat (refine ownsRow_setCell_below ?_ (by simp <;> omega) _)
    exact O2.out
  · repeat (refine Grow.set ?_ (by simp <;> omega) _)
    exact G2.out
end Go.Proofs.Ytnmknkdbeccmhaa
namespace Go.Proofs.Ytnmknkdbeccmhaa
open Go.RowKit
set_option linter.unusedSimpArgs false
set_option linter.unusedVariables false

set_option maxRecDepth 100000 in
set_option maxHeartbeats 4000000 in
theorem eqStewAct_c (a : SAct) {A B : Option Addr} {c d : Nat} (w : World) (h : Rows 2 endC w A a.ends) (k : Rows 2 endC w B a.ends) (hl : a.ends.length ≤ 2000000) :
    Calls Try.prog 44 #[.agg #[.string a.service, .int .i64 a.version, .int .i64 a.create, .int .i64 a.want, .int .i64 a.cool, .bool a.scale, .slice A a.ends.length c, .bool a.drop], .agg #[.string a.service, .int .i64 a.version, .int .i64 a.create, .int .i64 a.want, .int .i64 a.cool, .bool a.scale, .slice B a.ends.length d, .bool a.drop]] w fun e w' => e = .returned (.bool true) ∧ Grow w w' := by
  have H := Lib.hid h
  have K := Lib.hid k
  clear h k
  have G0 := Lib.hid (fun (o o' : Obj) => ((Grow.refl w).alloc o).alloc o')
  go_enter Try.func44, Try.ntmps44
  go_wp2_with (go_at_call 103; refine (eqStewEndS_c a.ends hl _ (H.out.below (G0.out _ _)) (K.out.below (G0.out _ _))).mono ?_; rintro e w1 ⟨rfl, hg1⟩; have e1 := (hg1.block w.heap.size (by simp; omega)).trans (heap_alloc2 w _ _); have e2 := (hg1.block (w.heap.size + 1) (by simp)).trans (heap_alloc2_new w _ _); have e12 := cell_of_row w1 _ 7 _ _ _ e1; have e22 := cell_of_row w1 _ 7 _ _ _ e2)
  go_ret
  exact ⟨rfl, (G0.out _ _).trans hg1⟩

def markEnd (k : Int) : SEnd := ⟨k, k + 1⟩
set_option maxRecDepth 100000 in
set_option maxHeartbeats 4000000 in
theorem markStewEndS_c {base N : Nat} {v : Value} {L : List Value} (k : Int) (h0 : 0 ≤ k) (h1 : k + 2 * N ≤ 100000000000) (w : World) (h : w.ownsRow base 150 2 v N L) :
    Calls Try.prog 104 #[v, .int .i64 k] w fun e w' => e = .returned (.int .i64 (k + 2 * N)) ∧ w'.ownsRow base 150 2 v N ((marks markEnd 2 N k).flatMap endC) ∧ w.grownBy w' v.ownBlock := by
  rcases h.2 with ⟨rfl, rfl⟩ | ⟨g, cap, cur, rfl, hb, hg, hc, hm, hz, ht⟩
  · go_enter Try.func104, Try.ntmps104
    go_wp2
    go_loop [1, 5] (fun q i => q = .int .i64 k ∧ i = .int .i64 0) (fun _ _ => 0)
    case atStart => exact ⟨rfl, rfl⟩
    case round =>
      obtain ⟨rfl, rfl⟩ := hrel
      go_wp2
      go_ret
      exact ⟨by simp, World.ownsRow_nil _ _ _ _, World.grownBy.refl _ _⟩
  · have HO := Lib.hid h
    have capb : cap ≤ 9223372036854775807 := by unfold maxLen at hm; omega
    clear h hg hz ht hm
    go_enter Try.func104, Try.ntmps104
    go_wp2
    go_loopw [1, 5] (fun q i wr => ∃ (j : Nat) (m : Int) (rest : List Value), j ≤ N ∧ i = .int .i64 j ∧ q = .int .i64 m ∧ m = k + 2 * j ∧ Hid (wr.ownsRow base 150 2 (.slice (some ⟨g, 0, none⟩) N cap) N ((marks markEnd 2 j k).flatMap endC ++ rest)) ∧ Hid (w.grownBy wr (some g))) (fun _ i _ => N - (intOf i).toNat)
    case atStart => exact ⟨0, k, _, Nat.zero_le _, rfl, rfl, by simp, HO.out, World.grownBy.refl _ _⟩
    case round =>
      obtain ⟨j, m, rest, hj, rfl, rfl, hm, ho, hgr⟩ := hrel
      by_cases hlt : j < N
      · have j0 : (0 : Int) ≤ (j : Int) := Int.natCast_nonneg _
        have j1 : (j : Int) < (N : Int) := by omega
        have m0 : 0 ≤ m := by omega
        have m1 : m ≤ 100000000000 - 2 := by omega
        have HM := Lib.hid hm
        have HP := Lib.hid (show ((marks markEnd 2 j k).flatMap endC).length = j * 2 by rw [flat_len endC_len, marks_len])
        have HR := Lib.hid (show 2 ≤ rest.length by
          have h1 := ho.out.1
          rw [List.length_append, HP.out] at h1
          omega)
        clear hm
        obtain ⟨V, hV⟩ := own_V ho.out
        have e0 : wr.cell? ⟨g, j * 2, none⟩ = some (V (j * 2 + 0)) := hV _ (by omega)
        have e1 : wr.cell? ⟨g, j * 2 + 1, none⟩ = some (V (j * 2 + 1)) := hV _ (by omega)
        have hf : ∀ i, wr.frozen? ⟨g, i, none⟩ = false := fun i => (ho.out).frozenAt i
        clear hV
        obtain ⟨K1, K2⟩ := own_sets (endC (markEnd m)) (j * 2) _ wr ho.out
        have HK1 := Lib.hid (own_sets_all (cs := endC (markEnd m)) HP.out HR.out K1)
        have HK2 := Lib.hid (grownBy_trans hgr.out K2)
        clear K1 K2
        go_wp2
        go_roundw
        case rel => exact ⟨j + 1, _, rest.drop 2, by omega, by go_num, rfl, by have := HM.out; omega, by unfold Hid; rw [show (marks markEnd 2 (j + 1) k).flatMap endC ++ rest.drop 2 = (marks markEnd 2 j k).flatMap endC ++ (endC (markEnd m) ++ rest.drop 2) by rw [marks_snoc, ← HM.out, List.flatMap_append]; simp]; exact HK1.out, HK2.out⟩
        case measure => first | (simp [intOf]; omega) | (simp [intOf]; done)
      · obtain rfl : j = N := by omega
        have HR := Lib.hid (show rest = [] by
          have h1 := ho.out.1
          rw [List.length_append, flat_len endC_len, marks_len] at h1
          exact List.eq_nil_of_length_eq_zero (by omega))
        go_wp2
        go_ret
        exact ⟨ret_int hm, by have := ho.out; rw [HR.out, List.append_nil] at this; exact this, hgr.out⟩
set_option maxRecDepth 100000 in
set_option maxHeartbeats 4000000 in
theorem markStewAct_c {base : Nat} {v6 : Value} (a : SAct) (k : Int) (h0 : 0 ≤ k) (h1 : k + 2 * a.ends.length ≤ 100000000000) (w : World) (h : w.ownsRow base 150 2 v6 a.ends.length (a.ends.flatMap endC)) :
    Calls Try.prog 45 #[.agg #[.string a.service, .int .i64 a.version, .int .i64 a.create, .int .i64 a.want, .int .i64 a.cool, .bool a.scale, v6, .bool a.drop], .int .i64 k] w fun e w' => e = .returned (.int .i64 (k + 2 * a.ends.length)) ∧ w'.ownsRow base 150 2 v6 a.ends.length ((marks markEnd 2 a.ends.length k).flatMap endC) ∧ w.grownBy w' v6.ownBlock := by
  obtain ⟨A1, d1, rfl, -, -⟩ := own_rows endC_len rfl h
  have HB := Lib.hid (own_grow h ((Grow.refl w).alloc (.cells #[.string a.service, .int .i64 a.version, .int .i64 a.create, .int .i64 a.want, .int .i64 a.cool, .bool a.scale, .slice A1 a.ends.length d1, .bool a.drop] 77)))
  have HA := Lib.hid (fun (o : Obj) => (⟨rfl, rfl, rfl, by simp, fun k hk _ => Below.heap_alloc _ _ _ hk⟩ : w.grownBy (w.alloc o) (Value.ownBlock (.slice A1 a.ends.length d1))))
  clear h
  go_enter Try.func45, Try.ntmps45
  go_wp2_with fail
  refine (markStewEndS_c k h0 (by omega) _ HB.out).mono ?_
  rintro e w1 ⟨rfl, ho1, hg1⟩
  have O1 := Lib.hid ho1
  have T1 := Lib.hid (grownBy_trans (HA.out _) hg1)
  clear ho1 hg1
  go_wp2
  go_ret
  exact ⟨rfl, O1.out, T1.out⟩
end Go.Proofs.Ytnmknkdbeccmhaa
namespace Go.Proofs.Ytnmknkdbeccmhaa
open Go.RowKit
set_option linter.unusedSimpArgs false
set_option linter.unusedVariables false

set_option maxRecDepth 100000 in
set_option maxHeartbeats 4000000 in
theorem heldStewServiceS_c {N : Nat} {A : Option Addr} {c : Nat} (k : Int) (h0 : 0 ≤ k) (h1 : k + 13 * N ≤ 100000000000) (hN : N ≤ 2000000) (w : World) (h : Rows 13 svcC w A (marks markSvc 13 N k)) :
    Calls Try.prog 105 #[.slice A N c, .int .i64 k] w fun e w' => e = .returned (.int .i64 (k + 13 * N)) ∧ Grow w w' := by
  have R := Lib.hid h
  clear h
  go_enter Try.func105, Try.ntmps105
  go_wp2
  refine rebase ?_
  intro W hW
  obtain rfl := hW.out
  go_loopw [1, 5] (fun q i wr => ∃ (j : Nat) (m : Int) (y : Ext), j ≤ N ∧ i = .int .i64 j ∧ q = .int .i64 m ∧ m = k + 13 * j ∧ wr = wplus W y) (fun _ i _ => N - (intOf i).toNat)
  case atStart => exact ⟨0, k, _, Nat.zero_le _, rfl, rfl, by simp, rfl⟩
  case round =>
    obtain ⟨j, m, y, hj, rfl, rfl, hm, rfl⟩ := hrel
    by_cases hlt : j < N
    · have j0 : (0 : Int) ≤ (j : Int) := Int.natCast_nonneg _
      have j1 : (j : Int) < (N : Int) := by omega
      have m0 : 0 ≤ m := by omega
      have m1 : m ≤ 100000000000 - 13 := by omega
      have HM := Lib.hid hm
      have hx := marks_at markSvc 13 (k := k) hlt
      rw [← hm] at hx
      obtain ⟨bb, o, rfl, hbb, f0, f1, f2, f3, f4, f5, f6, f7, f8, f9, f10, f11, f12⟩ := svc_p R.out hx
      simp only [markSvc] at f0 f1 f2 f3 f4 f5 f6 f7 f8 f9 f10 f11 f12
      clear hx hm
      go_wp2
      refine region_quiet ⟨_, rfl⟩ (by kernel_rfl) (by kernel_rfl) ?_
      repeat (go_big_quiet_step ((go_at_call 130; exact quiet_grow (markText_c (m) (by omega) (by omega) _))))
      refine wpQuiet_nil ?_
      rintro w2 ⟨y2, rfl⟩
      go_wp2
      go_roundw
      case rel => exact ⟨j + 1, _, _, by omega, by go_num, rfl, by have := HM.out; omega, rfl⟩
      case measure => first | (simp [intOf]; omega) | (simp [intOf]; done)
    · obtain rfl : j = N := by omega
      go_wp2
      go_ret
      first | exact ⟨ret_int hm, Grow.wplus _ _⟩ | exact ⟨ret_int rfl, Grow.wplus _ _⟩ | exact ⟨rfl, Grow.wplus _ _⟩

set_option maxRecDepth 100000 in
set_option maxHeartbeats 4000000 in
theorem heldStewCopyS_c {N : Nat} {A : Option Addr} {c : Nat} (k : Int) (h0 : 0 ≤ k) (h1 : k + 7 * N ≤ 100000000000) (hN : N ≤ 2000000) (w : World) (h : Rows 7 cpyC w A (marks markCpy 7 N k)) :
    Calls Try.prog 106 #[.slice A N c, .int .i64 k] w fun e w' => e = .returned (.int .i64 (k + 7 * N)) ∧ Grow w w' := by
  have R := Lib.hid h
  clear h
  go_enter Try.func106, Try.ntmps106
  go_wp2
  refine rebase ?_
  intro W hW
  obtain rfl := hW.out
  go_loopw [1, 5] (fun q i wr => ∃ (j : Nat) (m : Int) (y : Ext), j ≤ N ∧ i = .int .i64 j ∧ q = .int .i64 m ∧ m = k + 7 * j ∧ wr = wplus W y) (fun _ i _ => N - (intOf i).toNat)
  case atStart => exact ⟨0, k, _, Nat.zero_le _, rfl, rfl, by simp, rfl⟩
  case round =>
    obtain ⟨j, m, y, hj, rfl, rfl, hm, rfl⟩ := hrel
    by_cases hlt : j < N
    · have j0 : (0 : Int) ≤ (j : Int) := Int.natCast_nonneg _
      have j1 : (j : Int) < (N : Int) := by omega
      have m0 : 0 ≤ m := by omega
      have m1 : m ≤ 100000000000 - 7 := by omega
      have HM := Lib.hid hm
      have hx := marks_at markCpy 7 (k := k) hlt
      rw [← hm] at hx
      obtain ⟨bb, o, rfl, hbb, f0, f1, f2, f3, f4, f5, f6⟩ := cpy_p R.out hx
      simp only [markCpy] at f0 f1 f2 f3 f4 f5 f6
      clear hx hm
      go_wp2
      refine region_quiet ⟨_, rfl⟩ (by kernel_rfl) (by kernel_rfl) ?_
      repeat (go_big_quiet_step ((go_at_call 130; exact quiet_grow (markText_c (m) (by omega) (by omega) _))))
      refine wpQuiet_nil ?_
      rintro w2 ⟨y2, rfl⟩
      go_wp2
      refine region_quiet ⟨_, rfl⟩ (by kernel_rfl) (by kernel_rfl) ?_
      repeat (go_big_quiet_step ((go_at_call 130; exact quiet_grow (markText_c (m + 1 + 1 + 1 + 1 + 1 + 1) (by omega) (by omega) _))))
      refine wpQuiet_nil ?_
      rintro w8 ⟨y8, rfl⟩
      go_wp2
      go_roundw
      case rel => exact ⟨j + 1, _, _, by omega, by go_num, rfl, by have := HM.out; omega, rfl⟩
      case measure => first | (simp [intOf]; omega) | (simp [intOf]; done)
    · obtain rfl : j = N := by omega
      go_wp2
      go_ret
      first | exact ⟨ret_int hm, Grow.wplus _ _⟩ | exact ⟨ret_int rfl, Grow.wplus _ _⟩ | exact ⟨rfl, Grow.wplus _ _⟩

set_option maxRecDepth 100000 in
set_option maxHeartbeats 4000000 in
theorem heldStewBerthS_c {N : Nat} {A : Option Addr} {c : Nat} (k : Int) (h0 : 0 ≤ k) (h1 : k + 2 * N ≤ 100000000000) (hN : N ≤ 2000000) (w : World) (h : Rows 2 brtC w A (marks markBrt 2 N k)) :
    Calls Try.prog 107 #[.slice A N c, .int .i64 k] w fun e w' => e = .returned (.int .i64 (k + 2 * N)) ∧ Grow w w' := by
  have R := Lib.hid h
  clear h
  go_enter Try.func107, Try.ntmps107
  go_wp2
  refine rebase ?_
  intro W hW
  obtain rfl := hW.out
  go_loopw [1, 5] (fun q i wr => ∃ (j : Nat) (m : Int) (y : Ext), j ≤ N ∧ i = .int .i64 j ∧ q = .int .i64 m ∧ m = k + 2 * j ∧ wr = wplus W y) (fun _ i _ => N - (intOf i).toNat)
  case atStart => exact ⟨0, k, _, Nat.zero_le _, rfl, rfl, by simp, rfl⟩
  case round =>
    obtain ⟨j, m, y, hj, rfl, rfl, hm, rfl⟩ := hrel
    by_cases hlt : j < N
    · have j0 : (0 : Int) ≤ (j : Int) := Int.natCast_nonneg _
      have j1 : (j : Int) < (N : Int) := by omega
      have m0 : 0 ≤ m := by omega
      have m1 : m ≤ 100000000000 - 2 := by omega
      have HM := Lib.hid hm
      have hx := marks_at markBrt 2 (k := k) hlt
      rw [← hm] at hx
      obtain ⟨bb, o, rfl, hbb, f0, f1⟩ := brt_p R.out hx
      simp only [markBrt] at f0 f1
      clear hx hm
      go_wp2
      refine region_quiet ⟨_, rfl⟩ (by kernel_rfl) (by kernel_rfl) ?_
      repeat (go_big_quiet_step ((go_at_call 130; exact quiet_grow (markText_c (m) (by omega) (by omega) _))))
      refine wpQuiet_nil ?_
      rintro w2 ⟨y2, rfl⟩
      go_wp2
      go_roundw
      case rel => exact ⟨j + 1, _, _, by omega, by go_num, rfl, by have := HM.out; omega, rfl⟩
      case measure => first | (simp [intOf]; omega) | (simp [intOf]; done)
    · obtain rfl : j = N := by omega
      go_wp2
      go_ret
      first | exact ⟨ret_int hm, Grow.wplus _ _⟩ | exact ⟨ret_int rfl, Grow.wplus _ _⟩ | exact ⟨rfl, Grow.wplus _ _⟩

set_option maxRecDepth 100000 in
set_option maxHeartbeats 4000000 in
theorem heldStewBook_c {N1 N2 N3 : Nat} {A1 A2 A3 : Option Addr} {c1 c2 c3 : Nat} (t : Int) (k : Int) (h0 : 0 ≤ k) (hb : k + 13 * N1 + 7 * N2 + 2 * N3 ≤ 100000000000) (l1 : N1 ≤ 2000000) (l2 : N2 ≤ 2000000) (l3 : N3 ≤ 2000000) (w : World)
    (h1 : Rows 13 svcC w A1 (marks markSvc 13 N1 k)) (h2 : Rows 7 cpyC w A2 (marks markCpy 7 N2 (k + 13 * N1))) (h3 : Rows 2 brtC w A3 (marks markBrt 2 N3 (k + 13 * N1 + 7 * N2))) :
    Calls Try.prog 46 #[.agg #[.int .i64 t, .slice A1 N1 c1, .slice A2 N2 c2, .slice A3 N3 c3], .int .i64 k] w fun e w' => e = .returned (.int .i64 (k + 13 * N1 + 7 * N2 + 2 * N3)) ∧ Grow w w' := by
  have R1 := Lib.hid (fun (w' : World) (hg : Grow w w') => h1.below hg)
  have R2 := Lib.hid (fun (w' : World) (hg : Grow w w') => h2.below hg)
  have R3 := Lib.hid (fun (w' : World) (hg : Grow w w') => h3.below hg)
  have X := Lib.hid (heap_alloc_new w (.cells #[.int .i64 t, .slice A1 N1 c1, .slice A2 N2 c2, .slice A3 N3 c3] 34))
  clear h1 h2 h3
  go_enter Try.func46, Try.ntmps46
  go_wp2_with fail
  refine (heldStewServiceS_c k h0 (by omega) l1 _ (R1.out _ (by (repeat (first | with_reducible exact Grow.refl _ | with_reducible assumption | with_reducible refine Grow.drew ?_ | with_reducible refine Grow.alloc ?_ _ | (with_reducible refine Grow.set ?_ ?_ _; rotate_left; (first | (dsimp only; omega) | (simp <;> omega)))))))).mono ?_
  rintro e w1 ⟨rfl, hg1⟩
  have G1 := Lib.hid (Grow.trans (show Grow w _ by (repeat (first | with_reducible exact Grow.refl _ | with_reducible assumption | with_reducible refine Grow.drew ?_ | with_reducible refine Grow.alloc ?_ _ | (with_reducible refine Grow.set ?_ ?_ _; rotate_left; (first | (dsimp only; omega) | (simp <;> omega)))))) hg1)
  have X1 := Lib.hid (blk_grow X.out hg1)
  clear hg1
  have x0 := cell_of_row w1 _ 0 _ _ _ X1.out
  have x1 := cell_of_row w1 _ 1 _ _ _ X1.out
  have x2 := cell_of_row w1 _ 2 _ _ _ X1.out
  have x3 := cell_of_row w1 _ 3 _ _ _ X1.out
  go_wp2_with fail
  refine (heldStewCopyS_c (k + 13 * N1) (by omega) (by omega) l2 _ (R2.out _ G1.out)).mono ?_
  rintro e w2 ⟨rfl, hg2⟩
  have G2 := Lib.hid (G1.out.trans hg2)
  have X2 := Lib.hid (blk_grow X1.out hg2)
  clear hg2 x0 x1 x2 x3
  have x0 := cell_of_row w2 _ 0 _ _ _ X2.out
  have x1 := cell_of_row w2 _ 1 _ _ _ X2.out
  have x2 := cell_of_row w2 _ 2 _ _ _ X2.out
  have x3 := cell_of_row w2 _ 3 _ _ _ X2.out
  go_wp2_with fail
  refine (heldStewBerthS_c (k + 13 * N1 + 7 * N2) (by omega) (by omega) l3 _ (R3.out _ G2.out)).mono ?_
  rintro e w3 ⟨rfl, hg3⟩
  have G3 := Lib.hid (G2.out.trans hg3)
  clear hg3 x0 x1 x2 x3
  go_wp2
  go_ret
  exact ⟨rfl, G3.out⟩
end Go.Proofs.Ytnmknkdbeccmhaa
namespace Go.Proofs.Ytnmknkdbeccmhaa
open Go.RowKit
set_option linter.unusedSimpArgs false
set_option linter.unusedVariables false

theorem formed_split {a : SAct} (h1 : inB 0 a.create 20 = true) (h2 : a.ends.length ≤ 200) {r t : Bool} (hr : risesB none a.ends = r)
    (ht : ((if a.scale then inB 0 a.want 10 && inB 0 a.cool 3 else decide (a.want = 0) && decide (a.cool = 0)) && (!a.drop || (decide (a.create = 0) && (!a.scale && a.ends.isEmpty)))) = t) : formedB a = (r && t) := by
  unfold formedB
  rw [h1, hr, ht, decide_eq_true h2]
  simp
theorem len_beq (xs : List SEnd) : ((xs.length : Int) == 0) = decide (xs = []) := by
  cases xs with
  | nil => rfl
  | cons x xs => rw [decide_eq_false (by simp)]; exact beq_eq_false_iff_ne.2 (by simp; omega)
theorem rises_prev {a : SEnd} {xs ys : List SEnd} (h : ys = a :: xs) (p : Option SEnd) : risesB p ys = ((match p with | none => true | some q => decide (q.number < a.number)) && risesB (some a) xs) := by
  subst h
  cases p <;> simp [risesB]

set_option maxRecDepth 100000 in
set_option maxHeartbeats 4000000 in
theorem l4ActOk_c (a : SAct) {A : Option Addr} {c : Nat} (w : World) (h : Rows 2 endC w A a.ends) (hl : a.ends.length ≤ 2000000) :
    Calls Try.prog 133 #[.agg #[.string a.service, .int .i64 a.version, .int .i64 a.create, .int .i64 a.want, .int .i64 a.cool, .bool a.scale, .slice A a.ends.length c, .bool a.drop]] w fun e w' => e = .returned (.bool (formedB a)) ∧ Grow w w' := by
  have R1 := Lib.hid (fun (w' : World) (hg : Grow w w') => h.below hg)
  clear h
  have l0 : (0 : Int) ≤ (a.ends.length : Int) := Int.natCast_nonneg _
  rcases h1 : inB 0 a.create 20
  · have HR := Lib.hid (show formedB a = false by simp [formedB, h1])
    go_enter Try.func133, Try.ntmps133
    go_wp2_with (go_at_call 60; refine (l1In_c _ _ _ _).mono ?_; rintro e w' ⟨rfl, rfl⟩)
    go_ret
    exact ⟨ret_bool HR.out.symm, (Grow.refl _).alloc _⟩
  by_cases h2 : 200 < (a.ends.length : Int)
  · have HR := Lib.hid (show formedB a = false by have : ¬ a.ends.length ≤ 200 := by omega
                                                  simp [formedB, this])
    go_enter Try.func133, Try.ntmps133
    go_wp2_with (go_at_call 60; refine (l1In_c _ _ _ _).mono ?_; rintro e w' ⟨rfl, rfl⟩)
    go_ret
    exact ⟨ret_bool HR.out.symm, (Grow.refl _).alloc _⟩
  have HS := Lib.hid (fun (r t : Bool) => formed_split (a := a) (r := r) (t := t) h1 (by omega))
  go_enter Try.func133, Try.ntmps133
  go_wp2_with (go_at_call 60; refine (l1In_c _ _ _ _).mono ?_; rintro e w' ⟨rfl, rfl⟩)
  refine rebase ?_
  intro W hW
  have G := Lib.hid (show Grow w W by rw [hW.out]; exact (Grow.refl _).alloc _)
  have fb := blk_p (show W.heap[w.heap.size]? = _ by rw [hW.out]; exact heap_alloc_new _ _)
  have fb1 := fb 1
  have fb2 := fb 2
  have fb3 := fb 3
  have fb4 := fb 4
  have fb5 := fb 5
  have fb6 := fb 6
  have fb7 := fb 7
  clear fb hW
  go_loopw [3] (fun i wr => ∃ (k : Nat) (y : Ext), 1 ≤ k ∧ i = .int .i64 k ∧ (k ≤ a.ends.length ∨ k = 1) ∧ wr = wplus W y ∧ Hid (risesB none a.ends = risesB (prev a.ends k) (a.ends.drop k))) (fun i _ => a.ends.length - (intOf i).toNat)
  case atStart => exact ⟨1, _, Nat.le_refl _, rfl, Or.inr rfl, rfl, by unfold Hid; cases a.ends with | nil => rfl | cons x xs => rfl⟩
  case round =>
    obtain ⟨k, y, hk, rfl, hk2, rfl, hi⟩ := hrel
    by_cases hlt : k < a.ends.length
    · obtain ⟨x, hx⟩ := ex_at hlt
      obtain ⟨q, hq⟩ : ∃ q, a.ends[k - 1]? = some q := ex_at (by omega)
      obtain ⟨bb, o, hA, hbb, f0, f1⟩ := end_p (R1.out _ G.out) hx
      obtain ⟨bb', o', hA', hbb', g0, g1⟩ := end_p (R1.out _ G.out) hq
      rw [hA] at hA'
      simp only [Option.some.injEq, Addr.mk.injEq] at hA'
      obtain ⟨rfl, rfl, -⟩ := hA'
      subst hA
      have hd := Lib.hid (rises_prev (drop_at hx) (prev a.ends k))
      have HP := Lib.hid (show prev a.ends k = some q by cases k with | zero => omega | succ j => exact hq)
      have HN := Lib.hid (show prev a.ends (k + 1) = some x from hx)
      clear hx hq
      have t2 : (0 : Int) ≤ (k : Int) := Int.natCast_nonneg _
      have t3 : (k : Int) < (a.ends.length : Int) := by omega
      have t7 : (0 : Int) ≤ (k : Int) - 1 := by omega
      have t8 : ((k : Int) - 1).toNat = k - 1 := by omega
      rcases hlt2 : decide (q.number < x.number)
      all_goals
        have HD := Lib.hid hlt2
        go_wp2
        refine region_quiet ⟨_, rfl⟩ (by kernel_rfl) (by kernel_rfl) ?_
        repeat (first | go_big_quiet_step (fail) | quiet_step (fail))
        refine wpQuiet_nil ?_
        rintro w2 ⟨y2, rfl⟩
        simp only [decide_eq_false_iff_not, decide_eq_true_eq] at hlt2
        go_wp2
      · go_ret
        exact ⟨ret_bool (by rw [HS.out _ _ hi.out rfl, hd.out, HP.out]; dsimp only; rw [HD.out]; rfl), G.out.trans (Grow.wplus _ _)⟩
      · go_roundw
        case rel => exact ⟨k + 1, _, by omega, by go_num, Or.inl (by omega), rfl, by unfold Hid; rw [hi.out, hd.out, HP.out, HN.out]; dsimp only; rw [HD.out]; rfl⟩
        case measure => simp [intOf]; omega
    · have HR := Lib.hid (show risesB none a.ends = true by rw [hi.out, List.drop_eq_nil_of_le (by omega)]; cases prev a.ends k <;> rfl)
      have t3 : ¬ (k : Int) < (a.ends.length : Int) := by omega
      clear hi
      have HE := Lib.hid (show a.ends.isEmpty = decide ((a.ends.length : Int) = 0) by cases a.ends with | nil => rfl | cons x xs => rw [decide_eq_false (by simp; omega)]; rfl)
      rcases hd : a.drop <;> rcases hs : a.scale
      all_goals
        simp only [hd] at fb7
        simp only [hs] at fb5
      · by_cases w0 : a.want = 0
        · by_cases c0 : a.cool = 0
          · go_wp2_with (go_at_call 60; refine (l1In_c _ _ _ _).mono ?_; rintro e w' ⟨rfl, rfl⟩)
            go_ret
            exact ⟨ret_bool (by rw [HS.out _ _ HR.out rfl, HE.out]; clear HS HE; first | (simp [*]; done) | (simp [*]; exact len_beq _)), G.out.trans (Grow.wplus _ _)⟩
          · go_wp2_with (go_at_call 60; refine (l1In_c _ _ _ _).mono ?_; rintro e w' ⟨rfl, rfl⟩)
            go_ret
            exact ⟨ret_bool (by rw [HS.out _ _ HR.out rfl, HE.out]; clear HS HE; first | (simp [*]; done) | (simp [*]; exact len_beq _)), G.out.trans (Grow.wplus _ _)⟩
        · go_wp2_with (go_at_call 60; refine (l1In_c _ _ _ _).mono ?_; rintro e w' ⟨rfl, rfl⟩)
          go_ret
          exact ⟨ret_bool (by rw [HS.out _ _ HR.out rfl, HE.out]; clear HS HE; first | (simp [*]; done) | (simp [*]; exact len_beq _)), G.out.trans (Grow.wplus _ _)⟩
      · rcases w1 : inB 0 a.want 10
        · go_wp2_with (go_at_call 60; refine (l1In_c _ _ _ _).mono ?_; rintro e w' ⟨rfl, rfl⟩)
          go_ret
          exact ⟨ret_bool (by rw [HS.out _ _ HR.out rfl, HE.out]; clear HS HE; first | (simp [*]; done) | (simp [*]; exact len_beq _)), G.out.trans (Grow.wplus _ _)⟩
        · rcases c1 : inB 0 a.cool 3
          · go_wp2_with (go_at_call 60; refine (l1In_c _ _ _ _).mono ?_; rintro e w' ⟨rfl, rfl⟩)
            go_ret
            exact ⟨ret_bool (by rw [HS.out _ _ HR.out rfl, HE.out]; clear HS HE; first | (simp [*]; done) | (simp [*]; exact len_beq _)), G.out.trans (Grow.wplus _ _)⟩
          · go_wp2_with (go_at_call 60; refine (l1In_c _ _ _ _).mono ?_; rintro e w' ⟨rfl, rfl⟩)
            go_ret
            exact ⟨ret_bool (by rw [HS.out _ _ HR.out rfl, HE.out]; clear HS HE; first | (simp [*]; done) | (simp [*]; exact len_beq _)), G.out.trans (Grow.wplus _ _)⟩
      · by_cases w0 : a.want = 0
        · by_cases c0 : a.cool = 0
          · by_cases k0 : a.create = 0
            · by_cases e0 : (a.ends.length : Int) = 0
              · go_wp2_with (go_at_call 60; refine (l1In_c _ _ _ _).mono ?_; rintro e w' ⟨rfl, rfl⟩)
                go_ret
                exact ⟨ret_bool (by rw [HS.out _ _ HR.out rfl, HE.out]; clear HS HE; first | (simp [*]; done) | (simp [*]; exact len_beq _)), G.out.trans (Grow.wplus _ _)⟩
              · go_wp2_with (go_at_call 60; refine (l1In_c _ _ _ _).mono ?_; rintro e w' ⟨rfl, rfl⟩)
                go_ret
                exact ⟨ret_bool (by rw [HS.out _ _ HR.out rfl, HE.out]; clear HS HE; first | (simp [*]; done) | (simp [*]; exact len_beq _)), G.out.trans (Grow.wplus _ _)⟩
            · go_wp2_with (go_at_call 60; refine (l1In_c _ _ _ _).mono ?_; rintro e w' ⟨rfl, rfl⟩)
              go_ret
              exact ⟨ret_bool (by rw [HS.out _ _ HR.out rfl, HE.out]; clear HS HE; first | (simp [*]; done) | (simp [*]; exact len_beq _)), G.out.trans (Grow.wplus _ _)⟩
          · go_wp2_with (go_at_call 60; refine (l1In_c _ _ _ _).mono ?_; rintro e w' ⟨rfl, rfl⟩)
            go_ret
            exact ⟨ret_bool (by rw [HS.out _ _ HR.out rfl, HE.out]; clear HS HE; first | (simp [*]; done) | (simp [*]; exact len_beq _)), G.out.trans (Grow.wplus _ _)⟩
        · go_wp2_with (go_at_call 60; refine (l1In_c _ _ _ _).mono ?_; rintro e w' ⟨rfl, rfl⟩)
          go_ret
          exact ⟨ret_bool (by rw [HS.out _ _ HR.out rfl, HE.out]; clear HS HE; first | (simp [*]; done) | (simp [*]; exact len_beq _)), G.out.trans (Grow.wplus _ _)⟩
      · rcases w1 : inB 0 a.want 10
        · go_wp2_with (go_at_call 60; refine (l1In_c _ _ _ _).mono ?_; rintro e w' ⟨rfl, rfl⟩)
          go_ret
          exact ⟨ret_bool (by rw [HS.out _ _ HR.out rfl, HE.out]; clear HS HE; first | (simp [*]; done) | (simp [*]; exact len_beq _)), G.out.trans (Grow.wplus _ _)⟩
        · rcases c1 : inB 0 a.cool 3
          · go_wp2_with (go_at_call 60; refine (l1In_c _ _ _ _).mono ?_; rintro e w' ⟨rfl, rfl⟩)
            go_ret
            exact ⟨ret_bool (by rw [HS.out _ _ HR.out rfl, HE.out]; clear HS HE; first | (simp [*]; done) | (simp [*]; exact len_beq _)), G.out.trans (Grow.wplus _ _)⟩
          · by_cases k0 : a.create = 0
            · go_wp2_with (go_at_call 60; refine (l1In_c _ _ _ _).mono ?_; rintro e w' ⟨rfl, rfl⟩)
              go_ret
              exact ⟨ret_bool (by rw [HS.out _ _ HR.out rfl, HE.out]; clear HS HE; first | (simp [*]; done) | (simp [*]; exact len_beq _)), G.out.trans (Grow.wplus _ _)⟩
            · go_wp2_with (go_at_call 60; refine (l1In_c _ _ _ _).mono ?_; rintro e w' ⟨rfl, rfl⟩)
              go_ret
              exact ⟨ret_bool (by rw [HS.out _ _ HR.out rfl, HE.out]; clear HS HE; first | (simp [*]; done) | (simp [*]; exact len_beq _)), G.out.trans (Grow.wplus _ _)⟩

set_option maxRecDepth 100000 in
set_option maxHeartbeats 4000000 in
theorem formed_c (a : SAct) {A : Option Addr} {c : Nat} (w : World) (h : Rows 2 endC w A a.ends) (hl : a.ends.length ≤ 2000000) :
    Calls Try.prog 135 #[.agg #[.string a.service, .int .i64 a.version, .int .i64 a.create, .int .i64 a.want, .int .i64 a.cool, .bool a.scale, .slice A a.ends.length c, .bool a.drop]] w fun e w' => e = .returned (.bool (formedB a)) ∧ Grow w w' := by
  have R1 := Lib.hid (fun (w' : World) (hg : Grow w w') => h.below hg)
  clear h
  have l0 : (0 : Int) ≤ (a.ends.length : Int) := Int.natCast_nonneg _
  rcases h1 : inB 0 a.create 20
  · have HR := Lib.hid (show formedB a = false by simp [formedB, h1])
    go_enter Try.func135, Try.ntmps135
    go_wp2_with (go_at_call 68; refine (within_c _ _ _ _).mono ?_; rintro e w' ⟨rfl, rfl⟩)
    go_ret
    exact ⟨ret_bool HR.out.symm, (Grow.refl _).alloc _⟩
  by_cases h2 : 200 < (a.ends.length : Int)
  · have HR := Lib.hid (show formedB a = false by have : ¬ a.ends.length ≤ 200 := by omega
                                                  simp [formedB, this])
    go_enter Try.func135, Try.ntmps135
    go_wp2_with (go_at_call 68; refine (within_c _ _ _ _).mono ?_; rintro e w' ⟨rfl, rfl⟩)
    go_ret
    exact ⟨ret_bool HR.out.symm, (Grow.refl _).alloc _⟩
  have HS := Lib.hid (fun (r t : Bool) => formed_split (a := a) (r := r) (t := t) h1 (by omega))
  go_enter Try.func135, Try.ntmps135
  go_wp2_with (go_at_call 68; refine (within_c _ _ _ _).mono ?_; rintro e w' ⟨rfl, rfl⟩)
  refine rebase ?_
  intro W hW
  have G := Lib.hid (show Grow w W by rw [hW.out]; exact (Grow.refl _).alloc _)
  have fb := blk_p (show W.heap[w.heap.size]? = _ by rw [hW.out]; exact heap_alloc_new _ _)
  have fb1 := fb 1
  have fb2 := fb 2
  have fb3 := fb 3
  have fb4 := fb 4
  have fb5 := fb 5
  have fb6 := fb 6
  have fb7 := fb 7
  clear fb hW
  go_loopw [3] (fun i wr => ∃ (k : Nat) (y : Ext), 1 ≤ k ∧ i = .int .i64 k ∧ (k ≤ a.ends.length ∨ k = 1) ∧ wr = wplus W y ∧ Hid (risesB none a.ends = risesB (prev a.ends k) (a.ends.drop k))) (fun i _ => a.ends.length - (intOf i).toNat)
  case atStart => exact ⟨1, _, Nat.le_refl _, rfl, Or.inr rfl, rfl, by unfold Hid; cases a.ends with | nil => rfl | cons x xs => rfl⟩
  case round =>
    obtain ⟨k, y, hk, rfl, hk2, rfl, hi⟩ := hrel
    by_cases hlt : k < a.ends.length
    · obtain ⟨x, hx⟩ := ex_at hlt
      obtain ⟨q, hq⟩ : ∃ q, a.ends[k - 1]? = some q := ex_at (by omega)
      obtain ⟨bb, o, hA, hbb, f0, f1⟩ := end_p (R1.out _ G.out) hx
      obtain ⟨bb', o', hA', hbb', g0, g1⟩ := end_p (R1.out _ G.out) hq
      rw [hA] at hA'
      simp only [Option.some.injEq, Addr.mk.injEq] at hA'
      obtain ⟨rfl, rfl, -⟩ := hA'
      subst hA
      have hd := Lib.hid (rises_prev (drop_at hx) (prev a.ends k))
      have HP := Lib.hid (show prev a.ends k = some q by cases k with | zero => omega | succ j => exact hq)
      have HN := Lib.hid (show prev a.ends (k + 1) = some x from hx)
      clear hx hq
      have t2 : (0 : Int) ≤ (k : Int) := Int.natCast_nonneg _
      have t3 : (k : Int) < (a.ends.length : Int) := by omega
      have t7 : (0 : Int) ≤ (k : Int) - 1 := by omega
      have t8 : ((k : Int) - 1).toNat = k - 1 := by omega
      rcases hlt2 : decide (q.number < x.number)
      all_goals
        have HD := Lib.hid hlt2
        go_wp2
        refine region_quiet ⟨_, rfl⟩ (by kernel_rfl) (by kernel_rfl) ?_
        repeat (first | go_big_quiet_step (fail) | quiet_step (fail))
        refine wpQuiet_nil ?_
        rintro w2 ⟨y2, rfl⟩
        simp only [decide_eq_false_iff_not, decide_eq_true_eq] at hlt2
        go_wp2
      · go_ret
        exact ⟨ret_bool (by rw [HS.out _ _ hi.out rfl, hd.out, HP.out]; dsimp only; rw [HD.out]; rfl), G.out.trans (Grow.wplus _ _)⟩
      · go_roundw
        case rel => exact ⟨k + 1, _, by omega, by go_num, Or.inl (by omega), rfl, by unfold Hid; rw [hi.out, hd.out, HP.out, HN.out]; dsimp only; rw [HD.out]; rfl⟩
        case measure => simp [intOf]; omega
    · have HR := Lib.hid (show risesB none a.ends = true by rw [hi.out, List.drop_eq_nil_of_le (by omega)]; cases prev a.ends k <;> rfl)
      have t3 : ¬ (k : Int) < (a.ends.length : Int) := by omega
      clear hi
      have HE := Lib.hid (show a.ends.isEmpty = decide ((a.ends.length : Int) = 0) by cases a.ends with | nil => rfl | cons x xs => rw [decide_eq_false (by simp; omega)]; rfl)
      rcases hd : a.drop <;> rcases hs : a.scale
      all_goals
        simp only [hd] at fb7
        simp only [hs] at fb5
      · by_cases w0 : a.want = 0
        · by_cases c0 : a.cool = 0
          · go_wp2_with (go_at_call 68; refine (within_c _ _ _ _).mono ?_; rintro e w' ⟨rfl, rfl⟩)
            go_ret
            exact ⟨ret_bool (by rw [HS.out _ _ HR.out rfl, HE.out]; clear HS HE; first | (simp [*]; done) | (simp [*]; exact len_beq _)), G.out.trans (Grow.wplus _ _)⟩
          · go_wp2_with (go_at_call 68; refine (within_c _ _ _ _).mono ?_; rintro e w' ⟨rfl, rfl⟩)
            go_ret
            exact ⟨ret_bool (by rw [HS.out _ _ HR.out rfl, HE.out]; clear HS HE; first | (simp [*]; done) | (simp [*]; exact len_beq _)), G.out.trans (Grow.wplus _ _)⟩
        · go_wp2_with (go_at_call 68; refine (within_c _ _ _ _).mono ?_; rintro e w' ⟨rfl, rfl⟩)
          go_ret
          exact ⟨ret_bool (by rw [HS.out _ _ HR.out rfl, HE.out]; clear HS HE; first | (simp [*]; done) | (simp [*]; exact len_beq _)), G.out.trans (Grow.wplus _ _)⟩
      · rcases w1 : inB 0 a.want 10
        · go_wp2_with (go_at_call 68; refine (within_c _ _ _ _).mono ?_; rintro e w' ⟨rfl, rfl⟩)
          go_ret
          exact ⟨ret_bool (by rw [HS.out _ _ HR.out rfl, HE.out]; clear HS HE; first | (simp [*]; done) | (simp [*]; exact len_beq _)), G.out.trans (Grow.wplus _ _)⟩
        · rcases c1 : inB 0 a.cool 3
          · go_wp2_with (go_at_call 68; refine (within_c _ _ _ _).mono ?_; rintro e w' ⟨rfl, rfl⟩)
            go_ret
            exact ⟨ret_bool (by rw [HS.out _ _ HR.out rfl, HE.out]; clear HS HE; first | (simp [*]; done) | (simp [*]; exact len_beq _)), G.out.trans (Grow.wplus _ _)⟩
          · go_wp2_with (go_at_call 68; refine (within_c _ _ _ _).mono ?_; rintro e w' ⟨rfl, rfl⟩)
            go_ret
            exact ⟨ret_bool (by rw [HS.out _ _ HR.out rfl, HE.out]; clear HS HE; first | (simp [*]; done) | (simp [*]; exact len_beq _)), G.out.trans (Grow.wplus _ _)⟩
      · by_cases w0 : a.want = 0
        · by_cases c0 : a.cool = 0
          · by_cases k0 : a.create = 0
            · by_cases e0 : (a.ends.length : Int) = 0
              · go_wp2_with (go_at_call 68; refine (within_c _ _ _ _).mono ?_; rintro e w' ⟨rfl, rfl⟩)
                go_ret
                exact ⟨ret_bool (by rw [HS.out _ _ HR.out rfl, HE.out]; clear HS HE; first | (simp [*]; done) | (simp [*]; exact len_beq _)), G.out.trans (Grow.wplus _ _)⟩
              · go_wp2_with (go_at_call 68; refine (within_c _ _ _ _).mono ?_; rintro e w' ⟨rfl, rfl⟩)
                go_ret
                exact ⟨ret_bool (by rw [HS.out _ _ HR.out rfl, HE.out]; clear HS HE; first | (simp [*]; done) | (simp [*]; exact len_beq _)), G.out.trans (Grow.wplus _ _)⟩
            · go_wp2_with (go_at_call 68; refine (within_c _ _ _ _).mono ?_; rintro e w' ⟨rfl, rfl⟩)
              go_ret
              exact ⟨ret_bool (by rw [HS.out _ _ HR.out rfl, HE.out]; clear HS HE; first | (simp [*]; done) | (simp [*]; exact len_beq _)), G.out.trans (Grow.wplus _ _)⟩
          · go_wp2_with (go_at_call 68; refine (within_c _ _ _ _).mono ?_; rintro e w' ⟨rfl, rfl⟩)
            go_ret
            exact ⟨ret_bool (by rw [HS.out _ _ HR.out rfl, HE.out]; clear HS HE; first | (simp [*]; done) | (simp [*]; exact len_beq _)), G.out.trans (Grow.wplus _ _)⟩
        · go_wp2_with (go_at_call 68; refine (within_c _ _ _ _).mono ?_; rintro e w' ⟨rfl, rfl⟩)
          go_ret
          exact ⟨ret_bool (by rw [HS.out _ _ HR.out rfl, HE.out]; clear HS HE; first | (simp [*]; done) | (simp [*]; exact len_beq _)), G.out.trans (Grow.wplus _ _)⟩
      · rcases w1 : inB 0 a.want 10
        · go_wp2_with (go_at_call 68; refine (within_c _ _ _ _).mono ?_; rintro e w' ⟨rfl, rfl⟩)
          go_ret
          exact ⟨ret_bool (by rw [HS.out _ _ HR.out rfl, HE.out]; clear HS HE; first | (simp [*]; done) | (simp [*]; exact len_beq _)), G.out.trans (Grow.wplus _ _)⟩
        · rcases c1 : inB 0 a.cool 3
          · go_wp2_with (go_at_call 68; refine (within_c _ _ _ _).mono ?_; rintro e w' ⟨rfl, rfl⟩)
            go_ret
            exact ⟨ret_bool (by rw [HS.out _ _ HR.out rfl, HE.out]; clear HS HE; first | (simp [*]; done) | (simp [*]; exact len_beq _)), G.out.trans (Grow.wplus _ _)⟩
          · by_cases k0 : a.create = 0
            · go_wp2_with (go_at_call 68; refine (within_c _ _ _ _).mono ?_; rintro e w' ⟨rfl, rfl⟩)
              go_ret
              exact ⟨ret_bool (by rw [HS.out _ _ HR.out rfl, HE.out]; clear HS HE; first | (simp [*]; done) | (simp [*]; exact len_beq _)), G.out.trans (Grow.wplus _ _)⟩
            · go_wp2_with (go_at_call 68; refine (within_c _ _ _ _).mono ?_; rintro e w' ⟨rfl, rfl⟩)
              go_ret
              exact ⟨ret_bool (by rw [HS.out _ _ HR.out rfl, HE.out]; clear HS HE; first | (simp [*]; done) | (simp [*]; exact len_beq _)), G.out.trans (Grow.wplus _ _)⟩

end Go.Proofs.Ytnmknkdbeccmhaa
namespace Go.Proofs.Ytnmknkdbeccmhaa
open Go.RowKit
set_option linter.unusedSimpArgs false
set_option linter.unusedVariables false

/-- A book as a value whose rows read. -/
def BookIn (w : World) (v : Value) (b : Book) : Prop := ∃ A1 c1 A2 c2 A3 c3, v = .agg #[.int .i64 b.now, .slice A1 b.svcs.length c1, .slice A2 b.cps.length c2, .slice A3 b.brs.length c3] ∧ Rows 13 svcC w A1 b.svcs ∧ Rows 7 cpyC w A2 b.cps ∧ Rows 2 brtC w A3 b.brs
def Applied (r : Book × Int) (w : World) (e : Ending) (w' : World) : Prop := ∃ v, e = .returned (.tuple #[v, .int .i64 r.2]) ∧ BookIn w' v r.1 ∧ Grow w w'
theorem frz_p {w : World} {g : Nat} {cs : Array Value} {t : TypeId} (h : w.heap[g]? = some (.cells cs t (0, 0))) (i : Nat) (hi : i < cs.size) (y : Ext) : (wplus w y).frozen? ⟨g, i, none⟩ = false := by
  have := blk_grow h (Grow.wplus w y)
  simp [World.frozen?, this]
theorem endOne_set {b : Book} {t : Int} {j : Nat} {c : Cpy} (h : b.cps[j]? = some c) : endOne b t j = ⟨b.now, b.svcs, (b.cps.set j { c with ending := true }).set j { c with ending := true, version := t }, b.brs⟩ := by
  unfold endOne
  congr 1
  apply List.ext_getElem?
  intro i
  have hl : j < b.cps.length := (List.getElem?_eq_some_iff.1 h).1
  rw [List.getElem?_modify, List.set_set, List.getElem?_set]
  by_cases e : j = i
  · subst e; rw [h]; simp [hl]
  · simp [e]
theorem mayEnd_some {b : Book} {nm : ByteArray} {n : Int} (h : mayEndV b nm n = true) : ∃ j c, cpyAt b.cps nm n = some j ∧ b.cps[j]? = some c := by
  unfold mayEndV cpyGet at h
  rcases hq : cpyAt b.cps nm n with _ | j
  · rw [hq] at h; simp at h
  · obtain ⟨c, hc, -⟩ := cpyAt_some hq
    exact ⟨j, c, rfl, hc⟩
theorem l3MayEnd_n (b : Book) {A1 A2 A3 : Option Addr} {n1 n2 n3 c1 c2 c3 : Nat} {t : Int} (nm : ByteArray) (n : Int) (r : Bool) (w : World) (hf : Fit b) (ht : t = b.now) (e1 : n1 = b.svcs.length) (e2 : n2 = b.cps.length) (h1 : Rows 13 svcC w A1 b.svcs) (h2 : Rows 7 cpyC w A2 b.cps) (hr : mayEndV b nm n = r) :
    Calls Try.prog 81 #[.agg #[.int .i64 t, .slice A1 n1 c1, .slice A2 n2 c2, .slice A3 n3 c3], .string nm, .int .i64 n] w fun e w' => e = .returned (.bool r) ∧ Grow w w' := by
  subst ht e1 e2 hr; exact l3MayEnd_c b nm n w hf h1 h2
theorem l1Copy_n (b : Book) {A1 A2 A3 : Option Addr} {n1 n2 n3 c1 c2 c3 : Nat} {t : Int} (nm : ByteArray) (n : Int) (w : World) (r : Int) (ht : t = b.now) (e2 : n2 = b.cps.length) (h : Rows 7 cpyC w A2 b.cps) (hl : b.cps.length ≤ 2000000) (hr : idxI (cpyAt b.cps nm n) = r) :
    Calls Try.prog 129 #[.agg #[.int .i64 t, .slice A1 n1 c1, .slice A2 n2 c2, .slice A3 n3 c3], .string nm, .int .i64 n] w fun e w' => e = .returned (.int .i64 r) ∧ Grow w w' := by
  subst ht e2 hr; exact l1Copy_c b nm n w h hl
theorem there_at {cps : List Cpy} {nm : ByteArray} {es : List SEnd} (h : endsThere cps nm es = true) {k : Nat} {x : SEnd} (hx : es[k]? = some x) : ∃ j, cpyAt cps nm x.number = some j :=
  Option.isSome_iff_exists.1 (List.all_eq_true.1 h x (List.mem_of_getElem? hx))
end Go.Proofs.Ytnmknkdbeccmhaa
namespace Go.Proofs.Ytnmknkdbeccmhaa
open Go.RowKit
set_option linter.unusedSimpArgs false
set_option linter.unusedVariables false
theorem l2Count_n (b : Book) {A1 A2 A3 : Option Addr} {n1 n2 n3 c1 c2 c3 : Nat} {t : Int} (nm : ByteArray) {i : Nat} {s : Svc} {ct : Cnt} (w : World) (ht : t = b.now) (e1 : n1 = b.svcs.length) (e2 : n2 = b.cps.length) (h1 : Rows 13 svcC w A1 b.svcs) (hl1 : b.svcs.length ≤ 2000000) (h : Rows 7 cpyC w A2 b.cps) (hl : b.cps.length ≤ 2000000) (hq : svcAt b.svcs nm = some i) (hs : b.svcs[i]? = some s) (hc : cntOf b.cps nm s.image = ct) :
    Calls Try.prog 79 #[.agg #[.int .i64 t, .slice A1 n1 c1, .slice A2 n2 c2, .slice A3 n3 c3], .string nm] w fun e w' => e = .returned (.agg #[.int .i64 ct.live, .int .i64 ct.serving, .int .i64 ct.old, .int .i64 ct.failed, .int .i64 ct.ending]) ∧ Grow w w' := by
  subst ht e1 e2 hc; exact l2Count_some b nm w h1 hl1 h hl hq hs
theorem run_cnt0 (a b c d e : Value) (w : World) : (Instr.field 50 (.agg #[a, b, c, d, e]) 0).run Try.prog w = .ok a w := by kernel_rfl
theorem formed_create {a : SAct} (h : formedB a = true) : 0 ≤ a.create ∧ a.create ≤ 20 := by
  unfold formedB at h
  simp only [Bool.and_eq_true, inB, decide_eq_true_eq] at h
  exact h.1.1
theorem scaled_want {b : Book} {a : SAct} {s : Svc} {i : Nat} (hf : Fit b) (h : formedB a = true) (hs : b.svcs[i]? = some s) : 0 ≤ (scaled a s).want ∧ (scaled a s).want ≤ 10 := by
  obtain ⟨-, -, -, -, -, -, h1, h2, -⟩ := hf.num s (List.mem_of_getElem? hs)
  unfold formedB at h
  unfold scaled
  cases hc : a.scale
  · exact ⟨h1, h2⟩
  · simp only [hc, Bool.and_eq_true, inB, decide_eq_true_eq, if_true] at h
    exact h.2.2.1.1
/-- What lies in memory from region 32 on: the arguments, the result's place, the copied book, the service in a box of its own. -/
structure L4St (b : Book) (cps : List Cpy) (a : SAct) (A1 A2 A3 Ae B2 B3 : Option Addr) (c1 c2 c3 ne ce n2 e1 e2 e3 gb ga gr g gs g1 base : Nat) (sv : Array Value) (w U : World) : Prop where
  G : Grow w U
  o1 : w.heap.size ≤ gb
  o2 : gb < ga
  o3 : ga < gr
  o4 : gr < base
  o5 : base ≤ g
  o6 : g < gs
  k1 : g1 ≠ gs
  k2 : (Value.slice B2 n2 e2).ownBlock ≠ some gs
  k3 : (Value.slice B3 b.brs.length e3).ownBlock ≠ some gs
  X1 : U.heap[gb]? = some (.cells #[.int .i64 b.now, .slice A1 b.svcs.length c1, .slice A2 b.cps.length c2, .slice A3 b.brs.length c3] 34 (0, 0))
  X2 : U.heap[ga]? = some (.cells #[.string a.service, .int .i64 a.version, .int .i64 a.create, .int .i64 a.want, .int .i64 a.cool, .bool a.scale, .slice Ae ne ce, .bool a.drop] 77 (0, 0))
  X3 : U.heap[gr]? = some (.cells #[.int .i64 0, .slice none 0 0, .slice none 0 0, .slice none 0 0] 34 (0, 0))
  XS : U.heap[gs]? = some (.cells sv 83 (0, 0))
  M : Mine base g U (.slice (some ⟨g1, 0, none⟩) b.svcs.length e1) (.slice B2 n2 e2) (.slice B3 b.brs.length e3) ⟨b.now, b.svcs, cps, b.brs⟩
section
variable {b : Book} {cps : List Cpy} {a : SAct} {A1 A2 A3 Ae B2 B3 : Option Addr} {c1 c2 c3 ne ce n2 e1 e2 e3 : Nat} {gb ga gr g gs g1 base : Nat} {sv sv' : Array Value} {w U V : World}
theorem L4St.grow (h : L4St b cps a A1 A2 A3 Ae B2 B3 c1 c2 c3 ne ce n2 e1 e2 e3 gb ga gr g gs g1 base sv w U) (k : Grow U V) : L4St b cps a A1 A2 A3 Ae B2 B3 c1 c2 c3 ne ce n2 e1 e2 e3 gb ga gr g gs g1 base sv w V :=
  ⟨h.G.trans k, h.o1, h.o2, h.o3, h.o4, h.o5, h.o6, h.k1, h.k2, h.k3, blk_grow h.X1 k, blk_grow h.X2 k, blk_grow h.X3 k, blk_grow h.XS k, h.M.grow k⟩
theorem L4St.keep (h : L4St b cps a A1 A2 A3 Ae B2 B3 c1 c2 c3 ne ce n2 e1 e2 e3 gb ga gr g gs g1 base sv w U) (k : Keep gs U V) (hs : V.heap[gs]? = some (.cells sv' 83 (0, 0))) : L4St b cps a A1 A2 A3 Ae B2 B3 c1 c2 c3 ne ce n2 e1 e2 e3 gb ga gr g gs g1 base sv' w V := by
  have q1 := h.o1
  have q2 := h.o2
  have q3 := h.o3
  have q4 := h.o4
  have q5 := h.o5
  have q6 := h.o6
  have q7 := h.k1
  exact ⟨Keep.grow k h.G (by omega), h.o1, h.o2, h.o3, h.o4, h.o5, h.o6, h.k1, h.k2, h.k3, Keep.blk k h.X1 (by omega), Keep.blk k h.X2 (by omega), Keep.blk k h.X3 (by omega), hs, h.M.other k (by omega) (by simp [Value.ownBlock]; omega) h.k2 h.k3⟩
end
noncomputable def l4t32 : Code := tailOf Try.f98 32
noncomputable def l4t35 : Code := restOf l4t32
noncomputable def l4t37 : Code := restOf l4t35
noncomputable def l4t39 : Code := restOf l4t37
noncomputable def l4t41 : Code := restOf l4t39
noncomputable def l4s32 : Code := headOf l4t32
noncomputable def l4s35 : Code := headOf l4t35
noncomputable def l4s37 : Code := headOf l4t37
noncomputable def l4s39 : Code := headOf l4t39

end Go.Proofs.Ytnmknkdbeccmhaa
