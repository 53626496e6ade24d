/- The walks of the laws' tests on equal plain data: of one and the same they say true. -/
import Derived.Test.YtnmknkdbeccmhaaB0
namespace Go.Proofs.Ytnmknkdbeccmhaa
open Go.RowKit
set_option linter.unusedSimpArgs false

set_option maxRecDepth 100000 in
set_option maxHeartbeats 2000000 in
theorem eqStewService_c (s : Svc) (w : World) : Calls Try.prog 126 #[.agg #[.string s.name, .int .i64 s.version, .bool s.gone, .int .i64 s.image, .int .i64 s.want, .int .i64 s.down, .int .i64 s.over, .int .i64 s.next, .int .i64 s.per, .int .i64 s.least, .int .i64 s.most, .int .i64 s.load, .int .i64 s.cool], .agg #[.string s.name, .int .i64 s.version, .bool s.gone, .int .i64 s.image, .int .i64 s.want, .int .i64 s.down, .int .i64 s.over, .int .i64 s.next, .int .i64 s.per, .int .i64 s.least, .int .i64 s.most, .int .i64 s.load, .int .i64 s.cool]] w fun e w' => e = .returned (.bool true) ∧ Grow w w' := by
  go_enter Try.func126, Try.ntmps126
  go_wp2
  go_ret
  exact ⟨rfl, ((Grow.refl _).alloc _).alloc _⟩
set_option maxRecDepth 100000 in
set_option maxHeartbeats 4000000 in
theorem eqStewServiceS_c (xs : List Svc) {A B : Option Addr} {c c' : Nat} (hn : xs.length ≤ 2000000) (w : World) (h : Rows 13 svcC w A xs) (h' : Rows 13 svcC w B xs) :
    Calls Try.prog 73 #[.slice A xs.length c, .slice B xs.length c'] w fun e w' => e = .returned (.bool true) ∧ Grow w w' := by
  have R := Lib.hid h
  have R' := Lib.hid h'
  clear h h'
  go_enter Try.func73, Try.ntmps73
  go_wp2
  refine rebase ?_
  intro W hW
  obtain rfl := hW.out
  go_loopw [5] (fun i wr => ∃ (k : Nat) (y : Ext), k ≤ xs.length ∧ i = .int .i64 k ∧ wr = wplus W y) (fun i _ => xs.length - (intOf i).toNat)
  case atStart => exact ⟨0, _, Nat.zero_le _, rfl, rfl⟩
  case round =>
    obtain ⟨k, y, hk, rfl, rfl⟩ := hrel
    by_cases hlt : k < xs.length
    · obtain ⟨x, hx⟩ := ex_at hlt
      obtain ⟨b1, o1, rfl, hb1, f0, f1, f2, f3, f4, f5, f6, f7, f8, f9, f10, f11, f12⟩ := svc_p R.out hx
      obtain ⟨b2, o2, rfl, hb2, g0, g1, g2, g3, g4, g5, g6, g7, g8, g9, g10, g11, g12⟩ := svc_p R'.out hx
      clear hx
      have t2 : (0 : Int) ≤ (k : Int) := Int.natCast_nonneg _
      have t3 : (k : Int) < (xs.length : Int) := by omega
      go_wp2
      refine region_quiet ⟨_, rfl⟩ (by kernel_rfl) (by kernel_rfl) ?_
      repeat (go_big_quiet_step ((go_at_call 126; exact quiet_grow (eqStewService_c x _))))
      refine wpQuiet_nil ?_
      rintro w2 ⟨y2, rfl⟩
      go_wp2
      go_roundw
      case rel => exact ⟨k + 1, _, by omega, by go_num, rfl⟩
      case measure => simp [intOf]; omega
    · obtain rfl : k = xs.length := by omega
      go_wp2
      go_ret
      exact ⟨rfl, Grow.wplus _ _⟩

set_option maxRecDepth 100000 in
set_option maxHeartbeats 2000000 in
theorem eqStewCopy_c (s : Cpy) (w : World) : Calls Try.prog 127 #[.agg #[.string s.service, .int .i64 s.number, .int .i64 s.version, .int .i64 s.image, .int .i64 s.state, .bool s.ending, .string s.berth], .agg #[.string s.service, .int .i64 s.number, .int .i64 s.version, .int .i64 s.image, .int .i64 s.state, .bool s.ending, .string s.berth]] w fun e w' => e = .returned (.bool true) ∧ Grow w w' := by
  go_enter Try.func127, Try.ntmps127
  go_wp2
  go_ret
  exact ⟨rfl, ((Grow.refl _).alloc _).alloc _⟩
set_option maxRecDepth 100000 in
set_option maxHeartbeats 4000000 in
theorem eqStewCopyS_c (xs : List Cpy) {A B : Option Addr} {c c' : Nat} (hn : xs.length ≤ 2000000) (w : World) (h : Rows 7 cpyC w A xs) (h' : Rows 7 cpyC w B xs) :
    Calls Try.prog 74 #[.slice A xs.length c, .slice B xs.length c'] w fun e w' => e = .returned (.bool true) ∧ Grow w w' := by
  have R := Lib.hid h
  have R' := Lib.hid h'
  clear h h'
  go_enter Try.func74, Try.ntmps74
  go_wp2
  refine rebase ?_
  intro W hW
  obtain rfl := hW.out
  go_loopw [5] (fun i wr => ∃ (k : Nat) (y : Ext), k ≤ xs.length ∧ i = .int .i64 k ∧ wr = wplus W y) (fun i _ => xs.length - (intOf i).toNat)
  case atStart => exact ⟨0, _, Nat.zero_le _, rfl, rfl⟩
  case round =>
    obtain ⟨k, y, hk, rfl, rfl⟩ := hrel
    by_cases hlt : k < xs.length
    · obtain ⟨x, hx⟩ := ex_at hlt
      obtain ⟨b1, o1, rfl, hb1, f0, f1, f2, f3, f4, f5, f6⟩ := cpy_p R.out hx
      obtain ⟨b2, o2, rfl, hb2, g0, g1, g2, g3, g4, g5, g6⟩ := cpy_p R'.out hx
      clear hx
      have t2 : (0 : Int) ≤ (k : Int) := Int.natCast_nonneg _
      have t3 : (k : Int) < (xs.length : Int) := by omega
      go_wp2
      refine region_quiet ⟨_, rfl⟩ (by kernel_rfl) (by kernel_rfl) ?_
      repeat (go_big_quiet_step ((go_at_call 127; exact quiet_grow (eqStewCopy_c x _))))
      refine wpQuiet_nil ?_
      rintro w2 ⟨y2, rfl⟩
      go_wp2
      go_roundw
      case rel => exact ⟨k + 1, _, by omega, by go_num, rfl⟩
      case measure => simp [intOf]; omega
    · obtain rfl : k = xs.length := by omega
      go_wp2
      go_ret
      exact ⟨rfl, Grow.wplus _ _⟩

set_option maxRecDepth 100000 in
set_option maxHeartbeats 2000000 in
theorem eqStewBerth_c (s : Brt) (w : World) : Calls Try.prog 128 #[.agg #[.string s.name, .bool s.drain], .agg #[.string s.name, .bool s.drain]] w fun e w' => e = .returned (.bool true) ∧ Grow w w' := by
  go_enter Try.func128, Try.ntmps128
  go_wp2
  go_ret
  exact ⟨rfl, ((Grow.refl _).alloc _).alloc _⟩
set_option maxRecDepth 100000 in
set_option maxHeartbeats 4000000 in
theorem eqStewBerthS_c (xs : List Brt) {A B : Option Addr} {c c' : Nat} (hn : xs.length ≤ 2000000) (w : World) (h : Rows 2 brtC w A xs) (h' : Rows 2 brtC w B xs) :
    Calls Try.prog 75 #[.slice A xs.length c, .slice B xs.length c'] w fun e w' => e = .returned (.bool true) ∧ Grow w w' := by
  have R := Lib.hid h
  have R' := Lib.hid h'
  clear h h'
  go_enter Try.func75, Try.ntmps75
  go_wp2
  refine rebase ?_
  intro W hW
  obtain rfl := hW.out
  go_loopw [5] (fun i wr => ∃ (k : Nat) (y : Ext), k ≤ xs.length ∧ i = .int .i64 k ∧ wr = wplus W y) (fun i _ => xs.length - (intOf i).toNat)
  case atStart => exact ⟨0, _, Nat.zero_le _, rfl, rfl⟩
  case round =>
    obtain ⟨k, y, hk, rfl, rfl⟩ := hrel
    by_cases hlt : k < xs.length
    · obtain ⟨x, hx⟩ := ex_at hlt
      obtain ⟨b1, o1, rfl, hb1, f0, f1⟩ := brt_p R.out hx
      obtain ⟨b2, o2, rfl, hb2, g0, g1⟩ := brt_p R'.out hx
      clear hx
      have t2 : (0 : Int) ≤ (k : Int) := Int.natCast_nonneg _
      have t3 : (k : Int) < (xs.length : Int) := by omega
      go_wp2
      refine region_quiet ⟨_, rfl⟩ (by kernel_rfl) (by kernel_rfl) ?_
      repeat (go_big_quiet_step ((go_at_call 128; exact quiet_grow (eqStewBerth_c x _))))
      refine wpQuiet_nil ?_
      rintro w2 ⟨y2, rfl⟩
      go_wp2
      go_roundw
      case rel => exact ⟨k + 1, _, by omega, by go_num, rfl⟩
      case measure => simp [intOf]; omega
    · obtain rfl : k = xs.length := by omega
      go_wp2
      go_ret
      exact ⟨rfl, Grow.wplus _ _⟩

set_option maxRecDepth 100000 in
set_option maxHeartbeats 4000000 in
theorem eqStewBook_c (b : Book) {A1 A2 A3 B1 B2 B3 : Option Addr} {c1 c2 c3 d1 d2 d3 : Nat} (w : World) (h1 : Rows 13 svcC w A1 b.svcs) (h2 : Rows 7 cpyC w A2 b.cps) (h3 : Rows 2 brtC w A3 b.brs)
    (k1 : Rows 13 svcC w B1 b.svcs) (k2 : Rows 7 cpyC w B2 b.cps) (k3 : Rows 2 brtC w B3 b.brs) (l1 : b.svcs.length ≤ 2000000) (l2 : b.cps.length ≤ 2000000) (l3 : b.brs.length ≤ 2000000) :
    Calls Try.prog 19 #[.agg #[.int .i64 b.now, .slice A1 b.svcs.length c1, .slice A2 b.cps.length c2, .slice A3 b.brs.length c3], .agg #[.int .i64 b.now, .slice B1 b.svcs.length d1, .slice B2 b.cps.length d2, .slice B3 b.brs.length d3]] w fun e w' => e = .returned (.bool true) ∧ Grow w w' := by
  have H1 := Lib.hid h1
  have H2 := Lib.hid h2
  have H3 := Lib.hid h3
  have K1 := Lib.hid k1
  have K2 := Lib.hid k2
  have K3 := Lib.hid k3
  clear h1 h2 h3 k1 k2 k3
  have G0 := Lib.hid (fun (o o' : Obj) => ((Grow.refl w).alloc o).alloc o')
  go_enter Try.func19, Try.ntmps19
  go_wp2_with (first
    | (go_at_call 73; refine (eqStewServiceS_c b.svcs l1 _ (H1.out.below (G0.out _ _)) (K1.out.below (G0.out _ _))).mono ?_; rintro e w1 ⟨rfl, hg1⟩; have e1 := (hg1.block w.heap.size (by simp; omega)).trans (heap_alloc2 w _ _); have e2 := (hg1.block (w.heap.size + 1) (by simp)).trans (heap_alloc2_new w _ _); have e12 := cell_of_row w1 _ 2 _ _ _ e1; have e22 := cell_of_row w1 _ 2 _ _ _ e2)
    | (go_at_call 74; refine (eqStewCopyS_c b.cps l2 _ (H2.out.below ((G0.out _ _).trans hg1)) (K2.out.below ((G0.out _ _).trans hg1))).mono ?_; rintro e w2 ⟨rfl, hg2⟩; have e13 := cell_of_row w2 _ 3 _ _ _ ((hg2.block _ (Array.getElem?_eq_some_iff.1 e1).1).trans e1); have e23 := cell_of_row w2 _ 3 _ _ _ ((hg2.block _ (Array.getElem?_eq_some_iff.1 e2).1).trans e2))
    | (go_at_call 75; refine (eqStewBerthS_c b.brs l3 _ (H3.out.below (((G0.out _ _).trans hg1).trans hg2)) (K3.out.below (((G0.out _ _).trans hg1).trans hg2))).mono ?_; rintro e w3 ⟨rfl, hg3⟩))
  go_ret
  exact ⟨rfl, (((G0.out _ _).trans hg1).trans hg2).trans hg3⟩
end Go.Proofs.Ytnmknkdbeccmhaa
