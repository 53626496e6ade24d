/- The walks of what a load asks for, of drained berths, of a service's live copies. -/
import Derived.Test.YtnmknkdbeccmhaaB15
import Derived.Test.YtnmknkdbeccmhaaM8
import Derived.Laws.OwnMore
namespace Go.Proofs.Ytnmknkdbeccmhaa
open Go.RowKit
set_option linter.unusedSimpArgs false
set_option linter.unusedVariables false

theorem dsr_bd {s : Svc} (hn : SvcNum s 1000000) (hp : 0 < s.per) : 0 ≤ (s.load + s.per - 1) / s.per ∧ (s.load + s.per - 1) / s.per ≤ 2000000 := by
  unfold SvcNum at hn
  constructor
  · exact Int.ediv_nonneg (by omega) (by omega)
  · exact Int.le_trans (Int.ediv_le_self _ (by omega)) (by omega)
set_option maxRecDepth 100000 in
set_option maxHeartbeats 2000000 in
theorem l5Desired_c (s : Svc) (hn : SvcNum s 1000000) (hp : 0 < s.per) (w : World) : Calls Try.prog 84 #[.agg #[.string s.name, .int .i64 s.version, .bool s.gone, .int .i64 s.image, .int .i64 s.want, .int .i64 s.down, .int .i64 s.over, .int .i64 s.next, .int .i64 s.per, .int .i64 s.least, .int .i64 s.most, .int .i64 s.load, .int .i64 s.cool]] w fun e w' => e = .returned (.int .i64 (dsr s)) ∧ Grow w w' := by
  unfold SvcNum at hn
  obtain ⟨-, -, -, -, -, -, -, -, -, -, -, -, -, -, n1, n2, n3, n4, n5, n6, -⟩ := hn
  go_enter Try.func84, Try.ntmps84
  go_wp2
  all_goals
    go_ret
    refine ⟨ret_int ?_, (Grow.refl _).alloc _⟩
    go_light
    unfold dsr
    generalize (s.load + s.per - 1) / s.per = q at *
    repeat' split
    all_goals omega

set_option maxRecDepth 100000 in
set_option maxHeartbeats 2000000 in
theorem demand_c (s : Svc) (hn : SvcNum s 1000000) (hp : 0 < s.per) {bs os : Nat} (w : World) (s8 : w.cell? ⟨bs, os + 8, none⟩ = some (.int .i64 s.per)) (s9 : w.cell? ⟨bs, os + 9, none⟩ = some (.int .i64 s.least)) (s10 : w.cell? ⟨bs, os + 10, none⟩ = some (.int .i64 s.most)) (s11 : w.cell? ⟨bs, os + 11, none⟩ = some (.int .i64 s.load)) :
    Calls Try.prog 85 #[.pointer (some ⟨bs, os, none⟩)] w fun e w' => e = .returned (.int .i64 (dsr s)) ∧ Grow w w' := by
  obtain ⟨q0, q1⟩ := dsr_bd hn hp
  have p8 := cell_p s8
  have p9 := cell_p s9
  have p10 := cell_p s10
  have p11 := cell_p s11
  unfold SvcNum at hn
  obtain ⟨-, -, -, -, -, -, -, -, -, -, -, -, -, -, n1, n2, n3, n4, n5, n6, -⟩ := hn
  have t1 : IntKind.i64.wrap (s.load + s.per) = s.load + s.per := IntWalk.i64_in _ (by omega)
  have t2 : IntKind.i64.wrap (s.load + s.per - 1) = s.load + s.per - 1 := IntWalk.i64_in _ (by omega)
  have t3 : (s.load + s.per - 1).tdiv s.per = (s.load + s.per - 1) / s.per := Int.tdiv_eq_ediv_of_nonneg (by omega)
  have t4 : IntKind.i64.wrap ((s.load + s.per - 1) / s.per) = (s.load + s.per - 1) / s.per := IntWalk.i64_in _ (by omega)
  have t5 : (s.per == 0) = false := by simp; omega
  have t6 : ¬ s.per = 0 := by omega
  have HD := Lib.hid (show dsr s = (if s.most < (if (s.load + s.per - 1) / s.per < s.least then s.least else (s.load + s.per - 1) / s.per) then s.most else (if (s.load + s.per - 1) / s.per < s.least then s.least else (s.load + s.per - 1) / s.per)) from rfl)
  clear s8 s9 s10 s11
  go_enter Try.func85, Try.ntmps85
  go_wp2
  refine at_plus ?_
  refine region_quiet ⟨_, rfl⟩ (by kernel_rfl) (by kernel_rfl) ?_
  repeat (first | go_big_quiet_step (fail) | quiet_step (fail))
  refine wpQuiet_nil ?_
  rintro w2 ⟨y, rfl⟩
  go_wp2
  all_goals
    go_ret
    refine ⟨ret_int ?_, Grow.wplus _ _⟩
    rw [HD.out]
    go_light
    clear t1 t2 t3 t4 p8 p9 p10 p11 HD
    generalize (s.load + s.per - 1) / s.per = q at *
    by_cases h1 : q < s.least
    · simp only [if_pos h1] at *
      repeat' split
      all_goals omega
    · simp only [if_neg h1] at *
      repeat' split
      all_goals omega

def b2i (x : Bool) : Int := if x then 1 else 0
theorem one_c (x : Bool) (w : World) : Calls Try.prog 88 #[.bool x] w fun e w' => e = .returned (.int .i64 (b2i x)) ∧ w = w' := by
  cases x
  all_goals
    go_enter Try.func88, Try.ntmps88
    go_wp2
    go_ret
    exact ⟨rfl, rfl⟩
theorem one_t (w : World) : Calls Try.prog 88 #[.bool true] w fun e w' => e = .returned (.int .i64 1) ∧ w = w' := one_c true w
theorem one_f (w : World) : Calls Try.prog 88 #[.bool false] w fun e w' => e = .returned (.int .i64 0) ∧ w = w' := one_c false w
set_option maxRecDepth 100000 in
set_option maxHeartbeats 2000000 in
theorem l5Drains_c (b : Book) (c : Cpy) {A1 A2 A3 : Option Addr} {n1 n2 c1 c2 c3 : Nat} (w : World) (h3 : Rows 2 brtC w A3 b.brs) (l3 : b.brs.length ≤ 2000000) :
    Calls Try.prog 87 #[.agg #[.int .i64 b.now, .slice A1 n1 c1, .slice A2 n2 c2, .slice A3 b.brs.length c3], .agg #[.string c.service, .int .i64 c.number, .int .i64 c.version, .int .i64 c.image, .int .i64 c.state, .bool c.ending, .string c.berth]] w fun e w' => e = .returned (.bool (drainsB b.brs c.berth)) ∧ Grow w w' := by
  have R3 := Lib.hid (fun (w' : World) (hg : Grow w w') => h3.below hg)
  clear h3
  rcases hq : brtAt b.brs c.berth with _ | k
  · have HF := Lib.hid (show drainsB b.brs c.berth = false by simp [drainsB, hq])
    have Hr := Lib.hid (show idxI (brtAt b.brs c.berth) = -1 by rw [hq]; rfl)
    clear hq
    go_enter Try.func87, Try.ntmps87
    go_wp2_with (go_at_call 122; refine (l1Berth_r b _ _ (-1) (R3.out _ (by (repeat (first | with_reducible exact Grow.refl _ | with_reducible assumption | with_reducible refine Grow.drew ?_ | with_reducible refine Grow.alloc ?_ _ | (with_reducible refine Grow.set ?_ ?_ _; rotate_left; (first | (dsimp only; omega) | (simp <;> omega))))))) l3 Hr.out).mono ?_; rintro e w1 ⟨rfl, hg1⟩)
    go_ret
    exact ⟨ret_bool HF.out.symm, Grow.trans (by (repeat (first | with_reducible exact Grow.refl _ | with_reducible assumption | with_reducible refine Grow.drew ?_ | with_reducible refine Grow.alloc ?_ _ | (with_reducible refine Grow.set ?_ ?_ _; rotate_left; (first | (dsimp only; omega) | (simp <;> omega)))))) hg1⟩
  · obtain ⟨x, hx, -⟩ := fIdx_some0 hq
    have HF := Lib.hid (show drainsB b.brs c.berth = x.drain by simp [drainsB, hq, hx])
    have Hr := Lib.hid (show idxI (brtAt b.brs c.berth) = k by rw [hq]; rfl)
    have kl : k < b.brs.length := (List.getElem?_eq_some_iff.1 hx).1
    have k0 : (0 : Int) ≤ (k : Int) := Int.natCast_nonneg _
    have k1 : (k : Int) < (b.brs.length : Int) := by omega
    have HX := Lib.hid hx
    clear hq hx
    go_enter Try.func87, Try.ntmps87
    go_wp2_with fail
    refine (l1Berth_r b _ _ k (R3.out _ (by (repeat (first | with_reducible exact Grow.refl _ | with_reducible assumption | with_reducible refine Grow.drew ?_ | with_reducible refine Grow.alloc ?_ _ | (with_reducible refine Grow.set ?_ ?_ _; rotate_left; (first | (dsimp only; omega) | (simp <;> omega))))))) l3 Hr.out).mono ?_
    rintro e w1 ⟨rfl, hg1⟩
    have G1 := Lib.hid (Grow.trans (show Grow w _ by (repeat (first | with_reducible exact Grow.refl _ | with_reducible assumption | with_reducible refine Grow.drew ?_ | with_reducible refine Grow.alloc ?_ _ | (with_reducible refine Grow.set ?_ ?_ _; rotate_left; (first | (dsimp only; omega) | (simp <;> omega)))))) hg1)
    obtain ⟨x0, x1, x2, x3⟩ := box4 (blk_grow (heap_alloc2 w _ _) hg1)
    obtain ⟨bb, o, rfl, hbb, f0, f1⟩ := brt_at (R3.out _ G1.out) HX.out
    clear hg1
    go_wp2
    go_ret
    exact ⟨ret_bool HF.out.symm, G1.out⟩
set_option maxRecDepth 100000 in
set_option maxHeartbeats 2000000 in
theorem drained_c (b : Book) (c : Cpy) {g : Nat} {A1 A2 A3 : Option Addr} {c1 c2 c3 : Nat} (w : World) (hb : BookBlk w g b A1 A2 A3 c1 c2 c3) (h3 : Rows 2 brtC w A3 b.brs) (l3 : b.brs.length ≤ 2000000) :
    Calls Try.prog 89 #[.pointer (some ⟨g, 0, none⟩), .agg #[.string c.service, .int .i64 c.number, .int .i64 c.version, .int .i64 c.image, .int .i64 c.state, .bool c.ending, .string c.berth]] w fun e w' => e = .returned (.bool (drainsB b.brs c.berth)) ∧ Grow w w' := by
  have R3 := Lib.hid (fun (w' : World) (hg : Grow w w') => h3.below hg)
  have HB := Lib.hid hb
  rcases hq : brtAt b.brs c.berth with _ | k
  · have HF := Lib.hid (show drainsB b.brs c.berth = false by simp [drainsB, hq])
    have Hr := Lib.hid (show elemPtr 2 A3 (brtAt b.brs c.berth) = none by rw [hq]; rfl)
    clear hq h3 hb
    go_enter Try.func89, Try.ntmps89
    go_wp2_with (go_at_call 72; refine (berth_r b _ _ none (HB.out.grow (by (repeat (first | with_reducible exact Grow.refl _ | with_reducible assumption | with_reducible refine Grow.drew ?_ | with_reducible refine Grow.alloc ?_ _ | (with_reducible refine Grow.set ?_ ?_ _; rotate_left; (first | (dsimp only; omega) | (simp <;> omega))))))) (R3.out _ (by (repeat (first | with_reducible exact Grow.refl _ | with_reducible assumption | with_reducible refine Grow.drew ?_ | with_reducible refine Grow.alloc ?_ _ | (with_reducible refine Grow.set ?_ ?_ _; rotate_left; (first | (dsimp only; omega) | (simp <;> omega))))))) l3 Hr.out).mono ?_; rintro e w1 ⟨rfl, rfl⟩)
    go_ret
    exact ⟨ret_bool HF.out.symm, by (repeat (first | with_reducible exact Grow.refl _ | with_reducible assumption | with_reducible refine Grow.drew ?_ | with_reducible refine Grow.alloc ?_ _ | (with_reducible refine Grow.set ?_ ?_ _; rotate_left; (first | (dsimp only; omega) | (simp <;> omega)))))⟩
  · obtain ⟨x, hx, -⟩ := fIdx_some0 hq
    have HF := Lib.hid (show drainsB b.brs c.berth = x.drain by simp [drainsB, hq, hx])
    have gl := blk_lt hb
    obtain ⟨bb, o, rfl, hbb, f0, f1⟩ := brt_at h3 hx
    have Hr := Lib.hid (show elemPtr 2 (some ⟨bb, o, none⟩) (brtAt b.brs c.berth) = some ⟨bb, o + k * 2, none⟩ by rw [hq]; rfl)
    clear hq hx h3 hb
    go_enter Try.func89, Try.ntmps89
    go_wp2_with (go_at_call 72; refine (berth_r b _ _ _ (HB.out.grow (by (repeat (first | with_reducible exact Grow.refl _ | with_reducible assumption | with_reducible refine Grow.drew ?_ | with_reducible refine Grow.alloc ?_ _ | (with_reducible refine Grow.set ?_ ?_ _; rotate_left; (first | (dsimp only; omega) | (simp <;> omega))))))) (R3.out _ (by (repeat (first | with_reducible exact Grow.refl _ | with_reducible assumption | with_reducible refine Grow.drew ?_ | with_reducible refine Grow.alloc ?_ _ | (with_reducible refine Grow.set ?_ ?_ _; rotate_left; (first | (dsimp only; omega) | (simp <;> omega))))))) l3 Hr.out).mono ?_; rintro e w1 ⟨rfl, rfl⟩)
    go_ret
    exact ⟨ret_bool HF.out.symm, by (repeat (first | with_reducible exact Grow.refl _ | with_reducible assumption | with_reducible refine Grow.drew ?_ | with_reducible refine Grow.alloc ?_ _ | (with_reducible refine Grow.set ?_ ?_ _; rotate_left; (first | (dsimp only; omega) | (simp <;> omega)))))⟩

def natC (i : Nat) : List Value := [.int .i64 i]
theorem natC_len (i : Nat) : (natC i).length = 1 := rfl
theorem new_cells (w : World) (cs : List Value) (T : TypeId) : ∀ j u, cs[j]? = some u → (w.alloc (.cells cs.toArray T)).cell? ((⟨w.heap.size, 0, none⟩ : Addr).add j) = some u := by
  intro j u hu
  have h1 : (⟨w.heap.size, 0, none⟩ : Addr).add j = ⟨w.heap.size, j, none⟩ := by unfold Addr.add; by_cases e : j = 0 <;> simp [e]
  rw [h1, cell_of_row _ _ j _ _ _ (heap_alloc_new w _)]
  simpa using hu
theorem info_int : (Try.prog.info? 3).map (fun i => (i.zero, i.size, i.bytes)) = some (some (.int .i64 0), 1, 8) := by kernel_rfl
theorem box_size (w : World) (o : Obj) : (w.alloc o).heap.size = w.heap.size + 1 := by simp
theorem own_snoc {α : Type} {base T n N : Nat} {cs : α → List Value} {v : Value} {xs ys : List α} {x : α} {w : World} (hn : ∀ x, (cs x).length = n) (h0 : 0 < n) (h : w.ownsRow base T n v N (xs.flatMap cs ++ cs x)) (e : ys = xs ++ [x]) : w.ownsRow base T n v ys.length (ys.flatMap cs) := by
  subst e
  have hf : (xs ++ [x]).flatMap cs = xs.flatMap cs ++ cs x := by simp
  rw [hf]
  have hl := h.1
  rw [← hf, flat_len hn] at hl
  have : (xs ++ [x]).length = N := Nat.eq_of_mul_eq_mul_right h0 hl
  rw [this]; exact h
theorem own_empty (w : World) (T n : Nat) : (w.alloc (.cells #[] T)).ownsRow w.heap.size T n (.slice (some ⟨w.heap.size, 0, none⟩) 0 0) 0 [] := World.ownsRow_made w #[] 0 (Nat.le_refl _) (by decide) (by simp)
theorem own_base' {b b' T n N : Nat} {v : Value} {L : List Value} {w : World} (h : w.ownsRow b T n v N L) (hb : b' ≤ b) : w.ownsRow b' T n v N L := own_base h hb
theorem grown_of {W a c : World} {T n N : Nat} {v : Value} {L : List Value} (h : Grow W a) (ho : a.ownsRow W.heap.size T n v N L) (hg : a.grownBy c v.ownBlock) : Grow W c := Grow.grown h hg fun k hk => (ho.lt k hk).1
theorem own_nat {base T n : Nat} {v : Value} {xs ys : List Nat} {w : World} (h : w.ownsRow base T 1 v n (xs.flatMap natC)) (e : xs = ys) : w.ownsRow base T 1 v ys.length (ys.flatMap natC) := by
  subst e
  have hl := h.1
  rw [flat_len natC_len] at hl
  have : n = xs.length := by omega
  rw [← this]; exact h
set_option maxRecDepth 100000 in
set_option maxHeartbeats 2000000 in
theorem l5Live_c (b : Book) {A1 A2 A3 : Option Addr} {n1 n3 c1 c2 c3 : Nat} (nm : ByteArray) (w : World) (h2 : Rows 7 cpyC w A2 b.cps) (l2 : b.cps.length ≤ 2000000) :
    Calls Try.prog 86 #[.agg #[.int .i64 b.now, .slice A1 n1 c1, .slice A2 b.cps.length c2, .slice A3 n3 c3], .string nm] w (MadeRow 3 1 natC (placesOf (isLive nm) b.cps 0) w) := by
  obtain ⟨i0, hi, hz0, hz1, hz2⟩ := info_parts info_int
  obtain ⟨W, hW⟩ : ∃ W, W = w.alloc (.cells #[.int .i64 b.now, .slice A1 n1 c1, .slice A2 b.cps.length c2, .slice A3 n3 c3] 34) := ⟨_, rfl⟩
  have HW := Lib.hid hW
  have GW := Lib.hid (show Grow w W by rw [hW]; (repeat (first | with_reducible exact Grow.refl _ | with_reducible assumption | with_reducible refine Grow.drew ?_ | with_reducible refine Grow.alloc ?_ _ | (with_reducible refine Grow.set ?_ ?_ _; rotate_left; (first | (dsimp only; omega) | (simp <;> omega))))))
  have X := Lib.hid (show W.heap[w.heap.size]? = some (.cells #[.int .i64 b.now, .slice A1 n1 c1, .slice A2 b.cps.length c2, .slice A3 n3 c3] 34 (0, 0)) by rw [hW]; exact heap_alloc_new _ _)
  have R2 := Lib.hid (fun (w' : World) (hg : Grow W w') => h2.below (GW.out.trans hg))
  have SW := Lib.hid (show W.heap.size = w.heap.size + 1 by rw [hW]; simp)
  clear h2 hW
  go_enter Try.func86, Try.ntmps86
  go_wp2
  go_loopw [5, 6] (fun v i wr => ∃ k : Nat, k ≤ b.cps.length ∧ i = .int .i64 k ∧ Hid (Grow W wr) ∧ Hid (wr.ownsRow W.heap.size 3 1 v (placesOf (isLive nm) (b.cps.take k) 0).length ((placesOf (isLive nm) (b.cps.take k) 0).flatMap natC))) (fun _ i _ => b.cps.length - (intOf i).toNat)
  case atStart =>
    have e := HW.out
    subst e
    exact ⟨0, Nat.zero_le _, rfl, by unfold Hid; (repeat (first | with_reducible exact Grow.refl _ | with_reducible assumption | with_reducible refine Grow.drew ?_ | with_reducible refine Grow.alloc ?_ _ | (with_reducible refine Grow.set ?_ ?_ _; rotate_left; (first | (dsimp only; omega) | (simp <;> omega))))), by unfold Hid; simpa [placesOf] using own_empty (w.alloc (.cells #[.int .i64 b.now, .slice A1 n1 c1, .slice A2 b.cps.length c2, .slice A3 n3 c3] 34)) 3 1⟩
  case round =>
    obtain ⟨k, hk, rfl, hgr, hown⟩ := hrel
    by_cases hlt : k < b.cps.length
    · obtain ⟨x, hx⟩ := ex_at hlt
      obtain ⟨bb, o, rfl, hbb, f0, -, -, -, -, f5, -⟩ := cpy_at (R2.out _ hgr.out) hx
      obtain ⟨x0, x1, x2, x3⟩ := box4 (blk_grow X.out hgr.out)
      have HP := Lib.hid (placesOf_succ (p := isLive nm) hx)
      have pl := placesOf_len (isLive nm) (b.cps.take k) 0
      have pt : (b.cps.take k).length ≤ k := List.length_take_le _ _
      clear hx
      go_wp2_with (at_builtin; refine wpList_append_own _ rfl _ _ _ rfl W.heap.size 3 i0 (.int .i64 0) 1 8 Try.underlying56 hi hz0 hz1 hz2 rfl (by decide) _ _ _ rfl (hown.out.alloc _) ⟨wr.heap.size, 0, none⟩ 1 1 (natC k) rfl rfl (new_cells wr (natC k) _) (by simp [natC, Value.oneCell']) (by unfold maxLen; omega) (by omega) (by have := hgr.out.size; simp; omega) ?_; intro v' w1 ho hg1 _; have HO := Lib.hid ho; have HG := Lib.hid hg1; clear ho hg1)
      all_goals first
        | (go_roundw
           case rel => exact ⟨k + 1, by omega, by go_num, grown_of (hgr.out.alloc _) (hown.out.alloc _) HG.out, own_snoc natC_len (by decide) HO.out (by rw [HP.out, if_pos (by go_light; simp_all [isLive, eqN])])⟩
           case measure => simp [intOf]; omega)
        | (go_roundw
           case rel => exact ⟨k + 1, by omega, by go_num, hgr.out, by unfold Hid; rw [HP.out, if_neg (by go_light; simp_all [isLive, eqN]), List.append_nil]; exact hown.out⟩
           case measure => simp [intOf]; omega)
    · obtain rfl : k = b.cps.length := by omega
      obtain ⟨x0, x1, x2, x3⟩ := box4 (blk_grow X.out hgr.out)
      have ho := hown.out
      rw [List.take_length] at ho
      have HO := Lib.hid ho
      clear ho hown
      go_wp2
      go_ret
      exact ⟨_, rfl, own_base HO.out (by rw [SW.out]; omega), GW.out.trans hgr.out⟩
end Go.Proofs.Ytnmknkdbeccmhaa
