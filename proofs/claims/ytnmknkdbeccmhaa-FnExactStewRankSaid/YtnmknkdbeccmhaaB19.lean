/- The walks of StewDone, the reference's and the program's. -/
import Derived.Test.YtnmknkdbeccmhaaB18
namespace Go.Proofs.Ytnmknkdbeccmhaa
open Go.RowKit
set_option linter.unusedSimpArgs false
set_option linter.unusedVariables false

theorem int_at {w : World} {bl ol : Nat} {xs : List Int} (h : Rows 1 intC w (some ⟨bl, ol, none⟩) xs) {j : Nat} {i : Int} (hi : xs[j]? = some i) : w.cell? ⟨bl, ol + j, none⟩ = some (.int .i64 i) := by
  obtain ⟨b, o, e, hc⟩ := h.at_ hi
  simp only [Option.some.injEq, Addr.mk.injEq] at e
  obtain ⟨rfl, rfl, -⟩ := e
  have := hc 0 _ rfl
  simpa using this
theorem l5Desired_d (s : Svc) (d : Int) (hd : dsr s = d) (hn : SvcNum s 1000000) (hp : 0 < s.per) (w : World) : Calls Try.prog 84 #[.agg #[.string s.name, .int .i64 s.version, .bool s.gone, .int .i64 s.image, .int .i64 s.want, .int .i64 s.down, .int .i64 s.over, .int .i64 s.next, .int .i64 s.per, .int .i64 s.least, .int .i64 s.most, .int .i64 s.load, .int .i64 s.cool]] w fun e w' => e = .returned (.int .i64 d) ∧ Grow w w' := by
  subst hd; exact l5Desired_c s hn hp w
theorem demand_d (s : Svc) (d : Int) (hd : dsr s = d) (hn : SvcNum s 1000000) (hp : 0 < s.per) {bs os : Nat} (w : World) (s8 : w.cell? ⟨bs, os + 8, none⟩ = some (.int .i64 s.per)) (s9 : w.cell? ⟨bs, os + 9, none⟩ = some (.int .i64 s.least)) (s10 : w.cell? ⟨bs, os + 10, none⟩ = some (.int .i64 s.most)) (s11 : w.cell? ⟨bs, os + 11, none⟩ = some (.int .i64 s.load)) :
    Calls Try.prog 85 #[.pointer (some ⟨bs, os, none⟩)] w fun e w' => e = .returned (.int .i64 d) ∧ Grow w w' := by
  subst hd; exact demand_c s hn hp w s8 s9 s10 s11
theorem all_succ {α : Type} {p : α → Bool} {xs : List α} {k : Nat} {x : α} (h : xs[k]? = some x) (ha : (xs.take k).all p = true) : (xs.take (k + 1)).all p = p x := by
  rw [take_succ_at h, List.all_append, ha]; simp
theorem all_no {α : Type} {p : α → Bool} {xs : List α} {k : Nat} {x : α} (h : xs[k]? = some x) (hp : p x = false) : xs.all p = false := by
  rw [List.all_eq_false]
  exact ⟨x, List.mem_of_getElem? h, by simp [hp]⟩
def isZero (r : Int) : Bool := decide (r = 0)
theorem doneB_eq {b : Book} (hv : valid b = true) : doneB b = ((rankB b).all isZero && b.svcs.all wantsOk) := by
  have : isZero = fun r => decide (r = 0) := rfl
  simp [doneB, hv, rankB, this]
theorem wants_no {s : Svc} (h : ¬ 0 < s.per) : wantsOk s = true := by unfold wantsOk; rw [decide_eq_true (by omega)]; rfl
theorem wants_if {s : Svc} (h : 0 < s.per) : wantsOk s = (decide (s.want = dsr s) && decide (s.cool = 0)) := by unfold wantsOk; rw [decide_eq_false (by omega)]; rfl
set_option maxRecDepth 100000 in
set_option maxHeartbeats 4000000 in
theorem specDone_c (b : Book) {A1 A2 A3 : Option Addr} {c1 c2 c3 : Nat} (w : World) (h1 : Rows 13 svcC w A1 b.svcs) (h2 : Rows 7 cpyC w A2 b.cps) (h3 : Rows 2 brtC w A3 b.brs)
    (l1 : b.svcs.length ≤ 2000000) (l2 : b.cps.length ≤ 2000000) (l3 : b.brs.length ≤ 2000000) :
    Calls Try.prog 30 #[.agg #[.int .i64 b.now, .slice A1 b.svcs.length c1, .slice A2 b.cps.length c2, .slice A3 b.brs.length c3]] w fun e w' => e = .returned (.bool (doneB b)) ∧ Grow w w' := by
  have R1 := Lib.hid (fun (w' : World) (hg : Grow w w') => h1.below hg)
  have R2 := Lib.hid (fun (w' : World) (hg : Grow w w') => h2.below hg)
  have R3 := Lib.hid (fun (w' : World) (hg : Grow w w') => h3.below hg)
  clear h1 h2 h3
  go_enter Try.func30, Try.ntmps30
  go_wp2_with fail
  refine (specValid_c b _ (R1.out _ (by (repeat (first | with_reducible exact Grow.refl _ | with_reducible assumption | with_reducible refine Grow.drew ?_ | with_reducible refine Grow.alloc ?_ _ | (with_reducible refine Grow.set ?_ ?_ _; rotate_left; (first | (dsimp only; omega) | (simp <;> omega))))))) (R2.out _ (by (repeat (first | with_reducible exact Grow.refl _ | with_reducible assumption | with_reducible refine Grow.drew ?_ | with_reducible refine Grow.alloc ?_ _ | (with_reducible refine Grow.set ?_ ?_ _; rotate_left; (first | (dsimp only; omega) | (simp <;> omega))))))) (R3.out _ (by (repeat (first | with_reducible exact Grow.refl _ | with_reducible assumption | with_reducible refine Grow.drew ?_ | with_reducible refine Grow.alloc ?_ _ | (with_reducible refine Grow.set ?_ ?_ _; rotate_left; (first | (dsimp only; omega) | (simp <;> omega))))))) l1 l2 l3).mono ?_
  rintro e w1 ⟨rfl, hg1⟩
  have G1 := Lib.hid (Grow.trans (show Grow w _ by (repeat (first | with_reducible exact Grow.refl _ | with_reducible assumption | with_reducible refine Grow.drew ?_ | with_reducible refine Grow.alloc ?_ _ | (with_reducible refine Grow.set ?_ ?_ _; rotate_left; (first | (dsimp only; omega) | (simp <;> omega)))))) hg1)
  have X1 := Lib.hid (blk_grow (heap_alloc_new w _) hg1)
  obtain ⟨x0, x1, x2, x3⟩ := box4 X1.out
  clear hg1
  rcases hv : valid b
  · have HF := Lib.hid (show doneB b = false by simp [doneB, hv])
    go_wp2
    go_ret
    exact ⟨ret_bool HF.out.symm, G1.out⟩
  · have HF := Lib.hid (doneB_eq hv)
    have NM := Lib.hid (fit_of_valid hv).num
    go_wp2_with fail
    refine (specRank_c b w1 (R1.out _ G1.out) (R2.out _ G1.out) (R3.out _ G1.out) l1 l2 l3).mono ?_
    rintro e w2 ⟨v, rfl, ho, hg2⟩
    obtain ⟨AL, cL, rfl, -, rL⟩ := own_rows intC_len rfl ho
    have G2 := Lib.hid (G1.out.trans hg2)
    have X2 := Lib.hid (blk_grow X1.out hg2)
    have RL := Lib.hid rL
    obtain ⟨L, hL⟩ : ∃ L, L = rankB b := ⟨_, rfl⟩
    have L5 : L.length ≤ 2000000 := by subst hL; unfold rankB rankV; split <;> simp
    rw [← hL] at RL HF
    rw [← hL]
    clear ho hg2 rL x0 x1 x2 x3 hL
    go_wp2_with fail
    go_loop [4] (fun i => ∃ k : Nat, k ≤ L.length ∧ i = .int .i64 k ∧ Hid ((L.take k).all isZero = true)) (fun i => L.length - (intOf i).toNat)
    case atStart => exact ⟨0, Nat.zero_le _, rfl, by unfold Hid; simp⟩
    case round =>
      obtain ⟨k, hk, rfl, ha⟩ := hrel
      by_cases hlt : k < L.length
      · obtain ⟨z, hz⟩ := ex_at hlt
        obtain ⟨bl, ol, rfl, -⟩ := RL.out.at_ hz
        have hc := int_at RL.out hz
        have k0 : (0 : Int) ≤ (k : Int) := Int.natCast_nonneg _
        have k1 : (k : Int) < (L.length : Int) := by omega
        have HS := Lib.hid (all_succ hz ha.out)
        have HN := Lib.hid (fun h => all_no (p := isZero) hz h)
        clear hz
        rcases hzz : decide (z = 0)
        · have dz : (z != 0) = true := by simpa using hzz
          go_wp2
          go_ret
          exact ⟨ret_bool (by rw [HF.out, HN.out hzz]; rfl), G2.out⟩
        · have dz : (z != 0) = false := by simpa using hzz
          go_wp2
          go_round
          case rel => exact ⟨k + 1, by omega, by go_num, HS.out.trans hzz⟩
          case measure => simp [intOf]; omega
      · obtain rfl : k = L.length := by omega
        have HZ := Lib.hid (show L.all isZero = true by have := ha.out; rwa [List.take_length] at this)
        replace HF := Lib.hid (HF.out.trans (by rw [HZ.out, Bool.true_and]))
        clear ha HZ
        go_wp2_with fail
        go_loopw [5] (fun i wr => ∃ k : Nat, k ≤ b.svcs.length ∧ i = .int .i64 k ∧ Hid (Grow w2 wr) ∧ Hid ((b.svcs.take k).all wantsOk = true)) (fun i _ => b.svcs.length - (intOf i).toNat)
        case atStart => exact ⟨0, Nat.zero_le _, rfl, Grow.refl _, by unfold Hid; simp⟩
        case round =>
          obtain ⟨k, hk, rfl, hgr, ha⟩ := hrel
          obtain ⟨x0, x1, x2, x3⟩ := box4 (blk_grow X2.out hgr.out)
          by_cases hlt : k < b.svcs.length
          · obtain ⟨s, hx⟩ := ex_at hlt
            have hn := Lib.hid (NM.out s (List.mem_of_getElem? hx))
            obtain ⟨bs, os, rfl, hbs, f0, f1, f2, f3, f4, f5, f6, f7, f8, f9, f10, f11, f12⟩ := svc_at (R1.out _ (G2.out.trans hgr.out)) hx
            have HS := Lib.hid (all_succ hx ha.out)
            have HN := Lib.hid (fun h => all_no (p := wantsOk) hx h)
            have wl := blk_lt (blk_grow X2.out hgr.out)
            clear hx
            go_upto_region 13 with fail
            refine rename ?_
            intro W3 hW3
            have G3 := Lib.hid (grow_eq hW3 (hgr.out.alloc _))
            have C3 := Lib.hid (show W3.heap[wr.heap.size]? = some (.cells (svcC s).toArray 83 (0, 0)) from heap_eq hW3 (heap_alloc_new wr _))
            clear hW3 f0 f1 f2 f3 f4 f5 f6 f7 f8 f9 f10 f11 f12 x0 x1 x2 x3
            have a0 := fun y => (svc_blk (blk_grow C3.out (Grow.wplus W3 y))).1
            have a1 := fun y => (svc_blk (blk_grow C3.out (Grow.wplus W3 y))).2.1
            have a2 := fun y => (svc_blk (blk_grow C3.out (Grow.wplus W3 y))).2.2.1
            have a3 := fun y => (svc_blk (blk_grow C3.out (Grow.wplus W3 y))).2.2.2.1
            have a4 := fun y => (svc_blk (blk_grow C3.out (Grow.wplus W3 y))).2.2.2.2.1
            have a5 := fun y => (svc_blk (blk_grow C3.out (Grow.wplus W3 y))).2.2.2.2.2.1
            have a6 := fun y => (svc_blk (blk_grow C3.out (Grow.wplus W3 y))).2.2.2.2.2.2.1
            have a7 := fun y => (svc_blk (blk_grow C3.out (Grow.wplus W3 y))).2.2.2.2.2.2.2.1
            have a8 := fun y => (svc_blk (blk_grow C3.out (Grow.wplus W3 y))).2.2.2.2.2.2.2.2.1
            have a9 := fun y => (svc_blk (blk_grow C3.out (Grow.wplus W3 y))).2.2.2.2.2.2.2.2.2.1
            have a10 := fun y => (svc_blk (blk_grow C3.out (Grow.wplus W3 y))).2.2.2.2.2.2.2.2.2.2.1
            have a11 := fun y => (svc_blk (blk_grow C3.out (Grow.wplus W3 y))).2.2.2.2.2.2.2.2.2.2.2.1
            have a12 := fun y => (svc_blk (blk_grow C3.out (Grow.wplus W3 y))).2.2.2.2.2.2.2.2.2.2.2.2
            by_cases hp : 0 < s.per
            · have dp : decide (0 < s.per) = true := decide_eq_true hp
              obtain ⟨d, hd⟩ : ∃ d, dsr s = d := ⟨_, rfl⟩
              have HD := Lib.hid hd
              have HWW := Lib.hid (show wantsOk s = (decide (s.want = d) && decide (s.cool = 0)) by rw [wants_if hp, hd])
              clear hd
              rcases hw : decide (s.want = d)
              · have dw : (s.want != d) = true := by simpa using hw
                have HW := Lib.hid (HWW.out.trans (show _ = false by simp [hw]))
                refine at_plus ?_
                refine region_quiet ⟨_, rfl⟩ (by kernel_rfl) (by kernel_rfl) ?_
                repeat (first | go_big_quiet_step ((go_at_call 84; exact quiet_grow (l5Desired_d s d HD.out hn.out hp _))) | quiet_step (fail))
                refine wpQuiet_nil ?_
                rintro w5 ⟨y, rfl⟩
                go_wp2
                go_ret
                exact ⟨ret_bool (by rw [HF.out, HN.out HW.out]), (G2.out.trans G3.out).trans (Grow.wplus _ _)⟩
              · have dw : (s.want != d) = false := by simpa using hw
                rcases hc : decide (s.cool = 0)
                · have dc : (s.cool != 0) = true := by simpa using hc
                  have HW := Lib.hid (HWW.out.trans (show _ = false by simp [hw, hc]))
                  refine at_plus ?_
                  refine region_quiet ⟨_, rfl⟩ (by kernel_rfl) (by kernel_rfl) ?_
                  repeat (first | go_big_quiet_step ((go_at_call 84; exact quiet_grow (l5Desired_d s d HD.out hn.out hp _))) | quiet_step (fail))
                  refine wpQuiet_nil ?_
                  rintro w5 ⟨y, rfl⟩
                  go_wp2
                  go_ret
                  exact ⟨ret_bool (by rw [HF.out, HN.out HW.out]), (G2.out.trans G3.out).trans (Grow.wplus _ _)⟩
                · have dc : (s.cool != 0) = false := by simpa using hc
                  have HW := Lib.hid (HWW.out.trans (show _ = true by simp [hw, hc]))
                  refine at_plus ?_
                  refine region_quiet ⟨_, rfl⟩ (by kernel_rfl) (by kernel_rfl) ?_
                  repeat (first | go_big_quiet_step ((go_at_call 84; exact quiet_grow (l5Desired_d s d HD.out hn.out hp _))) | quiet_step (fail))
                  refine wpQuiet_nil ?_
                  rintro w5 ⟨y, rfl⟩
                  go_wp2
                  go_roundw
                  case rel => exact ⟨k + 1, by omega, by go_num, G3.out.trans (Grow.wplus _ _), HS.out.trans HW.out⟩
                  case measure => simp [intOf]; omega
            · have dp : decide (0 < s.per) = false := decide_eq_false hp
              have HW := Lib.hid (wants_no hp)
              refine at_plus ?_
              refine region_quiet ⟨_, rfl⟩ (by kernel_rfl) (by kernel_rfl) ?_
              repeat (first | go_big_quiet_step (fail) | quiet_step (fail))
              refine wpQuiet_nil ?_
              rintro w5 ⟨y, rfl⟩
              go_wp2
              go_roundw
              case rel => exact ⟨k + 1, by omega, by go_num, G3.out.trans (Grow.wplus _ _), HS.out.trans HW.out⟩
              case measure => simp [intOf]; omega
          · obtain rfl : k = b.svcs.length := by omega
            have HZ := Lib.hid (show b.svcs.all wantsOk = true by have := ha.out; rwa [List.take_length] at this)
            go_wp2
            go_ret
            exact ⟨ret_bool (by rw [HF.out, HZ.out]), G2.out.trans hgr.out⟩
set_option maxRecDepth 100000 in
set_option maxHeartbeats 4000000 in
theorem implDone_c (b : Book) {A1 A2 A3 : Option Addr} {c1 c2 c3 : Nat} (w : World) (h1 : Rows 13 svcC w A1 b.svcs) (h2 : Rows 7 cpyC w A2 b.cps) (h3 : Rows 2 brtC w A3 b.brs)
    (l1 : b.svcs.length ≤ 2000000) (l2 : b.cps.length ≤ 2000000) (l3 : b.brs.length ≤ 2000000) :
    Calls Try.prog 31 #[.agg #[.int .i64 b.now, .slice A1 b.svcs.length c1, .slice A2 b.cps.length c2, .slice A3 b.brs.length c3]] w fun e w' => e = .returned (.bool (doneB b)) ∧ Grow w w' := by
  have R1 := Lib.hid (fun (w' : World) (hg : Grow w w') => h1.below hg)
  have R2 := Lib.hid (fun (w' : World) (hg : Grow w w') => h2.below hg)
  have R3 := Lib.hid (fun (w' : World) (hg : Grow w w') => h3.below hg)
  clear h1 h2 h3
  go_enter Try.func31, Try.ntmps31
  go_wp2_with fail
  refine (implValid_c b _ (R1.out _ (by (repeat (first | with_reducible exact Grow.refl _ | with_reducible assumption | with_reducible refine Grow.drew ?_ | with_reducible refine Grow.alloc ?_ _ | (with_reducible refine Grow.set ?_ ?_ _; rotate_left; (first | (dsimp only; omega) | (simp <;> omega))))))) (R2.out _ (by (repeat (first | with_reducible exact Grow.refl _ | with_reducible assumption | with_reducible refine Grow.drew ?_ | with_reducible refine Grow.alloc ?_ _ | (with_reducible refine Grow.set ?_ ?_ _; rotate_left; (first | (dsimp only; omega) | (simp <;> omega))))))) (R3.out _ (by (repeat (first | with_reducible exact Grow.refl _ | with_reducible assumption | with_reducible refine Grow.drew ?_ | with_reducible refine Grow.alloc ?_ _ | (with_reducible refine Grow.set ?_ ?_ _; rotate_left; (first | (dsimp only; omega) | (simp <;> omega))))))) l1 l2 l3).mono ?_
  rintro e w1 ⟨rfl, hg1⟩
  have G1 := Lib.hid (Grow.trans (show Grow w _ by (repeat (first | with_reducible exact Grow.refl _ | with_reducible assumption | with_reducible refine Grow.drew ?_ | with_reducible refine Grow.alloc ?_ _ | (with_reducible refine Grow.set ?_ ?_ _; rotate_left; (first | (dsimp only; omega) | (simp <;> omega)))))) hg1)
  have X1 := Lib.hid (blk_grow (heap_alloc_new w _) hg1)
  obtain ⟨x0, x1, x2, x3⟩ := box4 X1.out
  clear hg1
  rcases hv : valid b
  · have HF := Lib.hid (show doneB b = false by simp [doneB, hv])
    go_wp2
    go_ret
    exact ⟨ret_bool HF.out.symm, G1.out⟩
  · have HF := Lib.hid (doneB_eq hv)
    have NM := Lib.hid (fit_of_valid hv).num
    go_wp2_with fail
    refine (implRank_c b w1 (R1.out _ G1.out) (R2.out _ G1.out) (R3.out _ G1.out) l1 l2 l3).mono ?_
    rintro e w2 ⟨v, rfl, ho, hg2⟩
    obtain ⟨AL, cL, rfl, -, rL⟩ := own_rows intC_len rfl ho
    have G2 := Lib.hid (G1.out.trans hg2)
    have X2 := Lib.hid (blk_grow X1.out hg2)
    have RL := Lib.hid rL
    obtain ⟨L, hL⟩ : ∃ L, L = rankB b := ⟨_, rfl⟩
    have L5 : L.length ≤ 2000000 := by subst hL; unfold rankB rankV; split <;> simp
    rw [← hL] at RL HF
    rw [← hL]
    clear ho hg2 rL x0 x1 x2 x3 hL
    go_wp2_with fail
    go_loop [13] (fun i => ∃ k : Nat, k ≤ L.length ∧ i = .int .i64 k ∧ Hid ((L.take k).all isZero = true)) (fun i => L.length - (intOf i).toNat)
    case atStart => exact ⟨0, Nat.zero_le _, rfl, by unfold Hid; simp⟩
    case round =>
      obtain ⟨k, hk, rfl, ha⟩ := hrel
      by_cases hlt : k < L.length
      · obtain ⟨z, hz⟩ := ex_at hlt
        obtain ⟨bl, ol, rfl, -⟩ := RL.out.at_ hz
        have hc := int_at RL.out hz
        have k0 : (0 : Int) ≤ (k : Int) := Int.natCast_nonneg _
        have k1 : (k : Int) < (L.length : Int) := by omega
        have HS := Lib.hid (all_succ hz ha.out)
        have HN := Lib.hid (fun h => all_no (p := isZero) hz h)
        clear hz
        rcases hzz : decide (z = 0)
        · have dz : (z != 0) = true := by simpa using hzz
          go_wp2
          go_ret
          exact ⟨ret_bool (by rw [HF.out, HN.out hzz]; rfl), G2.out⟩
        · have dz : (z != 0) = false := by simpa using hzz
          go_wp2
          go_round
          case rel => exact ⟨k + 1, by omega, by go_num, HS.out.trans hzz⟩
          case measure => simp [intOf]; omega
      · obtain rfl : k = L.length := by omega
        have HZ := Lib.hid (show L.all isZero = true by have := ha.out; rwa [List.take_length] at this)
        replace HF := Lib.hid (HF.out.trans (by rw [HZ.out, Bool.true_and]))
        clear ha HZ
        have x1 := (box4 X2.out).2.1
        go_wp2_with fail
        go_loopw [23] (fun i wr => ∃ k : Nat, k ≤ b.svcs.length ∧ i = .int .i64 k ∧ Hid (Grow w2 wr) ∧ Hid ((b.svcs.take k).all wantsOk = true)) (fun i _ => b.svcs.length - (intOf i).toNat)
        case atStart => exact ⟨0, Nat.zero_le _, rfl, Grow.refl _, by unfold Hid; simp⟩
        case round =>
          obtain ⟨k, hk, rfl, hgr, ha⟩ := hrel
          obtain ⟨x0, x1, x2, x3⟩ := box4 (blk_grow X2.out hgr.out)
          by_cases hlt : k < b.svcs.length
          · obtain ⟨s, hx⟩ := ex_at hlt
            have hn := Lib.hid (NM.out s (List.mem_of_getElem? hx))
            obtain ⟨bs, os, rfl, hbs, f0, f1, f2, f3, f4, f5, f6, f7, f8, f9, f10, f11, f12⟩ := svc_at (R1.out _ (G2.out.trans hgr.out)) hx
            have HX := Lib.hid hx
            have HS := Lib.hid (all_succ hx ha.out)
            have HN := Lib.hid (fun h => all_no (p := wantsOk) hx h)
            clear hx
            have k0 : (0 : Int) ≤ (k : Int) := Int.natCast_nonneg _
            have k1 : (k : Int) < (b.svcs.length : Int) := by omega
            go_upto_region 13 with fail
            clear f0 f1 f2 f3 f4 f5 f6 f7 f8 f9 f10 f11 f12 x0 x1 x2 x3
            have G3 := Lib.hid hgr.out
            have a0 := fun y => (svc_cells (R1.out _ ((G2.out.trans hgr.out).trans (Grow.wplus wr y))) HX.out).1
            have a1 := fun y => (svc_cells (R1.out _ ((G2.out.trans hgr.out).trans (Grow.wplus wr y))) HX.out).2.1
            have a2 := fun y => (svc_cells (R1.out _ ((G2.out.trans hgr.out).trans (Grow.wplus wr y))) HX.out).2.2.1
            have a3 := fun y => (svc_cells (R1.out _ ((G2.out.trans hgr.out).trans (Grow.wplus wr y))) HX.out).2.2.2.1
            have a4 := fun y => (svc_cells (R1.out _ ((G2.out.trans hgr.out).trans (Grow.wplus wr y))) HX.out).2.2.2.2.1
            have a5 := fun y => (svc_cells (R1.out _ ((G2.out.trans hgr.out).trans (Grow.wplus wr y))) HX.out).2.2.2.2.2.1
            have a6 := fun y => (svc_cells (R1.out _ ((G2.out.trans hgr.out).trans (Grow.wplus wr y))) HX.out).2.2.2.2.2.2.1
            have a7 := fun y => (svc_cells (R1.out _ ((G2.out.trans hgr.out).trans (Grow.wplus wr y))) HX.out).2.2.2.2.2.2.2.1
            have a8 := fun y => (svc_cells (R1.out _ ((G2.out.trans hgr.out).trans (Grow.wplus wr y))) HX.out).2.2.2.2.2.2.2.2.1
            have a9 := fun y => (svc_cells (R1.out _ ((G2.out.trans hgr.out).trans (Grow.wplus wr y))) HX.out).2.2.2.2.2.2.2.2.2.1
            have a10 := fun y => (svc_cells (R1.out _ ((G2.out.trans hgr.out).trans (Grow.wplus wr y))) HX.out).2.2.2.2.2.2.2.2.2.2.1
            have a11 := fun y => (svc_cells (R1.out _ ((G2.out.trans hgr.out).trans (Grow.wplus wr y))) HX.out).2.2.2.2.2.2.2.2.2.2.2.1
            have a12 := fun y => (svc_cells (R1.out _ ((G2.out.trans hgr.out).trans (Grow.wplus wr y))) HX.out).2.2.2.2.2.2.2.2.2.2.2.2
            by_cases hp : 0 < s.per
            · have dp : decide (0 < s.per) = true := decide_eq_true hp
              obtain ⟨d, hd⟩ : ∃ d, dsr s = d := ⟨_, rfl⟩
              have HD := Lib.hid hd
              have HWW := Lib.hid (show wantsOk s = (decide (s.want = d) && decide (s.cool = 0)) by rw [wants_if hp, hd])
              clear hd
              rcases hw : decide (s.want = d)
              · have dw : (s.want != d) = true := by simpa using hw
                have HW := Lib.hid (HWW.out.trans (show _ = false by simp [hw]))
                refine at_plus ?_
                refine region_quiet ⟨_, rfl⟩ (by kernel_rfl) (by kernel_rfl) ?_
                repeat (first | go_big_quiet_step ((go_at_call 85; exact quiet_grow (demand_d s d HD.out hn.out hp _ (a8 _) (a9 _) (a10 _) (a11 _)))) | quiet_step (fail))
                refine wpQuiet_nil ?_
                rintro w5 ⟨y, rfl⟩
                go_wp2
                go_ret
                exact ⟨ret_bool (by rw [HF.out, HN.out HW.out]), (G2.out.trans G3.out).trans (Grow.wplus _ _)⟩
              · have dw : (s.want != d) = false := by simpa using hw
                rcases hc : decide (s.cool = 0)
                · have dc : (s.cool != 0) = true := by simpa using hc
                  have HW := Lib.hid (HWW.out.trans (show _ = false by simp [hw, hc]))
                  refine at_plus ?_
                  refine region_quiet ⟨_, rfl⟩ (by kernel_rfl) (by kernel_rfl) ?_
                  repeat (first | go_big_quiet_step ((go_at_call 85; exact quiet_grow (demand_d s d HD.out hn.out hp _ (a8 _) (a9 _) (a10 _) (a11 _)))) | quiet_step (fail))
                  refine wpQuiet_nil ?_
                  rintro w5 ⟨y, rfl⟩
                  go_wp2
                  go_ret
                  exact ⟨ret_bool (by rw [HF.out, HN.out HW.out]), (G2.out.trans G3.out).trans (Grow.wplus _ _)⟩
                · have dc : (s.cool != 0) = false := by simpa using hc
                  have HW := Lib.hid (HWW.out.trans (show _ = true by simp [hw, hc]))
                  refine at_plus ?_
                  refine region_quiet ⟨_, rfl⟩ (by kernel_rfl) (by kernel_rfl) ?_
                  repeat (first | go_big_quiet_step ((go_at_call 85; exact quiet_grow (demand_d s d HD.out hn.out hp _ (a8 _) (a9 _) (a10 _) (a11 _)))) | quiet_step (fail))
                  refine wpQuiet_nil ?_
                  rintro w5 ⟨y, rfl⟩
                  go_wp2
                  go_roundw
                  case rel => exact ⟨k + 1, by omega, by go_num, G3.out.trans (Grow.wplus _ _), HS.out.trans HW.out⟩
                  case measure => simp [intOf]; omega
            · have dp : decide (0 < s.per) = false := decide_eq_false hp
              have HW := Lib.hid (wants_no hp)
              refine at_plus ?_
              refine region_quiet ⟨_, rfl⟩ (by kernel_rfl) (by kernel_rfl) ?_
              repeat (first | go_big_quiet_step (fail) | quiet_step (fail))
              refine wpQuiet_nil ?_
              rintro w5 ⟨y, rfl⟩
              go_wp2
              go_roundw
              case rel => exact ⟨k + 1, by omega, by go_num, G3.out.trans (Grow.wplus _ _), HS.out.trans HW.out⟩
              case measure => simp [intOf]; omega
          · obtain rfl : k = b.svcs.length := by omega
            have HZ := Lib.hid (show b.svcs.all wantsOk = true by have := ha.out; rwa [List.take_length] at this)
            go_wp2
            go_ret
            exact ⟨ret_bool (by rw [HF.out, HZ.out]), G2.out.trans hgr.out⟩
end Go.Proofs.Ytnmknkdbeccmhaa
