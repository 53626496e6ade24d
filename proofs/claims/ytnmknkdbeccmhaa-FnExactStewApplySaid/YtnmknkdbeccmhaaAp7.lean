/- The walk of the reference's test on whole books. The walk of the program's test on whole books. -/
import Derived.Test.YtnmknkdbeccmhaaAp5
import Derived.Test.YtnmknkdbeccmhaaAp1
import Derived.IntWalk
namespace Go.Proofs.Ytnmknkdbeccmhaa
open Go.RowKit
set_option linter.unusedSimpArgs false

theorem svcsOk_next {now : Int} : ∀ {p : Option Svc} {xs : List Svc}, svcsOk now p xs = true → ∀ x ∈ xs, svcOk x now = true
  | _, [], _, x, hx => by simp at hx
  | none, s :: xs, h, x, hx => by
    simp only [svcsOk, Bool.and_eq_true] at h
    rcases List.mem_cons.1 hx with rfl | hm
    · exact h.1
    · exact svcsOk_next h.2 x hm
  | some p, s :: xs, h, x, hx => by
    simp only [svcsOk, Bool.and_eq_true] at h
    rcases List.mem_cons.1 hx with rfl | hm
    · exact h.1
    · exact svcsOk_next h.2.2 x hm

theorem svcNext {x : Svc} {now : Int} (h : svcOk x now = true) : 1 ≤ x.next ∧ x.next ≤ 1000000 := by
  obtain ⟨-, h⟩ := svcOk_iff.1 h
  unfold SvcNum at h
  omega
set_option maxRecDepth 100000 in
set_option maxHeartbeats 4000000 in
theorem specValid_c (b : Book) {A1 A2 A3 : Option Addr} {c1 c2 c3 : Nat} (w : World) (h1 : Rows 13 svcC w A1 b.svcs) (h2 : Rows 7 cpyC w A2 b.cps) (h3 : Rows 2 brtC w A3 b.brs)
    (l1 : b.svcs.length ≤ 2000000) (l2 : b.cps.length ≤ 2000000) (l3 : b.brs.length ≤ 2000000) :
    Calls Try.prog 16 #[.agg #[.int .i64 b.now, .slice A1 b.svcs.length c1, .slice A2 b.cps.length c2, .slice A3 b.brs.length c3]] w fun e w' => e = .returned (.bool (valid b)) ∧ Grow w w' := by
  have R1 := Lib.hid (fun (w' : World) (hg : Grow w w') => h1.below hg)
  have R2 := Lib.hid (fun (w' : World) (hg : Grow w w') => h2.below hg)
  have R3 := Lib.hid (fun (w' : World) (hg : Grow w w') => h3.below hg)
  clear h1 h2 h3
  by_cases hsm : 0 ≤ b.now ∧ b.now ≤ 1000000 ∧ b.svcs.length ≤ 8 ∧ b.cps.length ≤ 200 ∧ b.brs.length ≤ 6
  · have HV := Lib.hid (show valid b = (svcsOk b.now none b.svcs && (brsOk none b.brs && cpsOk b none b.cps)) by unfold valid; rw [decide_eq_true hsm, Bool.true_and, Bool.and_assoc])
    obtain ⟨n1, n2, s1, s2, s3⟩ := hsm
    have hb : inB 0 b.now 1000000 = true := decide_eq_true ⟨n1, n2⟩
    go_enter Try.func16, Try.ntmps16
    go_wp2_with (go_at_call 60; refine (l1In_c _ _ _ _).mono ?_; rintro e w' ⟨rfl, rfl⟩)
    refine rebase ?_
    intro W hW
    have G := Lib.hid (show Grow w W by rw [hW.out]; exact (Grow.refl _).alloc _)
    have fb := blk_p (show W.heap[w.heap.size]? = _ by rw [hW.out]; exact heap_alloc_new _ _)
    have fb0 := fb 0
    have fb1 := fb 1
    have fb2 := fb 2
    have fb3 := fb 3
    clear fb hW
    go_loopw [3] (fun i wr => ∃ (k : Nat) (y : Ext), k ≤ b.svcs.length ∧ i = .int .i64 k ∧ wr = wplus W y ∧ Hid (svcsOk b.now none b.svcs = svcsOk b.now (prev b.svcs k) (b.svcs.drop k))) (fun i _ => b.svcs.length - (intOf i).toNat)
    case atStart => exact ⟨0, _, Nat.zero_le _, rfl, rfl, rfl⟩
    case round =>
      obtain ⟨k, y, hk, rfl, rfl, hi⟩ := hrel
      by_cases hlt : k < b.svcs.length
      · obtain ⟨x, hx⟩ := ex_at hlt
        obtain ⟨bb, o, rfl, hbb, f0, f1, f2, f3, f4, f5, f6, f7, f8, f9, f10, f11, f12⟩ := svc_p (R1.out _ G.out) hx
        have hd := Lib.hid (drop_at hx)
        have HX := Lib.hid hx
        clear hx
        have t2 : (0 : Int) ≤ (k : Int) := Int.natCast_nonneg _
        have t3 : (k : Int) < (b.svcs.length : Int) := by omega
        by_cases h0 : k = 0
        · have t4 : decide (0 < k) = false := decide_eq_false (by omega)
          have HP := Lib.hid (show prev b.svcs k = none by rw [h0]; rfl)
          clear h0
          rcases Bool.eq_false_or_eq_true (svcOk x b.now) with k1 | k1
          all_goals
            go_wp2
            refine region_quiet ⟨_, rfl⟩ (by kernel_rfl) (by kernel_rfl) ?_
            repeat (go_big_quiet_step ((go_at_call 61; exact quiet_grow (l1ServiceOk_c x _ _))))
            refine wpQuiet_nil ?_
            rintro w2 ⟨y2, rfl⟩
            go_wp2
            first
              | (go_ret; exact ⟨ret_bool (by rw [HV.out, hi.out, hd.out, HP.out]; go_light; simp [svcsOk, brsOk, cpsOk, *]), G.out.trans (Grow.wplus _ _)⟩)
              | (go_roundw
                 case rel => exact ⟨k + 1, _, by omega, by go_num, rfl, by unfold Hid; rw [hi.out, hd.out, HP.out, show prev b.svcs (k + 1) = some x from HX.out]; go_light; simp [svcsOk, brsOk, cpsOk, *]⟩
                 case measure => simp [intOf]; omega)
        · obtain ⟨q, hq⟩ : ∃ q, b.svcs[k - 1]? = some q := ex_at (by omega)
          have t4 : decide (0 < k) = true := decide_eq_true (by omega)
          have t5 : IntKind.i64.wrap ((k : Int) - 1) = (k : Int) - 1 := IntWalk.i64_in _ (by omega)
          have t6 : (0 : Int) ≤ (k : Int) - 1 := by omega
          have t7 : (k : Int) - 1 < (b.svcs.length : Int) := by omega
          have t8 : ((k : Int) - 1).toNat = k - 1 := by omega
          have HP := Lib.hid (show prev b.svcs k = some q by cases k with | zero => exact absurd rfl h0 | succ j => exact hq)
          obtain ⟨bb', o', he, -, g0, g1, g2, g3, g4, g5, g6, g7, g8, g9, g10, g11, g12⟩ := svc_p (R1.out _ G.out) hq
          simp only [Option.some.injEq, Addr.mk.injEq] at he
          obtain ⟨rfl, rfl, -⟩ := he
          clear h0 hq
          rcases chain2 (svcOk x b.now) (ltN q.name x.name) with k1 | ⟨k1, k2⟩ | ⟨k1, k2⟩
          all_goals
            try have k3 : Op.bytesLess q.name.toList x.name.toList = _ := k2
            go_wp2
            refine region_quiet ⟨_, rfl⟩ (by kernel_rfl) (by kernel_rfl) ?_
            repeat (go_big_quiet_step ((go_at_call 61; exact quiet_grow (l1ServiceOk_c x _ _))))
            refine wpQuiet_nil ?_
            rintro w2 ⟨y2, rfl⟩
            go_wp2
            first
              | (go_ret; exact ⟨ret_bool (by rw [HV.out, hi.out, hd.out, HP.out]; go_light; simp [svcsOk, brsOk, cpsOk, *]), G.out.trans (Grow.wplus _ _)⟩)
              | (go_roundw
                 case rel => exact ⟨k + 1, _, by omega, by go_num, rfl, by unfold Hid; rw [hi.out, hd.out, HP.out, show prev b.svcs (k + 1) = some x from HX.out]; go_light; simp [svcsOk, brsOk, cpsOk, *]⟩
                 case measure => simp [intOf]; omega)
      · obtain rfl : k = b.svcs.length := by omega
        have HE := Lib.hid (show svcsOk b.now none b.svcs = true by rw [hi.out, List.drop_length]; cases b.svcs.length <;> rfl)
        clear hi hlt hk
        have HN := Lib.hid (fun x hx => svcNext (svcsOk_next HE.out x hx))
        replace HV := Lib.hid (HV.out.trans (by rw [HE.out, Bool.true_and]))
        clear HE
        go_wp2
        go_loopw [4] (fun i wr => ∃ (k : Nat) (y : Ext), k ≤ b.brs.length ∧ i = .int .i64 k ∧ wr = wplus W y ∧ Hid (brsOk none b.brs = brsOk (prev b.brs k) (b.brs.drop k))) (fun i _ => b.brs.length - (intOf i).toNat)
        case atStart => exact ⟨0, _, Nat.zero_le _, rfl, rfl, rfl⟩
        case round =>
          obtain ⟨k, y, hk, rfl, rfl, hi⟩ := hrel
          by_cases hlt : k < b.brs.length
          · obtain ⟨x, hx⟩ := ex_at hlt
            obtain ⟨bb, o, rfl, hbb, f0, f1⟩ := brt_p (R3.out _ G.out) hx
            have hd := Lib.hid (drop_at hx)
            have HX := Lib.hid hx
            clear hx
            have t2 : (0 : Int) ≤ (k : Int) := Int.natCast_nonneg _
            have t3 : (k : Int) < (b.brs.length : Int) := by omega
            by_cases h0 : k = 0
            · have t4 : decide (0 < k) = false := decide_eq_false (by omega)
              have HP := Lib.hid (show prev b.brs k = none by rw [h0]; rfl)
              clear h0
              rcases Bool.eq_false_or_eq_true (nameOk x.name) with k1 | k1
              all_goals
                go_wp2
                refine region_quiet ⟨_, rfl⟩ (by kernel_rfl) (by kernel_rfl) ?_
                repeat (go_big_quiet_step ((go_at_call 62; exact quiet_same (l1NameOk_c _ _))))
                refine wpQuiet_nil ?_
                rintro w2 ⟨y2, rfl⟩
                go_wp2
                first
                  | (go_ret; exact ⟨ret_bool (by rw [HV.out, hi.out, hd.out, HP.out]; go_light; simp [svcsOk, brsOk, cpsOk, *]), G.out.trans (Grow.wplus _ _)⟩)
                  | (go_roundw
                     case rel => exact ⟨k + 1, _, by omega, by go_num, rfl, by unfold Hid; rw [hi.out, hd.out, HP.out, show prev b.brs (k + 1) = some x from HX.out]; go_light; simp [svcsOk, brsOk, cpsOk, *]⟩
                     case measure => simp [intOf]; omega)
            · obtain ⟨q, hq⟩ : ∃ q, b.brs[k - 1]? = some q := ex_at (by omega)
              have t4 : decide (0 < k) = true := decide_eq_true (by omega)
              have t5 : IntKind.i64.wrap ((k : Int) - 1) = (k : Int) - 1 := IntWalk.i64_in _ (by omega)
              have t6 : (0 : Int) ≤ (k : Int) - 1 := by omega
              have t7 : (k : Int) - 1 < (b.brs.length : Int) := by omega
              have t8 : ((k : Int) - 1).toNat = k - 1 := by omega
              have HP := Lib.hid (show prev b.brs k = some q by cases k with | zero => exact absurd rfl h0 | succ j => exact hq)
              obtain ⟨bb', o', he, -, g0, g1⟩ := brt_p (R3.out _ G.out) hq
              simp only [Option.some.injEq, Addr.mk.injEq] at he
              obtain ⟨rfl, rfl, -⟩ := he
              clear h0 hq
              rcases chain2 (nameOk x.name) (ltN q.name x.name) with k1 | ⟨k1, k2⟩ | ⟨k1, k2⟩
              all_goals
                try have k3 : Op.bytesLess q.name.toList x.name.toList = _ := k2
                go_wp2
                refine region_quiet ⟨_, rfl⟩ (by kernel_rfl) (by kernel_rfl) ?_
                repeat (go_big_quiet_step ((go_at_call 62; exact quiet_same (l1NameOk_c _ _))))
                refine wpQuiet_nil ?_
                rintro w2 ⟨y2, rfl⟩
                go_wp2
                first
                  | (go_ret; exact ⟨ret_bool (by rw [HV.out, hi.out, hd.out, HP.out]; go_light; simp [svcsOk, brsOk, cpsOk, *]), G.out.trans (Grow.wplus _ _)⟩)
                  | (go_roundw
                     case rel => exact ⟨k + 1, _, by omega, by go_num, rfl, by unfold Hid; rw [hi.out, hd.out, HP.out, show prev b.brs (k + 1) = some x from HX.out]; go_light; simp [svcsOk, brsOk, cpsOk, *]⟩
                     case measure => simp [intOf]; omega)
          · obtain rfl : k = b.brs.length := by omega
            have HE := Lib.hid (show brsOk none b.brs = true by rw [hi.out, List.drop_length]; cases b.brs.length <;> rfl)
            clear hi hlt hk
            replace HV := Lib.hid (HV.out.trans (by rw [HE.out, Bool.true_and]))
            clear HE
            go_wp2
            go_loopw [5] (fun i wr => ∃ (k : Nat) (y : Ext), k ≤ b.cps.length ∧ i = .int .i64 k ∧ wr = wplus W y ∧ Hid (cpsOk b none b.cps = cpsOk b (prev b.cps k) (b.cps.drop k))) (fun i _ => b.cps.length - (intOf i).toNat)
            case atStart => exact ⟨0, _, Nat.zero_le _, rfl, rfl, rfl⟩
            case round =>
              obtain ⟨k, y, hk, rfl, rfl, hi⟩ := hrel
              by_cases hlt : k < b.cps.length
              · obtain ⟨x, hx⟩ := ex_at hlt
                obtain ⟨bb, o, rfl, hbb, f0, f1, f2, f3, f4, f5, f6⟩ := cpy_p (R2.out _ G.out) hx
                have hd := Lib.hid (drop_at hx)
                have HX := Lib.hid hx
                clear hx
                have t2 : (0 : Int) ≤ (k : Int) := Int.natCast_nonneg _
                have t3 : (k : Int) < (b.cps.length : Int) := by omega
                by_cases h0 : k = 0
                · have t4 : decide (0 < k) = false := decide_eq_false (by omega)
                  have HP := Lib.hid (show prev b.cps k = none by rw [h0]; rfl)
                  clear h0
                  rcases Bool.eq_false_or_eq_true (cpyOk b x) with k1 | k1
                  all_goals
                    go_wp2
                    refine region_quiet ⟨_, rfl⟩ (by kernel_rfl) (by kernel_rfl) ?_
                    repeat (go_big_quiet_step ((first | (go_at_call 63; exact quiet_grow (l1CopyOk_c b x _ ((R1.out _ (G.out.trans (Grow.wplus _ _)))) l1 (R3.out _ (G.out.trans (Grow.wplus _ _))) l3 HN.out)) | (go_at_call 64; exact quiet_grow (l1Ahead_c q x _)))))
                    refine wpQuiet_nil ?_
                    rintro w2 ⟨y2, rfl⟩
                    go_wp2
                    first
                      | (go_ret; exact ⟨ret_bool (by rw [HV.out, hi.out, hd.out, HP.out]; go_light; simp [svcsOk, brsOk, cpsOk, *]), G.out.trans (Grow.wplus _ _)⟩)
                      | (go_roundw
                         case rel => exact ⟨k + 1, _, by omega, by go_num, rfl, by unfold Hid; rw [hi.out, hd.out, HP.out, show prev b.cps (k + 1) = some x from HX.out]; go_light; simp [svcsOk, brsOk, cpsOk, *]⟩
                         case measure => simp [intOf]; omega)
                · obtain ⟨q, hq⟩ : ∃ q, b.cps[k - 1]? = some q := ex_at (by omega)
                  have t4 : decide (0 < k) = true := decide_eq_true (by omega)
                  have t5 : IntKind.i64.wrap ((k : Int) - 1) = (k : Int) - 1 := IntWalk.i64_in _ (by omega)
                  have t6 : (0 : Int) ≤ (k : Int) - 1 := by omega
                  have t7 : (k : Int) - 1 < (b.cps.length : Int) := by omega
                  have t8 : ((k : Int) - 1).toNat = k - 1 := by omega
                  have HP := Lib.hid (show prev b.cps k = some q by cases k with | zero => exact absurd rfl h0 | succ j => exact hq)
                  obtain ⟨bb', o', he, -, g0, g1, g2, g3, g4, g5, g6⟩ := cpy_p (R2.out _ G.out) hq
                  simp only [Option.some.injEq, Addr.mk.injEq] at he
                  obtain ⟨rfl, rfl, -⟩ := he
                  clear h0 hq
                  rcases chain2 (cpyOk b x) (ahead q x) with k1 | ⟨k1, k2⟩ | ⟨k1, k2⟩
                  all_goals
                    go_wp2
                    refine region_quiet ⟨_, rfl⟩ (by kernel_rfl) (by kernel_rfl) ?_
                    repeat (go_big_quiet_step ((first | (go_at_call 63; exact quiet_grow (l1CopyOk_c b x _ ((R1.out _ (G.out.trans (Grow.wplus _ _)))) l1 (R3.out _ (G.out.trans (Grow.wplus _ _))) l3 HN.out)) | (go_at_call 64; exact quiet_grow (l1Ahead_c q x _)))))
                    refine wpQuiet_nil ?_
                    rintro w2 ⟨y2, rfl⟩
                    go_wp2
                    first
                      | (go_ret; exact ⟨ret_bool (by rw [HV.out, hi.out, hd.out, HP.out]; go_light; simp [svcsOk, brsOk, cpsOk, *]), G.out.trans (Grow.wplus _ _)⟩)
                      | (go_roundw
                         case rel => exact ⟨k + 1, _, by omega, by go_num, rfl, by unfold Hid; rw [hi.out, hd.out, HP.out, show prev b.cps (k + 1) = some x from HX.out]; go_light; simp [svcsOk, brsOk, cpsOk, *]⟩
                         case measure => simp [intOf]; omega)
              · obtain rfl : k = b.cps.length := by omega
                have HE := Lib.hid (show cpsOk b none b.cps = true by rw [hi.out, List.drop_length]; cases b.cps.length <;> rfl)
                clear hi hlt hk
                go_wp2
                go_ret
                exact ⟨ret_bool (by rw [HV.out, HE.out]), G.out.trans (Grow.wplus _ _)⟩
  · have HV := Lib.hid (show valid b = false by unfold valid; rw [decide_eq_false hsm]; rfl)
    go_enter Try.func16, Try.ntmps16
    go_wp2_with (go_at_call 60; refine (l1In_c _ _ _ _).mono ?_; rintro e w' ⟨rfl, rfl⟩)
    all_goals first
      | (go_ret; exact ⟨ret_bool HV.out.symm, (Grow.refl _).alloc _⟩)
      | (exfalso; go_light; refine hsm ?_; clear hsm HV; simp [inB] at *; omega)
end Go.Proofs.Ytnmknkdbeccmhaa
namespace Go.Proofs.Ytnmknkdbeccmhaa
open Go.RowKit
set_option linter.unusedSimpArgs false
set_option maxRecDepth 100000 in
set_option maxHeartbeats 8000000 in
theorem implValid_c (b : Book) {A1 A2 A3 : Option Addr} {c1 c2 c3 : Nat} (w : World) (h1 : Rows 13 svcC w A1 b.svcs) (h2 : Rows 7 cpyC w A2 b.cps) (h3 : Rows 2 brtC w A3 b.brs)
    (l1 : b.svcs.length ≤ 2000000) (l2 : b.cps.length ≤ 2000000) (l3 : b.brs.length ≤ 2000000) :
    Calls Try.prog 18 #[.agg #[.int .i64 b.now, .slice A1 b.svcs.length c1, .slice A2 b.cps.length c2, .slice A3 b.brs.length c3]] w fun e w' => e = .returned (.bool (valid b)) ∧ Grow w w' := by
  have R1 := Lib.hid (fun (w' : World) (hg : Grow w w') => h1.below hg)
  have R2 := Lib.hid (fun (w' : World) (hg : Grow w w') => h2.below hg)
  have R3 := Lib.hid (fun (w' : World) (hg : Grow w w') => h3.below hg)
  clear h1 h2 h3
  by_cases hsm : 0 ≤ b.now ∧ b.now ≤ 1000000 ∧ b.svcs.length ≤ 8 ∧ b.cps.length ≤ 200 ∧ b.brs.length ≤ 6
  · have HV := Lib.hid (show valid b = (svcsOk b.now none b.svcs && (brsOk none b.brs && cpsOk b none b.cps)) by unfold valid; rw [decide_eq_true hsm, Bool.true_and, Bool.and_assoc])
    obtain ⟨n1, n2, s1, s2, s3⟩ := hsm
    have hb : inB 0 b.now 1000000 = true := decide_eq_true ⟨n1, n2⟩
    go_enter Try.func18, Try.ntmps18
    go_wp2_with (go_at_call 68; refine (within_c _ _ _ _).mono ?_; rintro e w' ⟨rfl, rfl⟩)
    refine rebase ?_
    intro W hW
    have G := Lib.hid (show Grow w W by rw [hW.out]; exact (Grow.refl _).alloc _)
    have HB := Lib.hid (show BookBlk W w.heap.size b A1 A2 A3 c1 c2 c3 by rw [hW.out]; exact heap_alloc_new _ _)
    clear hW
    go_loopw [36] (fun i wr => ∃ (k : Nat), k ≤ b.svcs.length ∧ i = .int .i64 k ∧ Hid (Grow W wr) ∧ Hid (svcsOk b.now none b.svcs = svcsOk b.now (prev b.svcs k) (b.svcs.drop k))) (fun i _ => b.svcs.length - (intOf i).toNat)
    case atStart => exact ⟨0, Nat.zero_le _, rfl, Grow.wplus _ _, rfl⟩
    case round =>
      obtain ⟨k, hk, rfl, hgr, hi⟩ := hrel
      have GG := Lib.hid (G.out.trans hgr.out)
      by_cases hlt : k < b.svcs.length
      · obtain ⟨x, hx⟩ := ex_at hlt
        obtain ⟨bb, o, rfl, hbb, f0, f1, f2, f3, f4, f5, f6, f7, f8, f9, f10, f11, f12⟩ := svc_at (R1.out _ GG.out) hx
        have hd := Lib.hid (drop_at hx)
        have HX := Lib.hid hx
        clear hx
        have t2 : (0 : Int) ≤ (k : Int) := Int.natCast_nonneg _
        have t3 : (k : Int) < (b.svcs.length : Int) := by omega
        by_cases h0 : k = 0
        · have t4 : decide (0 < k) = false := decide_eq_false (by omega)
          have HP := Lib.hid (show prev b.svcs k = none by rw [h0]; rfl)
          clear h0
          rcases Bool.eq_false_or_eq_true (svcOk x b.now) with k1 | k1
          all_goals
            go_wp2
            refine rebase ?_
            intro W2 hW2
            have G2 := Lib.hid (show Grow wr W2 by rw [hW2.out]; exact (Grow.refl _).alloc _)
            have sb := blk_p (show W2.heap[wr.heap.size]? = _ by rw [hW2.out]; exact heap_alloc_new _ _)
            have s0 := sb 0
            have s1 := sb 1
            have s2 := sb 2
            have s3 := sb 3
            have s4 := sb 4
            have s5 := sb 5
            have s6 := sb 6
            have s7 := sb 7
            have s8 := sb 8
            have s9 := sb 9
            have s10 := sb 10
            have s11 := sb 11
            have s12 := sb 12
            obtain ⟨-, fb0, fb1, fb2, fb3⟩ := (HB.out.grow (hgr.out.trans G2.out)).p
            clear sb hW2
            refine region_quiet ⟨_, rfl⟩ (by kernel_rfl) (by kernel_rfl) ?_
            repeat (go_big_quiet_step ((go_at_call 69; exact quiet_grow (serviceOk_c x _ _))))
            refine wpQuiet_nil ?_
            rintro w2 ⟨y2, rfl⟩
            go_wp2
            first
              | (go_ret; exact ⟨ret_bool (by rw [HV.out, hi.out, hd.out, HP.out]; go_light; simp [svcsOk, brsOk, cpsOk, *]), (GG.out.trans G2.out).trans (Grow.wplus _ _)⟩)
              | (go_roundw
                 case rel => exact ⟨k + 1, by omega, by go_num, (hgr.out.trans G2.out).trans (Grow.wplus _ _), by unfold Hid; rw [hi.out, hd.out, HP.out, show prev b.svcs (k + 1) = some x from HX.out]; go_light; simp [svcsOk, brsOk, cpsOk, *]⟩
                 case measure => simp [intOf]; omega)
        · obtain ⟨q, hq⟩ : ∃ q, b.svcs[k - 1]? = some q := ex_at (by omega)
          have t4 : decide (0 < k) = true := decide_eq_true (by omega)
          have t5 : IntKind.i64.wrap ((k : Int) - 1) = (k : Int) - 1 := IntWalk.i64_in _ (by omega)
          have t6 : (0 : Int) ≤ (k : Int) - 1 := by omega
          have t7 : (k : Int) - 1 < (b.svcs.length : Int) := by omega
          have t8 : ((k : Int) - 1).toNat = k - 1 := by omega
          have HP := Lib.hid (show prev b.svcs k = some q by cases k with | zero => exact absurd rfl h0 | succ j => exact hq)
          have HQ := Lib.hid hq
          clear h0 hq
          rcases chain2 (svcOk x b.now) (ltN q.name x.name) with k1 | ⟨k1, k2⟩ | ⟨k1, k2⟩
          all_goals
            try have k3 := le_of_lt k2
            try have k3 := le_of_not k2
            go_wp2
            refine rebase ?_
            intro W2 hW2
            have G2 := Lib.hid (show Grow wr W2 by rw [hW2.out]; exact (Grow.refl _).alloc _)
            have sb := blk_p (show W2.heap[wr.heap.size]? = _ by rw [hW2.out]; exact heap_alloc_new _ _)
            have s0 := sb 0
            have s1 := sb 1
            have s2 := sb 2
            have s3 := sb 3
            have s4 := sb 4
            have s5 := sb 5
            have s6 := sb 6
            have s7 := sb 7
            have s8 := sb 8
            have s9 := sb 9
            have s10 := sb 10
            have s11 := sb 11
            have s12 := sb 12
            obtain ⟨-, fb0, fb1, fb2, fb3⟩ := (HB.out.grow (hgr.out.trans G2.out)).p
            obtain ⟨bb', o', he, -, g0, -⟩ := svc_p (R1.out _ (GG.out.trans G2.out)) HQ.out
            simp only [Option.some.injEq, Addr.mk.injEq] at he
            obtain ⟨rfl, rfl, -⟩ := he
            clear sb hW2
            refine region_quiet ⟨_, rfl⟩ (by kernel_rfl) (by kernel_rfl) ?_
            repeat (go_big_quiet_step ((go_at_call 69; exact quiet_grow (serviceOk_c x _ _))))
            refine wpQuiet_nil ?_
            rintro w2 ⟨y2, rfl⟩
            go_wp2
            first
              | (go_ret; exact ⟨ret_bool (by rw [HV.out, hi.out, hd.out, HP.out]; go_light; simp [svcsOk, brsOk, cpsOk, *]), (GG.out.trans G2.out).trans (Grow.wplus _ _)⟩)
              | (go_roundw
                 case rel => exact ⟨k + 1, by omega, by go_num, (hgr.out.trans G2.out).trans (Grow.wplus _ _), by unfold Hid; rw [hi.out, hd.out, HP.out, show prev b.svcs (k + 1) = some x from HX.out]; go_light; simp [svcsOk, brsOk, cpsOk, *]⟩
                 case measure => simp [intOf]; omega)
      · obtain rfl : k = b.svcs.length := by omega
        have HE := Lib.hid (show svcsOk b.now none b.svcs = true by rw [hi.out, List.drop_length]; cases b.svcs.length <;> rfl)
        clear hi hlt hk
        have HN := Lib.hid (fun x hx => svcNext (svcsOk_next HE.out x hx))
        replace HV := Lib.hid (HV.out.trans (by rw [HE.out, Bool.true_and]))
        clear HE
        obtain ⟨-, e0, e1, e2, e3⟩ := (HB.out.grow hgr.out).at_
        go_wp2
        go_loopw [66] (fun i wr => ∃ (k : Nat), k ≤ b.brs.length ∧ i = .int .i64 k ∧ Hid (Grow W wr) ∧ Hid (brsOk none b.brs = brsOk (prev b.brs k) (b.brs.drop k))) (fun i _ => b.brs.length - (intOf i).toNat)
        case atStart => exact ⟨0, Nat.zero_le _, rfl, hgr.out, rfl⟩
        case round =>
          obtain ⟨k, hk, rfl, hgr, hi⟩ := hrel
          have GG := Lib.hid (G.out.trans hgr.out)
          by_cases hlt : k < b.brs.length
          · obtain ⟨x, hx⟩ := ex_at hlt
            obtain ⟨bb, o, rfl, hbb, f0, f1⟩ := brt_at (R3.out _ GG.out) hx
            have hd := Lib.hid (drop_at hx)
            have HX := Lib.hid hx
            clear hx
            have t2 : (0 : Int) ≤ (k : Int) := Int.natCast_nonneg _
            have t3 : (k : Int) < (b.brs.length : Int) := by omega
            by_cases h0 : k = 0
            · have t4 : decide (0 < k) = false := decide_eq_false (by omega)
              have HP := Lib.hid (show prev b.brs k = none by rw [h0]; rfl)
              clear h0
              rcases Bool.eq_false_or_eq_true (nameOk x.name) with k1 | k1
              all_goals
                go_wp2
                refine rebase ?_
                intro W2 hW2
                have G2 := Lib.hid (show Grow wr W2 by rw [hW2.out]; exact (Grow.refl _).alloc _)
                have sb := blk_p (show W2.heap[wr.heap.size]? = _ by rw [hW2.out]; exact heap_alloc_new _ _)
                have s0 := sb 0
                obtain ⟨-, fb0, fb1, fb2, fb3⟩ := (HB.out.grow (hgr.out.trans G2.out)).p
                clear sb hW2
                refine region_quiet ⟨_, rfl⟩ (by kernel_rfl) (by kernel_rfl) ?_
                repeat (go_big_quiet_step ((go_at_call 70; exact quiet_same (isName_c _ _))))
                refine wpQuiet_nil ?_
                rintro w2 ⟨y2, rfl⟩
                go_wp2
                first
                  | (go_ret; exact ⟨ret_bool (by rw [HV.out, hi.out, hd.out, HP.out]; go_light; simp [svcsOk, brsOk, cpsOk, *]), (GG.out.trans G2.out).trans (Grow.wplus _ _)⟩)
                  | (go_roundw
                     case rel => exact ⟨k + 1, by omega, by go_num, (hgr.out.trans G2.out).trans (Grow.wplus _ _), by unfold Hid; rw [hi.out, hd.out, HP.out, show prev b.brs (k + 1) = some x from HX.out]; go_light; simp [svcsOk, brsOk, cpsOk, *]⟩
                     case measure => simp [intOf]; omega)
            · obtain ⟨q, hq⟩ : ∃ q, b.brs[k - 1]? = some q := ex_at (by omega)
              have t4 : decide (0 < k) = true := decide_eq_true (by omega)
              have t5 : IntKind.i64.wrap ((k : Int) - 1) = (k : Int) - 1 := IntWalk.i64_in _ (by omega)
              have t6 : (0 : Int) ≤ (k : Int) - 1 := by omega
              have t7 : (k : Int) - 1 < (b.brs.length : Int) := by omega
              have t8 : ((k : Int) - 1).toNat = k - 1 := by omega
              have HP := Lib.hid (show prev b.brs k = some q by cases k with | zero => exact absurd rfl h0 | succ j => exact hq)
              have HQ := Lib.hid hq
              clear h0 hq
              rcases chain2 (nameOk x.name) (ltN q.name x.name) with k1 | ⟨k1, k2⟩ | ⟨k1, k2⟩
              all_goals
                try have k3 := le_of_lt k2
                try have k3 := le_of_not k2
                go_wp2
                refine rebase ?_
                intro W2 hW2
                have G2 := Lib.hid (show Grow wr W2 by rw [hW2.out]; exact (Grow.refl _).alloc _)
                have sb := blk_p (show W2.heap[wr.heap.size]? = _ by rw [hW2.out]; exact heap_alloc_new _ _)
                have s0 := sb 0
                obtain ⟨-, fb0, fb1, fb2, fb3⟩ := (HB.out.grow (hgr.out.trans G2.out)).p
                obtain ⟨bb', o', he, -, g0, -⟩ := brt_p (R3.out _ (GG.out.trans G2.out)) HQ.out
                simp only [Option.some.injEq, Addr.mk.injEq] at he
                obtain ⟨rfl, rfl, -⟩ := he
                clear sb hW2
                refine region_quiet ⟨_, rfl⟩ (by kernel_rfl) (by kernel_rfl) ?_
                repeat (go_big_quiet_step ((go_at_call 70; exact quiet_same (isName_c _ _))))
                refine wpQuiet_nil ?_
                rintro w2 ⟨y2, rfl⟩
                go_wp2
                first
                  | (go_ret; exact ⟨ret_bool (by rw [HV.out, hi.out, hd.out, HP.out]; go_light; simp [svcsOk, brsOk, cpsOk, *]), (GG.out.trans G2.out).trans (Grow.wplus _ _)⟩)
                  | (go_roundw
                     case rel => exact ⟨k + 1, by omega, by go_num, (hgr.out.trans G2.out).trans (Grow.wplus _ _), by unfold Hid; rw [hi.out, hd.out, HP.out, show prev b.brs (k + 1) = some x from HX.out]; go_light; simp [svcsOk, brsOk, cpsOk, *]⟩
                     case measure => simp [intOf]; omega)
          · obtain rfl : k = b.brs.length := by omega
            have HE := Lib.hid (show brsOk none b.brs = true by rw [hi.out, List.drop_length]; cases b.brs.length <;> rfl)
            clear hi hlt hk
            replace HV := Lib.hid (HV.out.trans (by rw [HE.out, Bool.true_and]))
            clear HE
            obtain ⟨-, e0, e1, e2, e3⟩ := (HB.out.grow hgr.out).at_
            go_wp2
            go_loopw [95] (fun i wr => ∃ (k : Nat), k ≤ b.cps.length ∧ i = .int .i64 k ∧ Hid (Grow W wr) ∧ Hid (cpsOk b none b.cps = cpsOk b (prev b.cps k) (b.cps.drop k))) (fun i _ => b.cps.length - (intOf i).toNat)
            case atStart => exact ⟨0, Nat.zero_le _, rfl, hgr.out, rfl⟩
            case round =>
              obtain ⟨k, hk, rfl, hgr, hi⟩ := hrel
              have GG := Lib.hid (G.out.trans hgr.out)
              by_cases hlt : k < b.cps.length
              · obtain ⟨x, hx⟩ := ex_at hlt
                obtain ⟨bb, o, rfl, hbb, f0, f1, f2, f3, f4, f5, f6⟩ := cpy_at (R2.out _ GG.out) hx
                have hd := Lib.hid (drop_at hx)
                have HX := Lib.hid hx
                clear hx
                have t2 : (0 : Int) ≤ (k : Int) := Int.natCast_nonneg _
                have t3 : (k : Int) < (b.cps.length : Int) := by omega
                rcases hq : svcAt b.svcs x.service with _ | i
                · have Hr := Lib.hid (show elemPtr 13 A1 (svcAt b.svcs x.service) = none by rw [hq]; rfl)
                  have HC := Lib.hid (show cpyOk b x = false by simp [cpyOk, hq])
                  clear hq
                  go_wp2_with (go_at_call 71; refine (service_r b _ _ none (HB.out.grow (hgr.out.trans ((Grow.refl _).alloc _))) (R1.out _ (GG.out.trans ((Grow.refl _).alloc _))) l1 Hr.out).mono ?_; rintro e w' ⟨rfl, rfl⟩)
                  refine rebase ?_
                  intro W2 hW2
                  have G2 := Lib.hid (show Grow wr W2 by rw [hW2.out]; exact (Grow.refl _).alloc _)
                  clear hW2
                  refine region_quiet ⟨_, rfl⟩ (by kernel_rfl) (by kernel_rfl) ?_
                  repeat (go_big_quiet_step (fail))
                  refine wpQuiet_nil ?_
                  rintro w2 ⟨y2, rfl⟩
                  go_wp2
                  go_ret
                  exact ⟨ret_bool (by rw [HV.out, hi.out, hd.out, cpsOk_no HC.out]), (GG.out.trans G2.out).trans (Grow.wplus _ _)⟩
                · obtain ⟨s, hs, -⟩ := svcAt_some hq
                  obtain ⟨hx1, hx2⟩ := HN.out s (List.mem_of_getElem? hs)
                  obtain ⟨b1, o1, hA, -⟩ := (R1.out _ G.out).at_ hs
                  subst hA
                  have Hr := Lib.hid (show elemPtr 13 (some ⟨b1, o1, none⟩) (svcAt b.svcs x.service) = some ⟨b1, o1 + i * 13, none⟩ by rw [hq]; rfl)
                  have HC := Lib.hid (show cpyOk b x = cpyNum b s x by simp [cpyOk, hq, hs])
                  have HS := Lib.hid hs
                  clear hq hs
                  rcases chain4 (inB 1 x.number (s.next - 1)) (inB 1 x.version b.now) (inB 1 x.image 1000000) (inB 1 x.state 4) with k1 | ⟨k1, k2⟩ | ⟨k1, k2, k3⟩ | ⟨k1, k2, k3, k4⟩ | ⟨k1, k2, k3, k4⟩
                  all_goals
                    go_wp2_with (go_at_call 71; refine (service_r b _ _ _ (HB.out.grow (hgr.out.trans ((Grow.refl _).alloc _))) (R1.out _ (GG.out.trans ((Grow.refl _).alloc _))) l1 Hr.out).mono ?_; rintro e w' ⟨rfl, rfl⟩)
                    refine rebase ?_
                    intro W2 hW2
                    have G2 := Lib.hid (show Grow wr W2 by rw [hW2.out]; exact (Grow.refl _).alloc _)
                    have hz0 : wr.heap.size < W2.heap.size := by rw [hW2.out]; simp
                    have sb := blk_p (show W2.heap[wr.heap.size]? = _ by rw [hW2.out]; exact heap_alloc_new _ _)
                    have s0 := sb 0
                    have s1 := sb 1
                    have s2 := sb 2
                    have s3 := sb 3
                    have s4 := sb 4
                    have s6 := sb 6
                    obtain ⟨-, fb0, fb1, fb2, fb3⟩ := (HB.out.grow (hgr.out.trans G2.out)).p
                    obtain ⟨b2, o2, he, hb2, -, -, -, -, -, -, -, g7, -⟩ := svc_p (R1.out _ (GG.out.trans G2.out)) HS.out
                    simp only [Option.some.injEq, Addr.mk.injEq] at he
                    obtain ⟨rfl, rfl, -⟩ := he
                    clear sb hW2
                    refine region_quiet ⟨_, rfl⟩ (by kernel_rfl) (by kernel_rfl) ?_
                    repeat (go_big_quiet_step ((go_at_call 68; exact quiet_same (within_c _ _ _ _))))
                    refine wpQuiet_nil ?_
                    rintro w2 ⟨y2, rfl⟩
                    try clear f0 f1 f2 f3 f4 f5 f6
                  · go_wp2
                    go_ret
                    exact ⟨ret_bool (by rw [HV.out, hi.out, hd.out, cpsOk_no (HC.out.trans (by simp [cpyNum, k1]))]), (GG.out.trans G2.out).trans (Grow.wplus _ _)⟩
                  · go_wp2
                    go_ret
                    exact ⟨ret_bool (by rw [HV.out, hi.out, hd.out, cpsOk_no (HC.out.trans (by simp [cpyNum, k2]))]), (GG.out.trans G2.out).trans (Grow.wplus _ _)⟩
                  · go_wp2
                    go_ret
                    exact ⟨ret_bool (by rw [HV.out, hi.out, hd.out, cpsOk_no (HC.out.trans (by simp [cpyNum, k3]))]), (GG.out.trans G2.out).trans (Grow.wplus _ _)⟩
                  · go_wp2
                    go_ret
                    exact ⟨ret_bool (by rw [HV.out, hi.out, hd.out, cpsOk_no (HC.out.trans (by simp [cpyNum, k4]))]), (GG.out.trans G2.out).trans (Grow.wplus _ _)⟩
                  · replace HC := Lib.hid (HC.out.trans (show _ = (if x.state = 1 then x.berth.toList.isEmpty else (brtAt b.brs x.berth).isSome) by simp [cpyNum, k1, k2, k3, k4]))
                    by_cases st : x.state = 1
                    · have u1 : (x.state == 1) = true := by simpa using st
                      have u2 : (x.state != 1) = false := by simpa using st
                      have u3 : x.state ≤ 1 := by omega
                      have u4 : 1 ≤ x.state := by omega
                      have HC2 := Lib.hid (HC.out.trans (if_pos st))
                      clear st HC
                      rcases Bool.eq_false_or_eq_true x.berth.toList.isEmpty with be | be
                      all_goals replace HC2 := Lib.hid (HC2.out.trans be)
                      · by_cases h0 : k = 0
                        · have t4 : decide (0 < k) = false := decide_eq_false (by omega)
                          have HP := Lib.hid (show prev b.cps k = none by rw [h0]; rfl)
                          clear h0
                          go_wp2_with (go_at_call 72; refine (berth_c b _ _ (HB.out.grow ((hgr.out.trans G2.out).trans (Grow.wplus _ _))) (R3.out _ ((GG.out.trans G2.out).trans (Grow.wplus _ _))) l3).mono ?_; rintro e w' ⟨rfl, rfl⟩)
                          go_roundw
                          case rel => exact ⟨k + 1, by omega, by go_num, (hgr.out.trans G2.out).trans (Grow.wplus _ _), by unfold Hid; rw [hi.out, hd.out, HP.out, show prev b.cps (k + 1) = some x from HX.out, cpsOk, HC2.out, Bool.true_and]⟩
                          case measure => simp [intOf]; omega
                        · obtain ⟨q, hq⟩ : ∃ q, b.cps[k - 1]? = some q := ex_at (by omega)
                          have t4 : decide (0 < k) = true := decide_eq_true (by omega)
                          have t6 : (0 : Int) ≤ (k : Int) - 1 := by omega
                          have t7 : (k : Int) - 1 < (b.cps.length : Int) := by omega
                          have t8 : ((k : Int) - 1).toNat = k - 1 := by omega
                          have HP := Lib.hid (show prev b.cps k = some q by cases k with | zero => exact absurd rfl h0 | succ j => exact hq)
                          obtain ⟨bb', o', he, hbq, q0, q1, q2, q3, q4, q5, q6⟩ := cpy_p (R2.out _ (GG.out.trans G2.out)) hq
                          simp only [Option.some.injEq, Addr.mk.injEq] at he
                          obtain ⟨rfl, rfl, -⟩ := he
                          clear h0 hq
                          have HA := Lib.hid (ahead_not q x)
                          have hz1 : wr.heap.size < (wplus W2 y2).heap.size := by rw [wplus_size]; omega
                          go_wp2_with (go_at_call 72; refine (berth_c b _ _ (HB.out.grow ((hgr.out.trans G2.out).trans (Grow.wplus _ _))) (R3.out _ ((GG.out.trans G2.out).trans (Grow.wplus _ _))) l3).mono ?_; rintro e w' ⟨rfl, rfl⟩)
                          all_goals first
                            | (go_ret; exact ⟨ret_bool (by rw [HV.out, hi.out, hd.out, HP.out, cpsOk, HC2.out, HA.out]; go_light; simp_all), ((GG.out.trans G2.out).trans (Grow.wplus _ _)).alloc _⟩)
                            | (go_roundw
                               case rel => exact ⟨k + 1, by omega, by go_num, ((hgr.out.trans G2.out).trans (Grow.wplus _ _)).alloc _, by unfold Hid; rw [hi.out, hd.out, HP.out, show prev b.cps (k + 1) = some x from HX.out, cpsOk, HC2.out, HA.out]; go_light; simp_all⟩
                               case measure => simp [intOf]; omega)
                      · go_wp2_with (go_at_call 72; refine (berth_c b _ _ (HB.out.grow ((hgr.out.trans G2.out).trans (Grow.wplus _ _))) (R3.out _ ((GG.out.trans G2.out).trans (Grow.wplus _ _))) l3).mono ?_; rintro e w' ⟨rfl, rfl⟩)
                        go_ret
                        exact ⟨ret_bool (by rw [HV.out, hi.out, hd.out, cpsOk_no HC2.out]), (GG.out.trans G2.out).trans (Grow.wplus _ _)⟩
                    · have u1 : (x.state == 1) = false := by simpa using st
                      have u2 : (x.state != 1) = true := by simpa using st
                      have u3 : ¬ x.state = 1 := st
                      have HC2 := Lib.hid (HC.out.trans (if_neg st))
                      clear st HC
                      rcases hq : brtAt b.brs x.berth with _ | j
                      · have hp : elemPtr 2 A3 (brtAt b.brs x.berth) = none := by rw [hq]; rfl
                        replace HC2 := Lib.hid (HC2.out.trans (show _ = false by simp [hq]))
                        clear hq
                        go_wp2_with (go_at_call 72; refine (berth_c b _ _ (HB.out.grow ((hgr.out.trans G2.out).trans (Grow.wplus _ _))) (R3.out _ ((GG.out.trans G2.out).trans (Grow.wplus _ _))) l3).mono ?_; rintro e w' ⟨rfl, rfl⟩)
                        go_ret
                        exact ⟨ret_bool (by rw [HV.out, hi.out, hd.out, cpsOk_no HC2.out]), (GG.out.trans G2.out).trans (Grow.wplus _ _)⟩
                      · obtain ⟨z, hz, -⟩ := fIdx_some0 hq
                        obtain ⟨b3, o3, hA, -⟩ := (R3.out _ G.out).at_ hz
                        subst hA
                        have hp : elemPtr 2 (some ⟨b3, o3, none⟩) (brtAt b.brs x.berth) = some ⟨b3, o3 + j * 2, none⟩ := by rw [hq]; rfl
                        replace HC2 := Lib.hid (HC2.out.trans (show _ = true by simp [hq]))
                        clear hq hz
                        by_cases h0 : k = 0
                        · have t4 : decide (0 < k) = false := decide_eq_false (by omega)
                          have HP := Lib.hid (show prev b.cps k = none by rw [h0]; rfl)
                          clear h0
                          go_wp2_with (go_at_call 72; refine (berth_c b _ _ (HB.out.grow ((hgr.out.trans G2.out).trans (Grow.wplus _ _))) (R3.out _ ((GG.out.trans G2.out).trans (Grow.wplus _ _))) l3).mono ?_; rintro e w' ⟨rfl, rfl⟩)
                          go_roundw
                          case rel => exact ⟨k + 1, by omega, by go_num, (hgr.out.trans G2.out).trans (Grow.wplus _ _), by unfold Hid; rw [hi.out, hd.out, HP.out, show prev b.cps (k + 1) = some x from HX.out, cpsOk, HC2.out, Bool.true_and]⟩
                          case measure => simp [intOf]; omega
                        · obtain ⟨q, hq⟩ : ∃ q, b.cps[k - 1]? = some q := ex_at (by omega)
                          have t4 : decide (0 < k) = true := decide_eq_true (by omega)
                          have t6 : (0 : Int) ≤ (k : Int) - 1 := by omega
                          have t7 : (k : Int) - 1 < (b.cps.length : Int) := by omega
                          have t8 : ((k : Int) - 1).toNat = k - 1 := by omega
                          have HP := Lib.hid (show prev b.cps k = some q by cases k with | zero => exact absurd rfl h0 | succ j => exact hq)
                          obtain ⟨bb', o', he, hbq, q0, q1, q2, q3, q4, q5, q6⟩ := cpy_p (R2.out _ (GG.out.trans G2.out)) hq
                          simp only [Option.some.injEq, Addr.mk.injEq] at he
                          obtain ⟨rfl, rfl, -⟩ := he
                          clear h0 hq
                          have HA := Lib.hid (ahead_not q x)
                          have hz1 : wr.heap.size < (wplus W2 y2).heap.size := by rw [wplus_size]; omega
                          go_wp2_with (go_at_call 72; refine (berth_c b _ _ (HB.out.grow ((hgr.out.trans G2.out).trans (Grow.wplus _ _))) (R3.out _ ((GG.out.trans G2.out).trans (Grow.wplus _ _))) l3).mono ?_; rintro e w' ⟨rfl, rfl⟩)
                          all_goals first
                            | (go_ret; exact ⟨ret_bool (by rw [HV.out, hi.out, hd.out, HP.out, cpsOk, HC2.out, HA.out]; go_light; simp_all), ((GG.out.trans G2.out).trans (Grow.wplus _ _)).alloc _⟩)
                            | (go_roundw
                               case rel => exact ⟨k + 1, by omega, by go_num, ((hgr.out.trans G2.out).trans (Grow.wplus _ _)).alloc _, by unfold Hid; rw [hi.out, hd.out, HP.out, show prev b.cps (k + 1) = some x from HX.out, cpsOk, HC2.out, HA.out]; go_light; simp_all⟩
                               case measure => simp [intOf]; omega)
              · obtain rfl : k = b.cps.length := by omega
                have HE := Lib.hid (show cpsOk b none b.cps = true by rw [hi.out, List.drop_length]; cases b.cps.length <;> rfl)
                clear hi hlt hk
                go_wp2
                go_ret
                exact ⟨ret_bool (by rw [HV.out, HE.out]), GG.out⟩
  · have HV := Lib.hid (show valid b = false by unfold valid; rw [decide_eq_false hsm]; rfl)
    go_enter Try.func18, Try.ntmps18
    go_wp2_with (go_at_call 68; refine (within_c _ _ _ _).mono ?_; rintro e w' ⟨rfl, rfl⟩)
    all_goals first
      | (go_ret; exact ⟨ret_bool HV.out.symm, (Grow.refl _).alloc _⟩)
      | (exfalso; go_light; refine hsm ?_; clear hsm HV; simp [inB] at *; omega)
end Go.Proofs.Ytnmknkdbeccmhaa
