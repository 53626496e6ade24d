/- The walks of the tests on copies and on whole books. -/
import Derived.Test.YtnmknkdbeccmhaaB2
namespace Go.Proofs.Ytnmknkdbeccmhaa
open Go.RowKit
set_option linter.unusedSimpArgs false

theorem svcAt_some {xs : List Svc} {nm : ByteArray} {i : Nat} (h : svcAt xs nm = some i) : ∃ x, xs[i]? = some x ∧ eqN x.name nm = true := fIdx_some0 h

set_option maxRecDepth 100000 in
set_option maxHeartbeats 4000000 in
theorem l1CopyOk_c (b : Book) (c : Cpy) {A1 A2 A3 : Option Addr} {n2 c1 c2 c3 : Nat} (w : World) (h : Rows 13 svcC w A1 b.svcs) (hl : b.svcs.length ≤ 2000000) (h3 : Rows 2 brtC w A3 b.brs) (hl3 : b.brs.length ≤ 2000000)
    (hok : ∀ x ∈ b.svcs, 1 ≤ x.next ∧ x.next ≤ 1000000) :
    Calls Try.prog 63 #[.agg #[.int .i64 b.now, .slice A1 b.svcs.length c1, .slice A2 n2 c2, .slice A3 b.brs.length c3], .agg #[.string c.service, .int .i64 c.number, .int .i64 c.version, .int .i64 c.image, .int .i64 c.state, .bool c.ending, .string c.berth]] w fun e w' => e = .returned (.bool (cpyOk b c)) ∧ Grow w w' := by
  have HH := fun (w' : World) (hg : Grow w w') => h.below hg
  have H := Lib.hid HH
  have H3 := Lib.hid (fun (w' : World) (hg : Grow w w') => h3.below hg)
  clear h h3 HH
  rcases hq : svcAt b.svcs c.service with _ | i
  · have Hr := Lib.hid (show idxI (svcAt b.svcs c.service) = -1 by rw [hq]; rfl)
    have HR := Lib.hid (show cpyOk b c = false by simp [cpyOk, hq])
    clear hq hok
    go_enter Try.func63, Try.ntmps63
    go_wp2_with (go_at_call 121; refine (l1Service_r b _ _ (-1) (H.out _ (((Grow.refl _).alloc _).alloc _)) hl Hr.out).mono ?_; rintro e w' ⟨rfl, hg⟩)
    have G := Lib.hid ((((Grow.refl _).alloc _).alloc _).trans hg)
    clear hg
    refine at_plus ?_
    refine region_quiet ⟨_, rfl⟩ (by kernel_rfl) (by kernel_rfl) ?_
    repeat (go_big_quiet_step (fail))
    refine wpQuiet_nil ?_
    rintro w2 ⟨y, rfl⟩
    go_wp2
    go_ret
    exact ⟨ret_bool HR.out.symm, G.out.trans (Grow.wplus _ _)⟩
  · obtain ⟨x, hx, -⟩ := svcAt_some hq
    obtain ⟨hx1, hx2⟩ := hok x (List.mem_of_getElem? hx)
    have hil : i < b.svcs.length := (List.getElem?_eq_some_iff.1 hx).1
    have Hr := Lib.hid (show idxI (svcAt b.svcs c.service) = (i : Int) by rw [hq]; rfl)
    have HR := Lib.hid (show cpyOk b c = cpyNum b x c by simp [cpyOk, hq, hx])
    have HX := Lib.hid hx
    clear hq hok hx
    rcases chain4 (inB 1 c.number (x.next - 1)) (inB 1 c.version b.now) (inB 1 c.image 1000000) (inB 1 c.state 4) with k1 | ⟨k1, k2⟩ | ⟨k1, k2, k3⟩ | ⟨k1, k2, k3, k4⟩ | ⟨k1, k2, k3, k4⟩
    all_goals
      go_enter Try.func63, Try.ntmps63
      go_wp2_with (go_at_call 121; refine (l1Service_r b _ _ i (H.out _ (((Grow.refl _).alloc _).alloc _)) hl Hr.out).mono ?_; rintro e w' ⟨rfl, hg⟩)
      have G := Lib.hid ((((Grow.refl _).alloc _).alloc _).trans hg)
      have fb := blk_p ((hg.block w.heap.size (by simp; omega)).trans (heap_alloc2 w _ _))
      have fb1 := fb 1
      have fb0 := fb 0
      have fb2 := fb 2
      have fb3 := fb 3
      have fc := blk_p ((hg.block (w.heap.size + 1) (by simp)).trans (heap_alloc2_new w _ _))
      have fc1 := fc 1
      have fc2 := fc 2
      have fc3 := fc 3
      have fc4 := fc 4
      have fc6 := fc 6
      clear hg fb fc
      obtain ⟨bb, o, rfl, hbb, -, -, -, -, -, -, -, fx, -⟩ := svc_p (H.out _ G.out) HX.out
      have t0 : decide ((i : Int) < 0) = false := by simp
      have t1 : (0 : Int) ≤ (i : Int) := Int.natCast_nonneg _
      have t2 : (i : Int) < (b.svcs.length : Int) := by omega
      refine at_plus ?_
      refine region_quiet ⟨_, rfl⟩ (by kernel_rfl) (by kernel_rfl) ?_
      repeat (go_big_quiet_step ((go_at_call 60; exact quiet_same (l1In_c _ _ _ _))))
      refine wpQuiet_nil ?_
      rintro w2 ⟨y, rfl⟩
    all_goals go_wp2_with (go_at_call 122; refine (l1Berth_c b _ _ ((H3.out _ G.out).plus _) hl3).mono ?_; rintro e w3 ⟨rfl, hg⟩)
    all_goals
      go_ret
      refine ⟨ret_bool (HR.out.trans ?_).symm, ?_⟩
      · go_light
        simp_all [cpyNum, idxI_ge]
      · first
          | exact (G.out.trans (Grow.wplus _ _)).trans hg
          | exact G.out.trans (Grow.wplus _ _)
end Go.Proofs.Ytnmknkdbeccmhaa
