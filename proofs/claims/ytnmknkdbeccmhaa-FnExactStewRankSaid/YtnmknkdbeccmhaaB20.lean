/- The walks of StewWorldOk, the reference's and the program's. -/
import Derived.Test.YtnmknkdbeccmhaaB5
import Derived.Test.YtnmknkdbeccmhaaB14
import Derived.Test.YtnmknkdbeccmhaaM9
namespace Go.Proofs.Ytnmknkdbeccmhaa
open Go.RowKit
set_option linter.unusedSimpArgs false
set_option linter.unusedVariables false

theorem pastOk_no {now : Int} {q : Option Book} {x : Book} {xs : List Book} (h : valid x = false) : pastOk now q (x :: xs) = false := by cases q <;> simp [pastOk, h]
theorem heap_eq' {W w : World} (h : Hid (W = w)) {g : Nat} {o : Obj} (hb : w.heap[g]? = some o) : W.heap[g]? = some o := by rw [h.out]; exact hb
theorem grow_eq' {V W w : World} (h : Hid (W = w)) (hb : Grow V w) : Grow V W := by rw [h.out]; exact hb
theorem cell_p' {w : World} {g i : Nat} {u : Value} (h : w.cell? ⟨g, i, none⟩ = some u) (y : Ext) : (wplus w y).cell? ⟨g, i, none⟩ = some u := ((Grow.wplus w y).cell (World.block_lt_of_cell? w _ h)).trans h
theorem lt_of_le_b {a b : Int} {c : Bool} (h : decide (a ≤ b) = c) : decide (b < a) = !c := by cases c <;> simp at h ⊢ <;> omega
theorem rename' {P : Program} {c : Code} {Q : Exit → Act → World → Prop} {a : Act} {w : World} (h : ∀ W : World, Hid (W = w) → Code.wp P c Q a W) : Code.wp P c Q a w := h w rfl
theorem box5 {w : World} {g : Nat} {u0 u1 u2 u3 u4 : Value} {T : TypeId} {fr : Nat × Nat} (h : w.heap[g]? = some (.cells #[u0, u1, u2, u3, u4] T fr)) :
    w.cell? ⟨g, 0, none⟩ = some u0 ∧ w.cell? ⟨g, 1, none⟩ = some u1 ∧ w.cell? ⟨g, 2, none⟩ = some u2 ∧ w.cell? ⟨g, 3, none⟩ = some u3 ∧ w.cell? ⟨g, 4, none⟩ = some u4 :=
  ⟨cell_of_row w g 0 _ _ _ h, cell_of_row w g 1 _ _ _ h, cell_of_row w g 2 _ _ _ h, cell_of_row w g 3 _ _ _ h, cell_of_row w g 4 _ _ _ h⟩
set_option maxRecDepth 100000 in
set_option maxHeartbeats 4000000 in
theorem specWorldOk_c (v : Wld) {AP A1 A2 A3 : Option Addr} {cP c1 c2 c3 : Nat} (w : World) (hp : BooksAt w AP v.past) (h1 : Rows 13 svcC w A1 v.book.svcs) (h2 : Rows 7 cpyC w A2 v.book.cps) (h3 : Rows 2 brtC w A3 v.book.brs)
    (lp : v.past.length ≤ 2000000) (sp : ∀ x ∈ v.past, Sized x) (sb : Sized v.book) :
    Calls Try.prog 21 #[.agg #[.slice AP v.past.length cP, .int .i64 v.book.now, .slice A1 v.book.svcs.length c1, .slice A2 v.book.cps.length c2, .slice A3 v.book.brs.length c3]] w fun e w' => e = .returned (.bool (worldOk v)) ∧ Grow w w' := by
  have RP := Lib.hid (fun (w' : World) (hg : Grow w w') => hp.below hg)
  have R1 := Lib.hid (fun (w' : World) (hg : Grow w w') => h1.below hg)
  have R2 := Lib.hid (fun (w' : World) (hg : Grow w w') => h2.below hg)
  have R3 := Lib.hid (fun (w' : World) (hg : Grow w w') => h3.below hg)
  have SP := Lib.hid sp
  obtain ⟨l1, l2, l3⟩ := sb
  clear hp h1 h2 h3 sp
  go_enter Try.func21, Try.ntmps21
  go_wp2_with fail
  refine (specValid_c v.book _ (R1.out _ (by (repeat (first | with_reducible exact Grow.refl _ | with_reducible assumption | with_reducible refine Grow.drew ?_ | with_reducible refine Grow.alloc ?_ _ | (with_reducible refine Grow.set ?_ ?_ _; rotate_left; (first | (dsimp only; omega) | (simp <;> omega))))))) (R2.out _ (by (repeat (first | with_reducible exact Grow.refl _ | with_reducible assumption | with_reducible refine Grow.drew ?_ | with_reducible refine Grow.alloc ?_ _ | (with_reducible refine Grow.set ?_ ?_ _; rotate_left; (first | (dsimp only; omega) | (simp <;> omega))))))) (R3.out _ (by (repeat (first | with_reducible exact Grow.refl _ | with_reducible assumption | with_reducible refine Grow.drew ?_ | with_reducible refine Grow.alloc ?_ _ | (with_reducible refine Grow.set ?_ ?_ _; rotate_left; (first | (dsimp only; omega) | (simp <;> omega))))))) l1 l2 l3).mono ?_
  rintro e w1 ⟨rfl, hg1⟩
  have G1 := Lib.hid (Grow.trans (show Grow w _ by (repeat (first | with_reducible exact Grow.refl _ | with_reducible assumption | with_reducible refine Grow.drew ?_ | with_reducible refine Grow.alloc ?_ _ | (with_reducible refine Grow.set ?_ ?_ _; rotate_left; (first | (dsimp only; omega) | (simp <;> omega)))))) hg1)
  have X1 := Lib.hid (blk_grow (heap_alloc_new w _) hg1)
  obtain ⟨x0, x1, x2, x3, x4⟩ := box5 X1.out
  clear hg1
  rcases hv : valid v.book
  · have HF := Lib.hid (show worldOk v = false by simp [worldOk, hv])
    go_wp2
    go_ret
    exact ⟨ret_bool HF.out.symm, G1.out⟩
  · by_cases h8 : v.past.length ≤ 8
    · have HF := Lib.hid (show worldOk v = pastOk v.book.now none v.past by simp [worldOk, hv, h8])
      go_wp2_with fail
      refine rebase ?_
      intro W hW
      have GW := Lib.hid (show Grow w W from grow_eq' hW G1.out)
      have XW := Lib.hid (heap_eq' hW X1.out)
      clear hW x0 x1 x2 x3 x4
      have x0 := blk_p XW.out 0
      have x1 := blk_p XW.out 1
      have x2 := blk_p XW.out 2
      have x3 := blk_p XW.out 3
      have x4 := blk_p XW.out 4
      go_loopw [3] (fun i wr => ∃ (k : Nat) (y : Ext), k ≤ v.past.length ∧ i = .int .i64 k ∧ wr = wplus W y ∧ Hid (pastOk v.book.now none v.past = pastOk v.book.now (prev v.past k) (v.past.drop k))) (fun i _ => v.past.length - (intOf i).toNat)
      case atStart => exact ⟨0, _, Nat.zero_le _, rfl, rfl, rfl⟩
      case round =>
        obtain ⟨k, y, hk, rfl, rfl, hi⟩ := hrel
        by_cases hlt : k < v.past.length
        · obtain ⟨x, hx⟩ := ex_at hlt
          obtain ⟨bl, o, rfl, hbl, B1, d1, B2, d2, B3, d3, f0, f1, f2, f3, r1, r2, r3⟩ := (RP.out _ GW.out).at_ hx
          obtain ⟨s1, s2, s3⟩ := SP.out x (List.mem_of_getElem? hx)
          have HR1 := Lib.hid r1
          have HR2 := Lib.hid r2
          have HR3 := Lib.hid r3
          replace f0 := cell_p' f0
          replace f1 := cell_p' f1
          replace f2 := cell_p' f2
          replace f3 := cell_p' f3
          have hd := Lib.hid (drop_at hx)
          have HX := Lib.hid hx
          clear r1 r2 r3 hx
          have t2 : (0 : Int) ≤ (k : Int) := Int.natCast_nonneg _
          have t3 : (k : Int) < (v.past.length : Int) := by omega
          by_cases h0 : k = 0
          · have t4 : decide (0 < k) = false := decide_eq_false (by omega)
            have HP := Lib.hid (show prev v.past k = none by rw [h0]; rfl)
            clear h0
            rcases chain2 (valid x) (decide (x.now ≤ v.book.now)) with k1 | ⟨k1, k2⟩ | ⟨k1, k2⟩
            all_goals
              try have k3 := lt_of_le_b k2
              try simp only [Bool.not_false, Bool.not_true] at k3
              go_wp2
              refine region_quiet ⟨_, rfl⟩ (by kernel_rfl) (by kernel_rfl) ?_
              repeat (go_big_quiet_step ((go_at_call 16; exact quiet_grow (specValid_c x _ (HR1.out.plus _) (HR2.out.plus _) (HR3.out.plus _) s1 s2 s3))))
              refine wpQuiet_nil ?_
              rintro w2 ⟨y2, rfl⟩
              go_wp2
              first
                | (go_ret; exact ⟨ret_bool (by rw [HF.out, hi.out, hd.out, HP.out]; go_light; simp [pastOk, *]), GW.out.trans (Grow.wplus _ _)⟩)
                | (go_roundw
                   case rel => exact ⟨k + 1, _, by omega, by go_num, rfl, by unfold Hid; rw [hi.out, hd.out, HP.out, show prev v.past (k + 1) = some x from HX.out]; go_light; simp [pastOk, *]⟩
                   case measure => simp [intOf]; omega)
          · obtain ⟨q, hq⟩ : ∃ q, v.past[k - 1]? = some q := ex_at (by omega)
            have t4 : decide (0 < k) = true := decide_eq_true (by omega)
            have t5 : IntKind.i64.wrap ((k : Int) - 1) = (k : Int) - 1 := IntWalk.i64_in _ (by omega)
            have t6 : (0 : Int) ≤ (k : Int) - 1 := by omega
            have t7 : (k : Int) - 1 < (v.past.length : Int) := by omega
            have t8 : ((k : Int) - 1).toNat = k - 1 := by omega
            have HP := Lib.hid (show prev v.past k = some q by cases k with | zero => exact absurd rfl h0 | succ j => exact hq)
            obtain ⟨bb', o', he, -, D1, e1, D2, e2, D3, e3, g0, -⟩ := (RP.out _ GW.out).at_ hq
            simp only [Option.some.injEq, Addr.mk.injEq] at he
            obtain ⟨rfl, rfl, -⟩ := he
            replace g0 := cell_p' g0
            clear h0 hq
            rcases chain3 (valid x) (decide (x.now ≤ v.book.now)) (decide (q.now ≤ x.now)) with k1 | ⟨k1, k2⟩ | ⟨k1, k2, k3⟩ | ⟨k1, k2, k3⟩
            all_goals
              try have k4 := lt_of_le_b k2
              try simp only [Bool.not_false, Bool.not_true] at k4
              try have k5 := lt_of_le_b k3
              try simp only [Bool.not_false, Bool.not_true] at k5
              go_wp2
              refine region_quiet ⟨_, rfl⟩ (by kernel_rfl) (by kernel_rfl) ?_
              repeat (go_big_quiet_step ((go_at_call 16; exact quiet_grow (specValid_c x _ (HR1.out.plus _) (HR2.out.plus _) (HR3.out.plus _) s1 s2 s3))))
              refine wpQuiet_nil ?_
              rintro w2 ⟨y2, rfl⟩
              go_wp2
              first
                | (go_ret; exact ⟨ret_bool (by rw [HF.out, hi.out, hd.out, HP.out]; go_light; simp [pastOk, *]), GW.out.trans (Grow.wplus _ _)⟩)
                | (go_roundw
                   case rel => exact ⟨k + 1, _, by omega, by go_num, rfl, by unfold Hid; rw [hi.out, hd.out, HP.out, show prev v.past (k + 1) = some x from HX.out]; go_light; simp [pastOk, *]⟩
                   case measure => simp [intOf]; omega)
        · obtain rfl : k = v.past.length := by omega
          have HE := Lib.hid (show pastOk v.book.now none v.past = true by rw [hi.out, List.drop_length]; cases v.past.length <;> rfl)
          go_wp2
          go_ret
          exact ⟨ret_bool (by rw [HF.out, HE.out]), GW.out.trans (Grow.wplus _ _)⟩
    · have HF := Lib.hid (show worldOk v = false by simp [worldOk, hv, h8])
      have h9 : (8 : Int) < (v.past.length : Int) := by omega
      go_wp2
      go_ret
      exact ⟨ret_bool HF.out.symm, G1.out⟩
set_option maxRecDepth 100000 in
set_option maxHeartbeats 4000000 in
theorem implWorldOk_c (v : Wld) {AP A1 A2 A3 : Option Addr} {cP c1 c2 c3 : Nat} (w : World) (hp : BooksAt w AP v.past) (h1 : Rows 13 svcC w A1 v.book.svcs) (h2 : Rows 7 cpyC w A2 v.book.cps) (h3 : Rows 2 brtC w A3 v.book.brs)
    (lp : v.past.length ≤ 2000000) (sp : ∀ x ∈ v.past, Sized x) (sb : Sized v.book) :
    Calls Try.prog 23 #[.agg #[.slice AP v.past.length cP, .int .i64 v.book.now, .slice A1 v.book.svcs.length c1, .slice A2 v.book.cps.length c2, .slice A3 v.book.brs.length c3]] w fun e w' => e = .returned (.bool (worldOk v)) ∧ Grow w w' := by
  have RP := Lib.hid (fun (w' : World) (hg : Grow w w') => hp.below hg)
  have R1 := Lib.hid (fun (w' : World) (hg : Grow w w') => h1.below hg)
  have R2 := Lib.hid (fun (w' : World) (hg : Grow w w') => h2.below hg)
  have R3 := Lib.hid (fun (w' : World) (hg : Grow w w') => h3.below hg)
  have SP := Lib.hid sp
  obtain ⟨l1, l2, l3⟩ := sb
  clear hp h1 h2 h3 sp
  go_enter Try.func23, Try.ntmps23
  go_wp2_with fail
  refine (implValid_c v.book _ (R1.out _ (by (repeat (first | with_reducible exact Grow.refl _ | with_reducible assumption | with_reducible refine Grow.drew ?_ | with_reducible refine Grow.alloc ?_ _ | (with_reducible refine Grow.set ?_ ?_ _; rotate_left; (first | (dsimp only; omega) | (simp <;> omega))))))) (R2.out _ (by (repeat (first | with_reducible exact Grow.refl _ | with_reducible assumption | with_reducible refine Grow.drew ?_ | with_reducible refine Grow.alloc ?_ _ | (with_reducible refine Grow.set ?_ ?_ _; rotate_left; (first | (dsimp only; omega) | (simp <;> omega))))))) (R3.out _ (by (repeat (first | with_reducible exact Grow.refl _ | with_reducible assumption | with_reducible refine Grow.drew ?_ | with_reducible refine Grow.alloc ?_ _ | (with_reducible refine Grow.set ?_ ?_ _; rotate_left; (first | (dsimp only; omega) | (simp <;> omega))))))) l1 l2 l3).mono ?_
  rintro e w1 ⟨rfl, hg1⟩
  have G1 := Lib.hid (Grow.trans (show Grow w _ by (repeat (first | with_reducible exact Grow.refl _ | with_reducible assumption | with_reducible refine Grow.drew ?_ | with_reducible refine Grow.alloc ?_ _ | (with_reducible refine Grow.set ?_ ?_ _; rotate_left; (first | (dsimp only; omega) | (simp <;> omega)))))) hg1)
  have X1 := Lib.hid (blk_grow (heap_alloc_new w _) hg1)
  obtain ⟨x0, x1, x2, x3, x4⟩ := box5 X1.out
  clear hg1
  rcases hv : valid v.book
  · have HF := Lib.hid (show worldOk v = false by simp [worldOk, hv])
    go_wp2
    go_ret
    exact ⟨ret_bool HF.out.symm, G1.out⟩
  · by_cases h8 : v.past.length ≤ 8
    · have HF := Lib.hid (show worldOk v = pastOk v.book.now none v.past by simp [worldOk, hv, h8])
      go_wp2_with fail
      refine rebase ?_
      intro W hW
      have GW := Lib.hid (show Grow w W from grow_eq' hW G1.out)
      have XW := Lib.hid (heap_eq' hW X1.out)
      clear hW x0 x1 x2 x3 x4
      have x0 := blk_p XW.out 0
      have x1 := blk_p XW.out 1
      have x2 := blk_p XW.out 2
      have x3 := blk_p XW.out 3
      have x4 := blk_p XW.out 4
      go_loopw [18] (fun i wr => ∃ (k : Nat), k ≤ v.past.length ∧ i = .int .i64 k ∧ Hid (Grow W wr) ∧ Hid (pastOk v.book.now none v.past = pastOk v.book.now (prev v.past k) (v.past.drop k))) (fun i _ => v.past.length - (intOf i).toNat)
      case atStart => exact ⟨0, Nat.zero_le _, rfl, Grow.wplus _ _, rfl⟩
      case round =>
        obtain ⟨k, hk, rfl, hgr, hi⟩ := hrel
        have GR := Lib.hid (GW.out.trans hgr.out)
        by_cases hlt : k < v.past.length
        · obtain ⟨x, hx⟩ := ex_at hlt
          obtain ⟨bl, o, rfl, hbl, B1, d1, B2, d2, B3, d3, f0, f1, f2, f3, r1, r2, r3⟩ := (RP.out _ GR.out).at_ hx
          obtain ⟨s1, s2, s3⟩ := SP.out x (List.mem_of_getElem? hx)
          have HR1 := Lib.hid r1
          have HR2 := Lib.hid r2
          have HR3 := Lib.hid r3
          have hd := Lib.hid (drop_at hx)
          have HX := Lib.hid hx
          clear r1 r2 r3 hx
          go_wp2_with fail
          refine rename' ?_
          intro W2 hW2
          have G2 := Lib.hid (grow_eq' hW2 ((Grow.refl wr).alloc _))
          have P2 := Lib.hid (heap_eq' hW2 (heap_alloc_new wr _))
          have X2 := Lib.hid (blk_grow XW.out (hgr.out.trans G2.out))
          clear hW2 f0 f1 f2 f3 x0 x1 x2 x3 x4
          have x0 := blk_p X2.out 0
          have x1 := blk_p X2.out 1
          have f0 := blk_p P2.out 0
          have f1 := blk_p P2.out 1
          have f2 := blk_p P2.out 2
          have f3 := blk_p P2.out 3
          refine at_plus ?_
          have t2 : (0 : Int) ≤ (k : Int) := Int.natCast_nonneg _
          have t3 : (k : Int) < (v.past.length : Int) := by omega
          by_cases h0 : k = 0
          · have t4 : decide (0 < k) = false := decide_eq_false (by omega)
            have HP := Lib.hid (show prev v.past k = none by rw [h0]; rfl)
            clear h0
            rcases chain2 (valid x) (decide (x.now ≤ v.book.now)) with k1 | ⟨k1, k2⟩ | ⟨k1, k2⟩
            all_goals
              try have k3 := lt_of_le_b k2
              try simp only [Bool.not_false, Bool.not_true] at k3
              refine region_quiet ⟨_, rfl⟩ (by kernel_rfl) (by kernel_rfl) ?_
              repeat (go_big_quiet_step ((go_at_call 18; exact quiet_grow (implValid_c x _ (HR1.out.below (G2.out.trans (Grow.wplus W2 _))) (HR2.out.below (G2.out.trans (Grow.wplus W2 _))) (HR3.out.below (G2.out.trans (Grow.wplus W2 _))) s1 s2 s3))))
              refine wpQuiet_nil ?_
              rintro w2 ⟨y2, rfl⟩
              go_wp2
              first
                | (go_ret; exact ⟨ret_bool (by rw [HF.out, hi.out, hd.out, HP.out]; go_light; simp [pastOk, *]), (GR.out.trans G2.out).trans (Grow.wplus _ _)⟩)
                | (go_roundw
                   case rel => exact ⟨k + 1, by omega, by go_num, (hgr.out.trans G2.out).trans (Grow.wplus _ _), by unfold Hid; rw [hi.out, hd.out, HP.out, show prev v.past (k + 1) = some x from HX.out]; go_light; simp [pastOk, *]⟩
                   case measure => simp [intOf]; omega)
          · obtain ⟨q, hq⟩ : ∃ q, v.past[k - 1]? = some q := ex_at (by omega)
            have t4 : decide (0 < k) = true := decide_eq_true (by omega)
            have t5 : IntKind.i64.wrap ((k : Int) - 1) = (k : Int) - 1 := IntWalk.i64_in _ (by omega)
            have t6 : (0 : Int) ≤ (k : Int) - 1 := by omega
            have t7 : (k : Int) - 1 < (v.past.length : Int) := by omega
            have t8 : ((k : Int) - 1).toNat = k - 1 := by omega
            have HP := Lib.hid (show prev v.past k = some q by cases k with | zero => exact absurd rfl h0 | succ j => exact hq)
            obtain ⟨bb', o', he, -, D1, e1, D2, e2, D3, e3, g0, -⟩ := (RP.out _ (GR.out.trans G2.out)).at_ hq
            simp only [Option.some.injEq, Addr.mk.injEq] at he
            obtain ⟨rfl, rfl, -⟩ := he
            replace g0 := cell_p' g0
            clear h0 hq
            rcases chain3 (valid x) (decide (x.now ≤ v.book.now)) (decide (q.now ≤ x.now)) with k1 | ⟨k1, k2⟩ | ⟨k1, k2, k3⟩ | ⟨k1, k2, k3⟩
            all_goals
              try have k4 := lt_of_le_b k2
              try simp only [Bool.not_false, Bool.not_true] at k4
              try have k5 := lt_of_le_b k3
              try simp only [Bool.not_false, Bool.not_true] at k5
              refine region_quiet ⟨_, rfl⟩ (by kernel_rfl) (by kernel_rfl) ?_
              repeat (go_big_quiet_step ((go_at_call 18; exact quiet_grow (implValid_c x _ (HR1.out.below (G2.out.trans (Grow.wplus W2 _))) (HR2.out.below (G2.out.trans (Grow.wplus W2 _))) (HR3.out.below (G2.out.trans (Grow.wplus W2 _))) s1 s2 s3))))
              refine wpQuiet_nil ?_
              rintro w2 ⟨y2, rfl⟩
              go_wp2
              first
                | (go_ret; exact ⟨ret_bool (by rw [HF.out, hi.out, hd.out, HP.out]; go_light; simp [pastOk, *]), (GR.out.trans G2.out).trans (Grow.wplus _ _)⟩)
                | (go_roundw
                   case rel => exact ⟨k + 1, by omega, by go_num, (hgr.out.trans G2.out).trans (Grow.wplus _ _), by unfold Hid; rw [hi.out, hd.out, HP.out, show prev v.past (k + 1) = some x from HX.out]; go_light; simp [pastOk, *]⟩
                   case measure => simp [intOf]; omega)
        · obtain rfl : k = v.past.length := by omega
          clear x0 x1 x2 x3 x4
          have HE := Lib.hid (show pastOk v.book.now none v.past = true by rw [hi.out, List.drop_length]; cases v.past.length <;> rfl)
          go_wp2
          go_ret
          exact ⟨ret_bool (by rw [HF.out, HE.out]), GR.out⟩
    · have HF := Lib.hid (show worldOk v = false by simp [worldOk, hv, h8])
      have h9 : (8 : Int) < (v.past.length : Int) := by omega
      go_wp2
      go_ret
      exact ⟨ret_bool HF.out.symm, G1.out⟩
end Go.Proofs.Ytnmknkdbeccmhaa
