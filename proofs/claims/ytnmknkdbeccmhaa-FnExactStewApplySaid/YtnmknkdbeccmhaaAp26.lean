/- The walks of slices.DeleteFunc at one kind of element. The walks of slices.DeleteFunc at one kind of element. The walk of the program's act, up to where all copies are ended. -/
import Derived.Test.YtnmknkdbeccmhaaAp24
import Derived.Test.YtnmknkdbeccmhaaAp25
namespace Go.Proofs.Ytnmknkdbeccmhaa
open Go.RowKit
set_option linter.unusedSimpArgs false
set_option linter.unusedVariables false
set_option maxRecDepth 100000 in
set_option maxHeartbeats 2000000 in
theorem DeleteCpy_c (p : Cpy → Bool) (xs : List Cpy) (v : Value) {base : Nat} (f : Nat) (lb : Array Value) (w : World) (C : World → Prop) (hC : C w) (hC1 : ∀ W W', C W → Grow W W' → C W') (hC2 : ∀ W W', C W → W.grownBy W' v.ownBlock → C W') (eg : ∀ args w, (callFunc f args).run Try.prog w = .ok (.enter f args) w) (hp : ∀ (W : World) (x : Cpy), C W → Calls Try.prog f (#[.agg (cpyC x).toArray] ++ lb) W fun e w' => e = .returned (.bool (p x)) ∧ Grow W w') (own : w.ownsRow base 65 7 v xs.length (xs.flatMap cpyC)) (hl : xs.length ≤ 1000000) :
    Calls Try.prog 147 #[v, .func (.func f) #[] lb] w (RowBack base 65 7 cpyC (xs.filter fun x => !p x) w v.ownBlock) := by
  have HC := Lib.hid hC
  have HC1 := Lib.hid hC1
  have HC2 := Lib.hid hC2
  have hpw : Pred Try.prog f lb cpyC p w := fun W x hW => hp W x (hC1 w W hC hW)
  have HPW := Lib.hid hpw
  clear hC hC1 hC2 hpw
  obtain ⟨i0, hi0, hz0, hs0, hb0⟩ := info_parts info_Cpy
  obtain ⟨A, c, rfl, -, hrows⟩ := own_rows cpyC_len rfl own
  rcases hq : fIdx p xs 0 with _ | i1
  · have HF := Lib.hid (fIdx_none_filter hq)
    have Hr := Lib.hid (show idxI (fIdx p xs 0) = -1 by rw [hq]; rfl)
    have O := Lib.hid own
    have HP := Lib.hid hp
    have HR := Lib.hid hrows
    clear hq own hp hrows
    go_enter Try.func147, Try.ntmps147
    go_wp2_with (go_at_call 179; refine (IndexFuncCpy_c p xs f lb (-1) _ w eg (Grow.refl _) HPW.out rfl HR.out (by omega) Hr.out).mono ?_; rintro e w1 ⟨rfl, hg1⟩)
    go_ret
    rw [HF.out]
    exact ⟨_, rfl, own_grow O.out hg1, ⟨hg1.os, hg1.tape, hg1.output, hg1.size, fun k hk _ => hg1.block k hk⟩, .inl rfl⟩
  · have hfst := fIdx_first hq
    rw [Nat.sub_zero] at hfst
    have i1l := hfst.2.1
    obtain ⟨g, rfl, hbg, hgl, -⟩ := own_head own (by rintro rfl; simp at i1l)
    obtain ⟨-, hlen, -, hcN, hcm, L0, hB, hL, hxs⟩ := own_open own
    have Hr := Lib.hid (show idxI (fIdx p xs 0) = (i1 : Nat) by rw [hq]; rfl)
    have HS := Lib.hid (HalfRow.start cpyC_len hL hxs hcN hq)
    have HP := Lib.hid hp
    have HR := Lib.hid hrows
    have HB := Lib.hid hB
    have z0 : (((i1 : Nat) : Int) == -1) = false := by first | (simp; done) | (simp; omega)
    have z1 : (0 : Int) ≤ (i1 : Nat) := by omega
    have z2 : ((i1 : Nat) : Int) ≤ 1000000 := by omega
    obtain ⟨z, hz1, hzs⟩ : ∃ z, i0.zero = some z ∧ (z.cells.size = 7 ∧ ∀ k, k < z.cells.size → (z.cells[k]!).oneCell' = true) := ⟨_, hz0, rfl, by decide⟩
    clear hq own hp hrows hfst hlen hxs hL hB hz0
    go_enter Try.func147, Try.ntmps147
    go_wp2_with (go_at_call 179; refine (IndexFuncCpy_c p xs f lb (i1 : Nat) _ w eg (Grow.refl _) HPW.out rfl HR.out (by omega) Hr.out).mono ?_; rintro e w1 ⟨rfl, hg1⟩; have HG1 := Lib.hid hg1; clear hg1)
    go_loopw [5, 6, 7] (fun q r _ wr => ∃ (i j : Nat) (L : List Value), q = .int .i64 (i : Nat) ∧ r = .int .i64 (j : Nat) ∧ Hid (HalfRow 7 cpyC p xs c i j L) ∧ j ≤ xs.length ∧ i < j ∧ Hid (w.grownBy wr (some g)) ∧ Hid (C wr) ∧ Hid (BlkIs wr g 65 L)) (fun _ r _ _ => xs.length - (intOf r).toNat)
    case atStart => exact ⟨i1, i1 + 1, L0, rfl, by go_num, HS.out, i1l, by omega, Keep.of HG1.out, HC1.out _ _ HC.out HG1.out, blk_grow HB.out HG1.out⟩
    case round =>
      clear HB HS HR
      obtain ⟨i, j, L, rfl, rfl, hh, hj, hij, hgw, hgr, hb2⟩ := hrel
      have y0 : (0 : Int) ≤ (i : Nat) := by omega
      have y1 : (0 : Int) ≤ (j : Nat) := by omega
      by_cases hlt : j < xs.length
      · obtain ⟨x, hx⟩ := ex_at hlt
        have y2 : ((i : Nat) : Int) < (xs.length : Nat) := by omega
        have y3 : ((j : Nat) : Int) < (xs.length : Nat) := by omega
        have f0 : wr.cell? ⟨g, j * 7, none⟩ = some (.string x.service) := (hb2.out.cell _).trans (hh.out.at_ cpyC_len hx (r := 0) rfl)
        have f1 : wr.cell? ⟨g, j * 7 + 1, none⟩ = some (.int .i64 x.number) := (hb2.out.cell _).trans (hh.out.at_ cpyC_len hx (r := 1) rfl)
        have f2 : wr.cell? ⟨g, j * 7 + 2, none⟩ = some (.int .i64 x.version) := (hb2.out.cell _).trans (hh.out.at_ cpyC_len hx (r := 2) rfl)
        have f3 : wr.cell? ⟨g, j * 7 + 3, none⟩ = some (.int .i64 x.image) := (hb2.out.cell _).trans (hh.out.at_ cpyC_len hx (r := 3) rfl)
        have f4 : wr.cell? ⟨g, j * 7 + 4, none⟩ = some (.int .i64 x.state) := (hb2.out.cell _).trans (hh.out.at_ cpyC_len hx (r := 4) rfl)
        have f5 : wr.cell? ⟨g, j * 7 + 5, none⟩ = some (.bool x.ending) := (hb2.out.cell _).trans (hh.out.at_ cpyC_len hx (r := 5) rfl)
        have f6 : wr.cell? ⟨g, j * 7 + 6, none⟩ = some (.string x.berth) := (hb2.out.cell _).trans (hh.out.at_ cpyC_len hx (r := 6) rfl)
        have HX := Lib.hid hx
        have hbl := hb2.out.lt
        clear hx
        go_wp2_with fail
        clear f0 f1 f2 f3 f4 f5 f6
        refine Calls.mono (show Calls Try.prog f (#[.agg #[.string x.service, .int .i64 x.number, .int .i64 x.version, .int .i64 x.image, .int .i64 x.state, .bool x.ending, .string x.berth]] ++ lb) _ _ from HP.out _ x (HC1.out _ _ hgr.out ((Grow.refl _).alloc _))) ?_
        rintro e wr2 ⟨rfl, hg2⟩
        have hbx := blk_grow (heap_alloc_new wr _) hg2
        have HB2 := Lib.hid (show BlkIs wr2 g 65 L from blk_grow hb2.out (Grow.trans ((Grow.refl _).alloc _) hg2))
        have HG2 := Lib.hid (show w.grownBy wr2 (some g) from grownBy_trans hgw.out (Keep.of (Grow.trans ((Grow.refl _).alloc _) hg2)))
        have HR2 := Lib.hid (show C wr2 from HC1.out _ _ hgr.out (Grow.trans ((Grow.refl _).alloc _) hg2))
        have k0 := cell_of_row wr2 _ 0 _ _ _ hbx
        have k1 := cell_of_row wr2 _ 1 _ _ _ hbx
        have k2 := cell_of_row wr2 _ 2 _ _ _ hbx
        have k3 := cell_of_row wr2 _ 3 _ _ _ hbx
        have k4 := cell_of_row wr2 _ 4 _ _ _ hbx
        have k5 := cell_of_row wr2 _ 5 _ _ _ hbx
        have k6 := cell_of_row wr2 _ 6 _ _ _ hbx
        clear hg2 hbx
        cases hq : p x with
        | true =>
          have HH := Lib.hid (hh.out.strike cpyC_len HX.out hq)
          go_wp2
          go_roundw
          case rel => exact ⟨i, j + 1, L, rfl, by go_num, HH.out, by omega, by omega, HG2.out, HR2.out, HB2.out⟩
          case measure => simp [intOf]; omega
        | false =>
          have HH := Lib.hid (hh.out.keep cpyC_len HX.out hq)
          have hfr : ∀ k, wr2.frozen? ⟨g, k, none⟩ = false := fun k => HB2.out.frozen k
          have hlen2 := hh.out.len
          have hcap2 := hh.out.cap
          have hin : i * 7 + 7 ≤ L.length := by rw [hlen2, ← Nat.succ_mul]; exact Nat.mul_le_mul_right _ (by omega)
          obtain ⟨m0, e0⟩ : ∃ u, wr2.cell? ⟨g, i * 7, none⟩ = some u := ⟨_, (HB2.out.cell _).trans (List.getElem?_eq_getElem (by omega))⟩
          obtain ⟨m1, e1⟩ : ∃ u, wr2.cell? ⟨g, i * 7 + 1, none⟩ = some u := ⟨_, (HB2.out.cell _).trans (List.getElem?_eq_getElem (by omega))⟩
          obtain ⟨m2, e2⟩ : ∃ u, wr2.cell? ⟨g, i * 7 + 2, none⟩ = some u := ⟨_, (HB2.out.cell _).trans (List.getElem?_eq_getElem (by omega))⟩
          obtain ⟨m3, e3⟩ : ∃ u, wr2.cell? ⟨g, i * 7 + 3, none⟩ = some u := ⟨_, (HB2.out.cell _).trans (List.getElem?_eq_getElem (by omega))⟩
          obtain ⟨m4, e4⟩ : ∃ u, wr2.cell? ⟨g, i * 7 + 4, none⟩ = some u := ⟨_, (HB2.out.cell _).trans (List.getElem?_eq_getElem (by omega))⟩
          obtain ⟨m5, e5⟩ : ∃ u, wr2.cell? ⟨g, i * 7 + 5, none⟩ = some u := ⟨_, (HB2.out.cell _).trans (List.getElem?_eq_getElem (by omega))⟩
          obtain ⟨m6, e6⟩ : ∃ u, wr2.cell? ⟨g, i * 7 + 6, none⟩ = some u := ⟨_, (HB2.out.cell _).trans (List.getElem?_eq_getElem (by omega))⟩
          clear hlen2 hcap2 hin
          go_wp2
          go_roundw
          case rel =>
            have hin : i * 7 + 7 ≤ L.length := by rw [hh.out.len, ← Nat.succ_mul]; exact Nat.mul_le_mul_right _ (by have := hh.out.cap; omega)
            have q1 : BlkIs (((((((wr2.setCell ⟨g, i * 7, none⟩ (.string x.service)).setCell ⟨g, i * 7 + 1, none⟩ (.int .i64 x.number)).setCell ⟨g, i * 7 + 2, none⟩ (.int .i64 x.version)).setCell ⟨g, i * 7 + 3, none⟩ (.int .i64 x.image)).setCell ⟨g, i * 7 + 4, none⟩ (.int .i64 x.state)).setCell ⟨g, i * 7 + 5, none⟩ (.bool x.ending)).setCell ⟨g, i * 7 + 6, none⟩ (.string x.berth)) g 65 _ := cellsSet_blk (cpyC x) wr2 (i * 7) L HB2.out (by rw [cpyC_len]; exact hin)
            have q2 : wr2.grownBy (((((((wr2.setCell ⟨g, i * 7, none⟩ (.string x.service)).setCell ⟨g, i * 7 + 1, none⟩ (.int .i64 x.number)).setCell ⟨g, i * 7 + 2, none⟩ (.int .i64 x.version)).setCell ⟨g, i * 7 + 3, none⟩ (.int .i64 x.image)).setCell ⟨g, i * 7 + 4, none⟩ (.int .i64 x.state)).setCell ⟨g, i * 7 + 5, none⟩ (.bool x.ending)).setCell ⟨g, i * 7 + 6, none⟩ (.string x.berth)) (some g) := cellsSet_grown (cpyC x) wr2 (i * 7)
            exact ⟨i + 1, j + 1, _, by go_num, by go_num, HH.out, by omega, by omega, grownBy_trans HG2.out q2, HC2.out _ _ HR2.out q2, q1⟩
          case measure => simp [intOf]; omega
      · obtain rfl : j = xs.length := by omega
        have hcap := hh.out.cap
        have hlen := hh.out.len
        have y2 : ((i : Nat) : Int) ≤ (xs.length : Nat) := by omega
        have y4 : ((i : Nat) : Int) ≤ (c : Nat) := by omega
        have y3 : ¬ c = i := by omega
        have a1 : i * 7 + (xs.length - i) * 7 = xs.length * 7 := by rw [← Nat.add_mul]; congr 1; omega
        have a2 : xs.length * 7 ≤ c * 7 := Nat.mul_le_mul_right _ hcap
        have hcl : ∀ ty, (Builtin.clear_ #[31] ty #[.slice (some ⟨g, i * 7, none⟩) (xs.length - i) (c - i)]).run Try.prog wr = .ok (.tuple #[]) (wr.setRow g (L.take (i * 7) ++ (Builtin.zeroCells z.cells (xs.length - i)).toList ++ L.drop (i * 7 + (Builtin.zeroCells z.cells (xs.length - i)).toList.length)).toArray) := fun ty =>
          run_clear_row 31 ty 65 i0 z (i * 7) (xs.length - i) (c - i) Try.underlying31 hi0 hz1 (by omega) hb2.out (by rw [zero_len, hzs.1, hlen]; omega) (zero_one _ hzs.2)
        have HE := Lib.hid (show RowBack base 65 7 cpyC (xs.filter fun x => !p x) w (some g) (.returned (.slice (some ⟨g, 0, none⟩) i c)) (wr.setRow g (L.take (i * 7) ++ (Builtin.zeroCells z.cells (xs.length - i)).toList ++ L.drop (i * 7 + (Builtin.zeroCells z.cells (xs.length - i)).toList.length)).toArray) by
          have hk := hh.out.kept
          have hc2 := hh.out.cnt
          rw [List.take_length] at hk hc2
          have l1 : (L.take (i * 7)).length = i * 7 := by rw [List.length_take]; omega
          refine ⟨_, rfl, ?_, grownBy_trans hgw.out (grown_setRow _ g _), .inl rfl⟩
          rw [hc2]
          refine own_shut (hb2.out.setRow _) hbg (by omega) hcm ?_ ?_
          · rw [List.length_append, List.length_append, l1, zero_len, hzs.1, List.length_drop, hlen]; omega
          · rw [List.append_assoc, List.take_left' l1]
            exact hk)
        obtain ⟨WF, hWF⟩ : ∃ WF, WF = wr.setRow g (L.take (i * 7) ++ (Builtin.zeroCells z.cells (xs.length - i)).toList ++ L.drop (i * 7 + (Builtin.zeroCells z.cells (xs.length - i)).toList.length)).toArray := ⟨_, rfl⟩
        rw [← hWF] at hcl HE
        clear hWF hlen a1 a2
        go_wp2
        go_ret
        exact HE.out
end Go.Proofs.Ytnmknkdbeccmhaa
namespace Go.Proofs.Ytnmknkdbeccmhaa
open Go.RowKit
set_option linter.unusedSimpArgs false
set_option linter.unusedVariables false
set_option maxRecDepth 100000 in
set_option maxHeartbeats 2000000 in
theorem DeleteSvc_c (p : Svc → Bool) (xs : List Svc) (v : Value) {base : Nat} (f : Nat) (lb : Array Value) (w : World) (C : World → Prop) (hC : C w) (hC1 : ∀ W W', C W → Grow W W' → C W') (hC2 : ∀ W W', C W → W.grownBy W' v.ownBlock → C W') (eg : ∀ args w, (callFunc f args).run Try.prog w = .ok (.enter f args) w) (hp : ∀ (W : World) (x : Svc), C W → Calls Try.prog f (#[.agg (svcC x).toArray] ++ lb) W fun e w' => e = .returned (.bool (p x)) ∧ Grow W w') (own : w.ownsRow base 83 13 v xs.length (xs.flatMap svcC)) (hl : xs.length ≤ 1000000) :
    Calls Try.prog 137 #[v, .func (.func f) #[] lb] w (RowBack base 83 13 svcC (xs.filter fun x => !p x) w v.ownBlock) := by
  have HC := Lib.hid hC
  have HC1 := Lib.hid hC1
  have HC2 := Lib.hid hC2
  have hpw : Pred Try.prog f lb svcC p w := fun W x hW => hp W x (hC1 w W hC hW)
  have HPW := Lib.hid hpw
  clear hC hC1 hC2 hpw
  obtain ⟨i0, hi0, hz0, hs0, hb0⟩ := info_parts info_Svc
  obtain ⟨A, c, rfl, -, hrows⟩ := own_rows svcC_len rfl own
  rcases hq : fIdx p xs 0 with _ | i1
  · have HF := Lib.hid (fIdx_none_filter hq)
    have Hr := Lib.hid (show idxI (fIdx p xs 0) = -1 by rw [hq]; rfl)
    have O := Lib.hid own
    have HP := Lib.hid hp
    have HR := Lib.hid hrows
    clear hq own hp hrows
    go_enter Try.func137, Try.ntmps137
    go_wp2_with (go_at_call 142; refine (IndexFuncSvc_c p xs f lb (-1) _ w eg (Grow.refl _) HPW.out rfl HR.out (by omega) Hr.out).mono ?_; rintro e w1 ⟨rfl, hg1⟩)
    go_ret
    rw [HF.out]
    exact ⟨_, rfl, own_grow O.out hg1, ⟨hg1.os, hg1.tape, hg1.output, hg1.size, fun k hk _ => hg1.block k hk⟩, .inl rfl⟩
  · have hfst := fIdx_first hq
    rw [Nat.sub_zero] at hfst
    have i1l := hfst.2.1
    obtain ⟨g, rfl, hbg, hgl, -⟩ := own_head own (by rintro rfl; simp at i1l)
    obtain ⟨-, hlen, -, hcN, hcm, L0, hB, hL, hxs⟩ := own_open own
    have Hr := Lib.hid (show idxI (fIdx p xs 0) = (i1 : Nat) by rw [hq]; rfl)
    have HS := Lib.hid (HalfRow.start svcC_len hL hxs hcN hq)
    have HP := Lib.hid hp
    have HR := Lib.hid hrows
    have HB := Lib.hid hB
    have z0 : (((i1 : Nat) : Int) == -1) = false := by first | (simp; done) | (simp; omega)
    have z1 : (0 : Int) ≤ (i1 : Nat) := by omega
    have z2 : ((i1 : Nat) : Int) ≤ 1000000 := by omega
    obtain ⟨z, hz1, hzs⟩ : ∃ z, i0.zero = some z ∧ (z.cells.size = 13 ∧ ∀ k, k < z.cells.size → (z.cells[k]!).oneCell' = true) := ⟨_, hz0, rfl, by decide⟩
    clear hq own hp hrows hfst hlen hxs hL hB hz0
    go_enter Try.func137, Try.ntmps137
    go_wp2_with (go_at_call 142; refine (IndexFuncSvc_c p xs f lb (i1 : Nat) _ w eg (Grow.refl _) HPW.out rfl HR.out (by omega) Hr.out).mono ?_; rintro e w1 ⟨rfl, hg1⟩; have HG1 := Lib.hid hg1; clear hg1)
    go_loopw [5, 6, 7] (fun q r _ wr => ∃ (i j : Nat) (L : List Value), q = .int .i64 (i : Nat) ∧ r = .int .i64 (j : Nat) ∧ Hid (HalfRow 13 svcC p xs c i j L) ∧ j ≤ xs.length ∧ i < j ∧ Hid (w.grownBy wr (some g)) ∧ Hid (C wr) ∧ Hid (BlkIs wr g 83 L)) (fun _ r _ _ => xs.length - (intOf r).toNat)
    case atStart => exact ⟨i1, i1 + 1, L0, rfl, by go_num, HS.out, i1l, by omega, Keep.of HG1.out, HC1.out _ _ HC.out HG1.out, blk_grow HB.out HG1.out⟩
    case round =>
      clear HB HS HR
      obtain ⟨i, j, L, rfl, rfl, hh, hj, hij, hgw, hgr, hb2⟩ := hrel
      have y0 : (0 : Int) ≤ (i : Nat) := by omega
      have y1 : (0 : Int) ≤ (j : Nat) := by omega
      by_cases hlt : j < xs.length
      · obtain ⟨x, hx⟩ := ex_at hlt
        have y2 : ((i : Nat) : Int) < (xs.length : Nat) := by omega
        have y3 : ((j : Nat) : Int) < (xs.length : Nat) := by omega
        have f0 : wr.cell? ⟨g, j * 13, none⟩ = some (.string x.name) := (hb2.out.cell _).trans (hh.out.at_ svcC_len hx (r := 0) rfl)
        have f1 : wr.cell? ⟨g, j * 13 + 1, none⟩ = some (.int .i64 x.version) := (hb2.out.cell _).trans (hh.out.at_ svcC_len hx (r := 1) rfl)
        have f2 : wr.cell? ⟨g, j * 13 + 2, none⟩ = some (.bool x.gone) := (hb2.out.cell _).trans (hh.out.at_ svcC_len hx (r := 2) rfl)
        have f3 : wr.cell? ⟨g, j * 13 + 3, none⟩ = some (.int .i64 x.image) := (hb2.out.cell _).trans (hh.out.at_ svcC_len hx (r := 3) rfl)
        have f4 : wr.cell? ⟨g, j * 13 + 4, none⟩ = some (.int .i64 x.want) := (hb2.out.cell _).trans (hh.out.at_ svcC_len hx (r := 4) rfl)
        have f5 : wr.cell? ⟨g, j * 13 + 5, none⟩ = some (.int .i64 x.down) := (hb2.out.cell _).trans (hh.out.at_ svcC_len hx (r := 5) rfl)
        have f6 : wr.cell? ⟨g, j * 13 + 6, none⟩ = some (.int .i64 x.over) := (hb2.out.cell _).trans (hh.out.at_ svcC_len hx (r := 6) rfl)
        have f7 : wr.cell? ⟨g, j * 13 + 7, none⟩ = some (.int .i64 x.next) := (hb2.out.cell _).trans (hh.out.at_ svcC_len hx (r := 7) rfl)
        have f8 : wr.cell? ⟨g, j * 13 + 8, none⟩ = some (.int .i64 x.per) := (hb2.out.cell _).trans (hh.out.at_ svcC_len hx (r := 8) rfl)
        have f9 : wr.cell? ⟨g, j * 13 + 9, none⟩ = some (.int .i64 x.least) := (hb2.out.cell _).trans (hh.out.at_ svcC_len hx (r := 9) rfl)
        have f10 : wr.cell? ⟨g, j * 13 + 10, none⟩ = some (.int .i64 x.most) := (hb2.out.cell _).trans (hh.out.at_ svcC_len hx (r := 10) rfl)
        have f11 : wr.cell? ⟨g, j * 13 + 11, none⟩ = some (.int .i64 x.load) := (hb2.out.cell _).trans (hh.out.at_ svcC_len hx (r := 11) rfl)
        have f12 : wr.cell? ⟨g, j * 13 + 12, none⟩ = some (.int .i64 x.cool) := (hb2.out.cell _).trans (hh.out.at_ svcC_len hx (r := 12) rfl)
        have HX := Lib.hid hx
        have hbl := hb2.out.lt
        clear hx
        go_wp2_with fail
        clear f0 f1 f2 f3 f4 f5 f6 f7 f8 f9 f10 f11 f12
        refine Calls.mono (show Calls Try.prog f (#[.agg #[.string x.name, .int .i64 x.version, .bool x.gone, .int .i64 x.image, .int .i64 x.want, .int .i64 x.down, .int .i64 x.over, .int .i64 x.next, .int .i64 x.per, .int .i64 x.least, .int .i64 x.most, .int .i64 x.load, .int .i64 x.cool]] ++ lb) _ _ from HP.out _ x (HC1.out _ _ hgr.out ((Grow.refl _).alloc _))) ?_
        rintro e wr2 ⟨rfl, hg2⟩
        have hbx := blk_grow (heap_alloc_new wr _) hg2
        have HB2 := Lib.hid (show BlkIs wr2 g 83 L from blk_grow hb2.out (Grow.trans ((Grow.refl _).alloc _) hg2))
        have HG2 := Lib.hid (show w.grownBy wr2 (some g) from grownBy_trans hgw.out (Keep.of (Grow.trans ((Grow.refl _).alloc _) hg2)))
        have HR2 := Lib.hid (show C wr2 from HC1.out _ _ hgr.out (Grow.trans ((Grow.refl _).alloc _) hg2))
        have k0 := cell_of_row wr2 _ 0 _ _ _ hbx
        have k1 := cell_of_row wr2 _ 1 _ _ _ hbx
        have k2 := cell_of_row wr2 _ 2 _ _ _ hbx
        have k3 := cell_of_row wr2 _ 3 _ _ _ hbx
        have k4 := cell_of_row wr2 _ 4 _ _ _ hbx
        have k5 := cell_of_row wr2 _ 5 _ _ _ hbx
        have k6 := cell_of_row wr2 _ 6 _ _ _ hbx
        have k7 := cell_of_row wr2 _ 7 _ _ _ hbx
        have k8 := cell_of_row wr2 _ 8 _ _ _ hbx
        have k9 := cell_of_row wr2 _ 9 _ _ _ hbx
        have k10 := cell_of_row wr2 _ 10 _ _ _ hbx
        have k11 := cell_of_row wr2 _ 11 _ _ _ hbx
        have k12 := cell_of_row wr2 _ 12 _ _ _ hbx
        clear hg2 hbx
        cases hq : p x with
        | true =>
          have HH := Lib.hid (hh.out.strike svcC_len HX.out hq)
          go_wp2
          go_roundw
          case rel => exact ⟨i, j + 1, L, rfl, by go_num, HH.out, by omega, by omega, HG2.out, HR2.out, HB2.out⟩
          case measure => simp [intOf]; omega
        | false =>
          have HH := Lib.hid (hh.out.keep svcC_len HX.out hq)
          have hfr : ∀ k, wr2.frozen? ⟨g, k, none⟩ = false := fun k => HB2.out.frozen k
          have hlen2 := hh.out.len
          have hcap2 := hh.out.cap
          have hin : i * 13 + 13 ≤ L.length := by rw [hlen2, ← Nat.succ_mul]; exact Nat.mul_le_mul_right _ (by omega)
          obtain ⟨m0, e0⟩ : ∃ u, wr2.cell? ⟨g, i * 13, none⟩ = some u := ⟨_, (HB2.out.cell _).trans (List.getElem?_eq_getElem (by omega))⟩
          obtain ⟨m1, e1⟩ : ∃ u, wr2.cell? ⟨g, i * 13 + 1, none⟩ = some u := ⟨_, (HB2.out.cell _).trans (List.getElem?_eq_getElem (by omega))⟩
          obtain ⟨m2, e2⟩ : ∃ u, wr2.cell? ⟨g, i * 13 + 2, none⟩ = some u := ⟨_, (HB2.out.cell _).trans (List.getElem?_eq_getElem (by omega))⟩
          obtain ⟨m3, e3⟩ : ∃ u, wr2.cell? ⟨g, i * 13 + 3, none⟩ = some u := ⟨_, (HB2.out.cell _).trans (List.getElem?_eq_getElem (by omega))⟩
          obtain ⟨m4, e4⟩ : ∃ u, wr2.cell? ⟨g, i * 13 + 4, none⟩ = some u := ⟨_, (HB2.out.cell _).trans (List.getElem?_eq_getElem (by omega))⟩
          obtain ⟨m5, e5⟩ : ∃ u, wr2.cell? ⟨g, i * 13 + 5, none⟩ = some u := ⟨_, (HB2.out.cell _).trans (List.getElem?_eq_getElem (by omega))⟩
          obtain ⟨m6, e6⟩ : ∃ u, wr2.cell? ⟨g, i * 13 + 6, none⟩ = some u := ⟨_, (HB2.out.cell _).trans (List.getElem?_eq_getElem (by omega))⟩
          obtain ⟨m7, e7⟩ : ∃ u, wr2.cell? ⟨g, i * 13 + 7, none⟩ = some u := ⟨_, (HB2.out.cell _).trans (List.getElem?_eq_getElem (by omega))⟩
          obtain ⟨m8, e8⟩ : ∃ u, wr2.cell? ⟨g, i * 13 + 8, none⟩ = some u := ⟨_, (HB2.out.cell _).trans (List.getElem?_eq_getElem (by omega))⟩
          obtain ⟨m9, e9⟩ : ∃ u, wr2.cell? ⟨g, i * 13 + 9, none⟩ = some u := ⟨_, (HB2.out.cell _).trans (List.getElem?_eq_getElem (by omega))⟩
          obtain ⟨m10, e10⟩ : ∃ u, wr2.cell? ⟨g, i * 13 + 10, none⟩ = some u := ⟨_, (HB2.out.cell _).trans (List.getElem?_eq_getElem (by omega))⟩
          obtain ⟨m11, e11⟩ : ∃ u, wr2.cell? ⟨g, i * 13 + 11, none⟩ = some u := ⟨_, (HB2.out.cell _).trans (List.getElem?_eq_getElem (by omega))⟩
          obtain ⟨m12, e12⟩ : ∃ u, wr2.cell? ⟨g, i * 13 + 12, none⟩ = some u := ⟨_, (HB2.out.cell _).trans (List.getElem?_eq_getElem (by omega))⟩
          clear hlen2 hcap2 hin
          go_wp2
          go_roundw
          case rel =>
            have hin : i * 13 + 13 ≤ L.length := by rw [hh.out.len, ← Nat.succ_mul]; exact Nat.mul_le_mul_right _ (by have := hh.out.cap; omega)
            have q1 : BlkIs (((((((((((((wr2.setCell ⟨g, i * 13, none⟩ (.string x.name)).setCell ⟨g, i * 13 + 1, none⟩ (.int .i64 x.version)).setCell ⟨g, i * 13 + 2, none⟩ (.bool x.gone)).setCell ⟨g, i * 13 + 3, none⟩ (.int .i64 x.image)).setCell ⟨g, i * 13 + 4, none⟩ (.int .i64 x.want)).setCell ⟨g, i * 13 + 5, none⟩ (.int .i64 x.down)).setCell ⟨g, i * 13 + 6, none⟩ (.int .i64 x.over)).setCell ⟨g, i * 13 + 7, none⟩ (.int .i64 x.next)).setCell ⟨g, i * 13 + 8, none⟩ (.int .i64 x.per)).setCell ⟨g, i * 13 + 9, none⟩ (.int .i64 x.least)).setCell ⟨g, i * 13 + 10, none⟩ (.int .i64 x.most)).setCell ⟨g, i * 13 + 11, none⟩ (.int .i64 x.load)).setCell ⟨g, i * 13 + 12, none⟩ (.int .i64 x.cool)) g 83 _ := cellsSet_blk (svcC x) wr2 (i * 13) L HB2.out (by rw [svcC_len]; exact hin)
            have q2 : wr2.grownBy (((((((((((((wr2.setCell ⟨g, i * 13, none⟩ (.string x.name)).setCell ⟨g, i * 13 + 1, none⟩ (.int .i64 x.version)).setCell ⟨g, i * 13 + 2, none⟩ (.bool x.gone)).setCell ⟨g, i * 13 + 3, none⟩ (.int .i64 x.image)).setCell ⟨g, i * 13 + 4, none⟩ (.int .i64 x.want)).setCell ⟨g, i * 13 + 5, none⟩ (.int .i64 x.down)).setCell ⟨g, i * 13 + 6, none⟩ (.int .i64 x.over)).setCell ⟨g, i * 13 + 7, none⟩ (.int .i64 x.next)).setCell ⟨g, i * 13 + 8, none⟩ (.int .i64 x.per)).setCell ⟨g, i * 13 + 9, none⟩ (.int .i64 x.least)).setCell ⟨g, i * 13 + 10, none⟩ (.int .i64 x.most)).setCell ⟨g, i * 13 + 11, none⟩ (.int .i64 x.load)).setCell ⟨g, i * 13 + 12, none⟩ (.int .i64 x.cool)) (some g) := cellsSet_grown (svcC x) wr2 (i * 13)
            exact ⟨i + 1, j + 1, _, by go_num, by go_num, HH.out, by omega, by omega, grownBy_trans HG2.out q2, HC2.out _ _ HR2.out q2, q1⟩
          case measure => simp [intOf]; omega
      · obtain rfl : j = xs.length := by omega
        have hcap := hh.out.cap
        have hlen := hh.out.len
        have y2 : ((i : Nat) : Int) ≤ (xs.length : Nat) := by omega
        have y4 : ((i : Nat) : Int) ≤ (c : Nat) := by omega
        have y3 : ¬ c = i := by omega
        have a1 : i * 13 + (xs.length - i) * 13 = xs.length * 13 := by rw [← Nat.add_mul]; congr 1; omega
        have a2 : xs.length * 13 ≤ c * 13 := Nat.mul_le_mul_right _ hcap
        have hcl : ∀ ty, (Builtin.clear_ #[30] ty #[.slice (some ⟨g, i * 13, none⟩) (xs.length - i) (c - i)]).run Try.prog wr = .ok (.tuple #[]) (wr.setRow g (L.take (i * 13) ++ (Builtin.zeroCells z.cells (xs.length - i)).toList ++ L.drop (i * 13 + (Builtin.zeroCells z.cells (xs.length - i)).toList.length)).toArray) := fun ty =>
          run_clear_row 30 ty 83 i0 z (i * 13) (xs.length - i) (c - i) Try.underlying30 hi0 hz1 (by omega) hb2.out (by rw [zero_len, hzs.1, hlen]; omega) (zero_one _ hzs.2)
        have HE := Lib.hid (show RowBack base 83 13 svcC (xs.filter fun x => !p x) w (some g) (.returned (.slice (some ⟨g, 0, none⟩) i c)) (wr.setRow g (L.take (i * 13) ++ (Builtin.zeroCells z.cells (xs.length - i)).toList ++ L.drop (i * 13 + (Builtin.zeroCells z.cells (xs.length - i)).toList.length)).toArray) by
          have hk := hh.out.kept
          have hc2 := hh.out.cnt
          rw [List.take_length] at hk hc2
          have l1 : (L.take (i * 13)).length = i * 13 := by rw [List.length_take]; omega
          refine ⟨_, rfl, ?_, grownBy_trans hgw.out (grown_setRow _ g _), .inl rfl⟩
          rw [hc2]
          refine own_shut (hb2.out.setRow _) hbg (by omega) hcm ?_ ?_
          · rw [List.length_append, List.length_append, l1, zero_len, hzs.1, List.length_drop, hlen]; omega
          · rw [List.append_assoc, List.take_left' l1]
            exact hk)
        obtain ⟨WF, hWF⟩ : ∃ WF, WF = wr.setRow g (L.take (i * 13) ++ (Builtin.zeroCells z.cells (xs.length - i)).toList ++ L.drop (i * 13 + (Builtin.zeroCells z.cells (xs.length - i)).toList.length)).toArray := ⟨_, rfl⟩
        rw [← hWF] at hcl HE
        clear hWF hlen a1 a2
        go_wp2
        go_ret
        exact HE.out
end Go.Proofs.Ytnmknkdbeccmhaa
namespace Go.Proofs.Ytnmknkdbeccmhaa
open Go.RowKit
set_option linter.unusedSimpArgs false
set_option linter.unusedVariables false
set_option maxRecDepth 1000000
set_option maxHeartbeats 2000000
/-- What act leaves: the code; and where it is 0 the book as the act leaves it. -/
def Acted (b : Book) (a : SAct) (g base : Nat) (w1 : World) (e : Ending) (w' : World) : Prop :=
  e = .returned (.int .i64 (actV b a).2) ∧ Grow w1 w' ∧ ((actV b a).2 = 0 → ∃ v1 v2 v3, Mine base g w' v1 v2 v3 (actV b a).1)
theorem Acted.refused {b : Book} {a : SAct} {g base : Nat} {w1 w' : World} {z : Int} {x : Book} (h : Hid (actV b a = (x, z))) (hz : z ≠ 0) (hg : Grow w1 w') : Acted b a g base w1 (.returned (.int .i64 z)) w' := by
  unfold Acted
  rw [h.out]
  exact ⟨rfl, hg, fun e => absurd e hz⟩
/-- What lies in memory in act: the act in a box, the book behind its pointer. -/
structure AcSt (a : SAct) (Ae A1 A2 A3 : Option Addr) (ce e1 e2 e3 g ga base : Nat) (w1 : World) (cur : Book) (U : World) : Prop where
  G : Grow w1 U
  hb : w1.heap.size ≤ base
  oa : w1.heap.size ≤ ga
  ng : ga ≠ g
  k1 : (Value.slice A1 cur.svcs.length e1).ownBlock ≠ some ga
  k2 : (Value.slice A2 cur.cps.length e2).ownBlock ≠ some ga
  k3 : (Value.slice A3 cur.brs.length e3).ownBlock ≠ some ga
  X : U.heap[ga]? = some (.cells #[.string a.service, .int .i64 a.version, .int .i64 a.create, .int .i64 a.want, .int .i64 a.cool, .bool a.scale, .slice Ae a.ends.length ce, .bool a.drop] 77 (0, 0))
  M : Mine base g U (.slice A1 cur.svcs.length e1) (.slice A2 cur.cps.length e2) (.slice A3 cur.brs.length e3) cur
  R4 : Rows 2 endC w1 Ae a.ends
section
variable {b cur : Book} {a : SAct} {s : Svc} {i : Nat} {Ae A1 A2 A3 : Option Addr} {ce e1 e2 e3 g ga base : Nat} {w1 U : World} {V : World}
theorem AcSt.grow (h : AcSt a Ae A1 A2 A3 ce e1 e2 e3 g ga base w1 cur U) (k : Grow U V) : AcSt a Ae A1 A2 A3 ce e1 e2 e3 g ga base w1 cur V := ⟨h.G.trans k, h.hb, h.oa, h.ng, h.k1, h.k2, h.k3, blk_grow h.X k, h.M.grow k, h.R4⟩
theorem AcSt.cells (h : AcSt a Ae A1 A2 A3 ce e1 e2 e3 g ga base w1 cur U) : U.cell? ⟨ga, 0, none⟩ = some (.string a.service) ∧ U.cell? ⟨ga, 1, none⟩ = some (.int .i64 a.version) ∧ U.cell? ⟨ga, 2, none⟩ = some (.int .i64 a.create) ∧ U.cell? ⟨ga, 3, none⟩ = some (.int .i64 a.want) ∧
    U.cell? ⟨ga, 4, none⟩ = some (.int .i64 a.cool) ∧ U.cell? ⟨ga, 5, none⟩ = some (.bool a.scale) ∧ U.cell? ⟨ga, 6, none⟩ = some (.slice Ae a.ends.length ce) ∧ U.cell? ⟨ga, 7, none⟩ = some (.bool a.drop) :=
  ⟨cell_of_row U _ 0 _ _ _ h.X, cell_of_row U _ 1 _ _ _ h.X, cell_of_row U _ 2 _ _ _ h.X, cell_of_row U _ 3 _ _ _ h.X, cell_of_row U _ 4 _ _ _ h.X, cell_of_row U _ 5 _ _ _ h.X, cell_of_row U _ 6 _ _ _ h.X, cell_of_row U _ 7 _ _ _ h.X⟩
theorem AcSt.ends (h : AcSt a Ae A1 A2 A3 ce e1 e2 e3 g ga base w1 cur U) : Rows 2 endC U Ae a.ends := h.R4.below h.G
theorem AcSt.rows (h : AcSt a Ae A1 A2 A3 ce e1 e2 e3 g ga base w1 cur U) : Rows 13 svcC U A1 cur.svcs ∧ Rows 7 cpyC U A2 cur.cps ∧ Rows 2 brtC U A3 cur.brs := (rows_of h.M.rows).2
theorem AcSt.blk (h : AcSt a Ae A1 A2 A3 ce e1 e2 e3 g ga base w1 cur U) : BookBlk U g cur A1 A2 A3 e1 e2 e3 := h.M.box
end
def fB (g ga : Nat) (x5 : Value) (u : Nat → Value) : Act := ⟨#[.pointer (some ⟨g, 0, none⟩), u 1, u 2, .pointer (some ⟨ga, 0, none⟩), u 4, x5, u 6, u 7, u 8, u 9, u 10, u 11, u 12, u 13, u 14, u 15, u 16, u 17, u 18, u 19, u 20, u 21, u 22, u 23, u 24, u 25, u 26, u 27, u 28, u 29, u 30, u 31, u 32, u 33, u 34, u 35, u 36, u 37, u 38, u 39, u 40, u 41, u 42, u 43, u 44, u 45, u 46, u 47, u 48, u 49, u 50, u 51, u 52, u 53, u 54, u 55, u 56, u 57, u 58, u 59, u 60, u 61, u 62, u 63, u 64, u 65, u 66, u 67, u 68, u 69, u 70, u 71, u 72, u 73, u 74, u 75, u 76, u 77, u 78, u 79, u 80, u 81, u 82, u 83, u 84, u 85, u 86, u 87, u 88, u 89, u 90, u 91, u 92, u 93, u 94, u 95, u 96, u 97, u 98, u 99, u 100, u 101, u 102, u 103, u 104, u 105, u 106, u 107, u 108, u 109, u 110, u 111, u 112, u 113, u 114, u 115, u 116, u 117, u 118, u 119, u 120, u 121, u 122, u 123, u 124, u 125, u 126, u 127, u 128, u 129, u 130, u 131, u 132, u 133, u 134, u 135, u 136, u 137, u 138, u 139, u 140, u 141, u 142, u 143, u 144, u 145, u 146, u 147, u 148, u 149, u 150, u 151, u 152, u 153, u 154, u 155, u 156, u 157, u 158, u 159, u 160, u 161, u 162, u 163, u 164, u 165, u 166, u 167, u 168, u 169, u 170, u 171, u 172, u 173, u 174, u 175, u 176, u 177, u 178, u 179, u 180, u 181, u 182, u 183, u 184, u 185, u 186, u 187, u 188, u 189, u 190, u 191, u 192, u 193, u 194, u 195, u 196, u 197, u 198, u 199, u 200, u 201, u 202, u 203, u 204, u 205, u 206, u 207, u 208, u 209, u 210, u 211, u 212, u 213, u 214, u 215, u 216, u 217, u 218, u 219, u 220, u 221, u 222, u 223, u 224, u 225, u 226, u 227, u 228, u 229, u 230, u 231, u 232, u 233, u 234, u 235, u 236, u 237, u 238, u 239, u 240, u 241, u 242, u 243, u 244, u 245, u 246, u 247, u 248, u 249, u 250, u 251, u 252, u 253, u 254, u 255, u 256, u 257, u 258, u 259, u 260, u 261, u 262, u 263, u 264, u 265, u 266, u 267, u 268, u 269, u 270, u 271, u 272, u 273, u 274, u 275, u 276, u 277, u 278, u 279, u 280, u 281, u 282, u 283, u 284, u 285, u 286, u 287, u 288], []⟩
def fB6 (g ga : Nat) (x5 : Value) (Ae : Option Addr) (ne ce k : Nat) (u : Nat → Value) : Act := ⟨#[.pointer (some ⟨g, 0, none⟩), u 1, u 2, .pointer (some ⟨ga, 0, none⟩), u 4, x5, u 6, u 7, u 8, u 9, u 10, u 11, u 12, u 13, u 14, u 15, u 16, u 17, u 18, u 19, u 20, u 21, u 22, u 23, u 24, .slice Ae ne ce, .int .i64 (ne : Nat), .int .i64 (k : Nat), u 28, u 29, u 30, u 31, u 32, u 33, u 34, u 35, u 36, u 37, u 38, u 39, u 40, u 41, u 42, u 43, u 44, u 45, u 46, u 47, u 48, u 49, u 50, u 51, u 52, u 53, u 54, u 55, u 56, u 57, u 58, u 59, u 60, u 61, u 62, u 63, u 64, u 65, u 66, u 67, u 68, u 69, u 70, u 71, u 72, u 73, u 74, u 75, u 76, u 77, u 78, u 79, u 80, u 81, u 82, u 83, u 84, u 85, u 86, u 87, u 88, u 89, u 90, u 91, u 92, u 93, u 94, u 95, u 96, u 97, u 98, u 99, u 100, u 101, u 102, u 103, u 104, u 105, u 106, u 107, u 108, u 109, u 110, u 111, u 112, u 113, u 114, u 115, u 116, u 117, u 118, u 119, u 120, u 121, u 122, u 123, u 124, u 125, u 126, u 127, u 128, u 129, u 130, u 131, u 132, u 133, u 134, u 135, u 136, u 137, u 138, u 139, u 140, u 141, u 142, u 143, u 144, u 145, u 146, u 147, u 148, u 149, u 150, u 151, u 152, u 153, u 154, u 155, u 156, u 157, u 158, u 159, u 160, u 161, u 162, u 163, u 164, u 165, u 166, u 167, u 168, u 169, u 170, u 171, u 172, u 173, u 174, u 175, u 176, u 177, u 178, u 179, u 180, u 181, u 182, u 183, u 184, u 185, u 186, u 187, u 188, u 189, u 190, u 191, u 192, u 193, u 194, u 195, u 196, u 197, u 198, u 199, u 200, u 201, u 202, u 203, u 204, u 205, u 206, u 207, u 208, u 209, u 210, u 211, u 212, u 213, u 214, u 215, u 216, u 217, u 218, u 219, u 220, u 221, u 222, u 223, u 224, u 225, u 226, u 227, u 228, u 229, u 230, u 231, u 232, u 233, u 234, u 235, u 236, u 237, u 238, u 239, u 240, u 241, u 242, u 243, u 244, u 245, u 246, u 247, u 248, u 249, u 250, u 251, u 252, u 253, u 254, u 255, u 256, u 257, u 258, u 259, u 260, u 261, u 262, u 263, u 264, u 265, u 266, u 267, u 268, u 269, u 270, u 271, u 272, u 273, u 274, u 275, u 276, u 277, u 278, u 279, u 280, u 281, u 282, u 283, u 284, u 285, u 286, u 287, u 288], []⟩
def fB14 (g ga : Nat) (x5 : Value) (Ae : Option Addr) (ne ce k : Nat) (u : Nat → Value) : Act := ⟨#[.pointer (some ⟨g, 0, none⟩), u 1, u 2, .pointer (some ⟨ga, 0, none⟩), u 4, x5, u 6, u 7, u 8, u 9, u 10, u 11, u 12, u 13, u 14, u 15, u 16, u 17, u 18, u 19, u 20, u 21, u 22, u 23, u 24, u 25, u 26, u 27, u 28, u 29, u 30, u 31, u 32, u 33, u 34, u 35, u 36, u 37, u 38, u 39, u 40, u 41, u 42, u 43, u 44, u 45, u 46, .slice Ae ne ce, .int .i64 (ne : Nat), .int .i64 (k : Nat), u 50, u 51, u 52, u 53, u 54, u 55, u 56, u 57, u 58, u 59, u 60, u 61, u 62, u 63, u 64, u 65, u 66, u 67, u 68, u 69, u 70, u 71, u 72, u 73, u 74, u 75, u 76, u 77, u 78, u 79, u 80, u 81, u 82, u 83, u 84, u 85, u 86, u 87, u 88, u 89, u 90, u 91, u 92, u 93, u 94, u 95, u 96, u 97, u 98, u 99, u 100, u 101, u 102, u 103, u 104, u 105, u 106, u 107, u 108, u 109, u 110, u 111, u 112, u 113, u 114, u 115, u 116, u 117, u 118, u 119, u 120, u 121, u 122, u 123, u 124, u 125, u 126, u 127, u 128, u 129, u 130, u 131, u 132, u 133, u 134, u 135, u 136, u 137, u 138, u 139, u 140, u 141, u 142, u 143, u 144, u 145, u 146, u 147, u 148, u 149, u 150, u 151, u 152, u 153, u 154, u 155, u 156, u 157, u 158, u 159, u 160, u 161, u 162, u 163, u 164, u 165, u 166, u 167, u 168, u 169, u 170, u 171, u 172, u 173, u 174, u 175, u 176, u 177, u 178, u 179, u 180, u 181, u 182, u 183, u 184, u 185, u 186, u 187, u 188, u 189, u 190, u 191, u 192, u 193, u 194, u 195, u 196, u 197, u 198, u 199, u 200, u 201, u 202, u 203, u 204, u 205, u 206, u 207, u 208, u 209, u 210, u 211, u 212, u 213, u 214, u 215, u 216, u 217, u 218, u 219, u 220, u 221, u 222, u 223, u 224, u 225, u 226, u 227, u 228, u 229, u 230, u 231, u 232, u 233, u 234, u 235, u 236, u 237, u 238, u 239, u 240, u 241, u 242, u 243, u 244, u 245, u 246, u 247, u 248, u 249, u 250, u 251, u 252, u 253, u 254, u 255, u 256, u 257, u 258, u 259, u 260, u 261, u 262, u 263, u 264, u 265, u 266, u 267, u 268, u 269, u 270, u 271, u 272, u 273, u 274, u 275, u 276, u 277, u 278, u 279, u 280, u 281, u 282, u 283, u 284, u 285, u 286, u 287, u 288], []⟩
def fB20 (g ga : Nat) (x5 : Value) (Ae : Option Addr) (ne ce k : Nat) (u : Nat → Value) : Act := ⟨#[.pointer (some ⟨g, 0, none⟩), u 1, u 2, .pointer (some ⟨ga, 0, none⟩), u 4, x5, u 6, u 7, u 8, u 9, u 10, u 11, u 12, u 13, u 14, u 15, u 16, u 17, u 18, u 19, u 20, u 21, u 22, u 23, u 24, u 25, u 26, u 27, u 28, u 29, u 30, u 31, u 32, u 33, u 34, u 35, u 36, u 37, u 38, u 39, u 40, u 41, u 42, u 43, u 44, u 45, u 46, u 47, u 48, u 49, u 50, u 51, u 52, u 53, u 54, u 55, u 56, u 57, u 58, u 59, u 60, u 61, u 62, u 63, u 64, u 65, u 66, .slice Ae ne ce, .int .i64 (ne : Nat), .int .i64 (k : Nat), u 70, u 71, u 72, u 73, u 74, u 75, u 76, u 77, u 78, u 79, u 80, u 81, u 82, u 83, u 84, u 85, u 86, u 87, u 88, u 89, u 90, u 91, u 92, u 93, u 94, u 95, u 96, u 97, u 98, u 99, u 100, u 101, u 102, u 103, u 104, u 105, u 106, u 107, u 108, u 109, u 110, u 111, u 112, u 113, u 114, u 115, u 116, u 117, u 118, u 119, u 120, u 121, u 122, u 123, u 124, u 125, u 126, u 127, u 128, u 129, u 130, u 131, u 132, u 133, u 134, u 135, u 136, u 137, u 138, u 139, u 140, u 141, u 142, u 143, u 144, u 145, u 146, u 147, u 148, u 149, u 150, u 151, u 152, u 153, u 154, u 155, u 156, u 157, u 158, u 159, u 160, u 161, u 162, u 163, u 164, u 165, u 166, u 167, u 168, u 169, u 170, u 171, u 172, u 173, u 174, u 175, u 176, u 177, u 178, u 179, u 180, u 181, u 182, u 183, u 184, u 185, u 186, u 187, u 188, u 189, u 190, u 191, u 192, u 193, u 194, u 195, u 196, u 197, u 198, u 199, u 200, u 201, u 202, u 203, u 204, u 205, u 206, u 207, u 208, u 209, u 210, u 211, u 212, u 213, u 214, u 215, u 216, u 217, u 218, u 219, u 220, u 221, u 222, u 223, u 224, u 225, u 226, u 227, u 228, u 229, u 230, u 231, u 232, u 233, u 234, u 235, u 236, u 237, u 238, u 239, u 240, u 241, u 242, u 243, u 244, u 245, u 246, u 247, u 248, u 249, u 250, u 251, u 252, u 253, u 254, u 255, u 256, u 257, u 258, u 259, u 260, u 261, u 262, u 263, u 264, u 265, u 266, u 267, u 268, u 269, u 270, u 271, u 272, u 273, u 274, u 275, u 276, u 277, u 278, u 279, u 280, u 281, u 282, u 283, u 284, u 285, u 286, u 287, u 288], []⟩
noncomputable def ac1 : Code := tailOf Try.f102 1
noncomputable def ac3 : Code := tailOf Try.f102 3
noncomputable def ac4 : Code := tailOf Try.f102 4
noncomputable def ac6 : Code := tailOf Try.f102 6
noncomputable def ac12 : Code := tailOf Try.f102 12
noncomputable def ac14 : Code := tailOf Try.f102 14
noncomputable def ac20 : Code := tailOf Try.f102 20
noncomputable def ac29 : Code := tailOf Try.f102 29
noncomputable def acl6 : Code := (loop1 (headOf ac6)).getD .skip
noncomputable def acl14 : Code := (loop1 (headOf ac14)).getD .skip
noncomputable def acl20 : Code := (loop1 (headOf ac20)).getD .skip
section
variable {b cur : Book} {a : SAct} {s : Svc} {i : Nat} {Ae A1 A2 A3 : Option Addr} {ce e1 e2 e3 g ga base : Nat} {w1 U : World}
theorem acLoop20 {x5 : Value} {u : Nat → Value} (hf : Hid (Fit b)) (hl : a.ends.length ≤ 2000000) (hs : Hid (b.svcs[i]? = some s)) (hq : Hid (svcAt b.svcs a.service = some i)) (hT : Hid (endsThere b.cps a.service a.ends = true)) (S : AcSt a Ae A1 A2 A3 ce e1 e2 e3 g ga base w1 b U) (hx5 : x5 = .pointer (elemPtr 13 A1 (some i)))
    (HA : Hid (actV b a = match endAll a.service (b.now + 1) b a.ends with | none => (b, 5) | some b' => if whyNot b b' a s = 0 then (actDone b b' a s i, 0) else (b, whyNot b b' a s)))
    (next : ∀ cps u V, Hid (endAll a.service (b.now + 1) b a.ends = some ⟨b.now, b.svcs, cps, b.brs⟩) → Hid (Fit ⟨b.now, b.svcs, cps, b.brs⟩) → Hid (cps.length = b.cps.length) → AcSt a Ae A1 A2 A3 ce e1 e2 e3 g ga base w1 ⟨b.now, b.svcs, cps, b.brs⟩ V → ac29.wp Try.prog (bodyPost Try.prog Try.f102 (Acted b a g base w1)) (fB g ga x5 u) V) :
    ac20.wp Try.prog (bodyPost Try.prog Try.f102 (Acted b a g base w1)) (fB g ga x5 u) U := by
  have NX := Lib.hid next
  clear next
  subst hx5
  have l2 := hf.out.l2
  have hil : i < b.svcs.length := (List.getElem?_eq_some_iff.1 hs.out).1
  have hsn := hf.out.num s (List.mem_of_getElem? hs.out)
  have hnow := hf.out.now
  obtain ⟨g1, rfl, hbg1, -⟩ := own_head (xs := b.svcs) S.M.rows.r1 (by intro e; rw [e] at hil; simp at hil)
  have e5 : elemPtr 13 (some ⟨g1, 0, none⟩) (some i) = some ⟨g1, i * 13, none⟩ := by simp [elemPtr]
  rw [e5] at NX ⊢
  refine wp_seq' (headOf ac20) ac29 (by kernel_rfl) ?_
  refine wp_seq' (headOf (headOf ac20)) (restOf (headOf ac20)) (by kernel_rfl) ?_
  conv => arg 2; whnf
  unfold fB
  obtain ⟨-, -, -, -, -, -, a6, -⟩ := S.cells
  go_wp2
  refine reframe (fun u => fB20 g ga (.pointer (some ⟨g1, i * 13, none⟩)) Ae a.ends.length ce 0 u) (by kernel_rfl) ?_
  intro u
  refine wp_block' 4 (.loop acl20) (by kernel_rfl) ?_
  refine wp_loopN (fun k u => fB20 g ga (.pointer (some ⟨g1, i * 13, none⟩)) Ae a.ends.length ce k u) (fun k V => ∃ cps, Hid (Fit ⟨b.now, b.svcs, cps, b.brs⟩) ∧ Hid (cps.length = b.cps.length) ∧ AcSt a Ae (some ⟨g1, 0, none⟩) A2 A3 ce e1 e2 e3 g ga base w1 ⟨b.now, b.svcs, cps, b.brs⟩ V ∧ Hid (∀ n, cpyAt cps a.service n = cpyAt b.cps a.service n) ∧ Hid (endAll a.service (b.now + 1) b a.ends = endAll a.service (b.now + 1) ⟨b.now, b.svcs, cps, b.brs⟩ (a.ends.drop k))) a.ends.length (fun a => (intOf (a.tmps.getD 69 undef)).toNat) (fun _ _ => rfl) 0 u rfl (Nat.zero_le _) ⟨b.cps, hf, rfl, S, fun _ => rfl, rfl⟩ ?_
  clear a6
  rintro k u V hk ⟨cps, ft, hcl, S', hca, hi⟩
  have z0 : (0 : Int) ≤ (k : Nat) := by omega
  conv => arg 2; whnf
  unfold fB20
  by_cases hlt : k < a.ends.length
  · obtain ⟨x, hx⟩ := ex_at hlt
    obtain ⟨bb, o, rfl, hbb, f0, f1⟩ := end_at S'.ends hx
    have hd := Lib.hid (drop_at hx)
    have z1 : ((k : Nat) : Int) < (a.ends.length : Nat) := by omega
    obtain ⟨a0, -⟩ := S'.cells
    have hga := blk_lt S'.X
    have hcl2 : cps.length ≤ 200 := by have := hcl.out; omega
    have lc : cps.length ≤ 2000000 := by omega
    obtain ⟨j, hjb⟩ := there_at hT.out hx
    have hjc : cpyAt cps a.service x.number = some j := (hca.out _).trans hjb
    obtain ⟨cc, hcc, -⟩ := cpyAt_some hjc
    have jl : j < cps.length := (List.getElem?_eq_some_iff.1 hcc).1
    obtain ⟨g2, rfl, hbg2, hgl2, hf2⟩ := own_head (xs := cps) S'.M.rows.r2 (by intro e; rw [e] at jl; simp at jl)
    have HC := Lib.hid (show elemPtr 7 (some ⟨g2, 0, none⟩) (cpyAt cps a.service x.number) = some ⟨g2, j * 7, none⟩ by rw [hjc]; simp [elemPtr])
    have HCC := Lib.hid hcc
    have HG := Lib.hid (gate_of (b := ⟨b.now, b.svcs, cps, b.brs⟩) hq.out hs.out hjc hcc)
    have HE := Lib.hid (show endAll a.service (b.now + 1) ⟨b.now, b.svcs, cps, b.brs⟩ (x :: a.ends.drop (k + 1)) = if gate cps s cc then endAll a.service (b.now + 1) (endOne ⟨b.now, b.svcs, cps, b.brs⟩ (b.now + 1) j) (a.ends.drop (k + 1)) else none by
      rw [endAll, HG.out, hjc])
    clear hx hjb hjc hcc
    go_upto_region 24 with (go_at_call 82; refine (copy_r ⟨b.now, b.svcs, cps, b.brs⟩ a.service x.number _ _ (S'.blk.grow (by (repeat (first | with_reducible exact Grow.refl _ | with_reducible assumption | with_reducible refine Grow.drew ?_ | with_reducible refine Grow.alloc ?_ _ | (with_reducible refine Grow.set ?_ ?_ _; rotate_left; (first | (dsimp only; omega) | (simp <;> omega))))))) ((S'.rows.2.1).below (by (repeat (first | with_reducible exact Grow.refl _ | with_reducible assumption | with_reducible refine Grow.drew ?_ | with_reducible refine Grow.alloc ?_ _ | (with_reducible refine Grow.set ?_ ?_ _; rotate_left; (first | (dsimp only; omega) | (simp <;> omega))))))) lc HC.out).mono ?_; rintro e w' ⟨rfl, rfl⟩)
    refine rename ?_
    intro V2 hV2
    have G2 := Lib.hid (show Grow V V2 from grow_eq hV2 (by (repeat (first | with_reducible exact Grow.refl _ | with_reducible assumption | with_reducible refine Grow.drew ?_ | with_reducible refine Grow.alloc ?_ _ | (with_reducible refine Grow.set ?_ ?_ _; rotate_left; (first | (dsimp only; omega) | (simp <;> omega)))))))
    have S2 := S'.grow G2.out
    clear hV2 a0
    obtain ⟨bq, oq, hqq, -, s0, -, s2, s3, s4, s5, -⟩ := svc_at S2.rows.1 hs.out
    simp only [Option.some.injEq, Addr.mk.injEq] at hqq
    obtain ⟨rfl, rfl, -⟩ := hqq
    obtain ⟨bq, oq, hqq, -, -, -, -, -, c4, c5, -⟩ := cpy_at S2.rows.2.1 HCC.out
    simp only [Option.some.injEq, Addr.mk.injEq] at hqq
    obtain ⟨rfl, rfl, -⟩ := hqq
    simp only [Nat.zero_add] at s0 s2 s3 s4 s5 c4 c5
    have HM := Lib.hid (mayEnd_c ⟨b.now, b.svcs, cps, b.brs⟩ s cc V2 S2.blk S2.rows.2.1 lc hsn s0 s2 s3 s4 s5 c4 c5)
    clear s0 s2 s3 s4 s5 c4 c5
    rcases hgt : gate cps s cc
    · have HR := Lib.hid (show actV b a = (b, 5) by rw [HA.out, hi.out, hd.out, HE.out, hgt]; rfl)
      go_wp2_with (go_at_call 83; refine HM.out.mono ?_; rw [show gate (Book.cps ⟨b.now, b.svcs, cps, b.brs⟩) s cc = false from hgt]; rintro e w3 ⟨rfl, hg3⟩)
      go_ret
      exact Acted.refused HR (by decide) (S2.G.trans hg3)
    · have HE2 := Lib.hid (show endAll a.service (b.now + 1) b a.ends = endAll a.service (b.now + 1) (endOne ⟨b.now, b.svcs, cps, b.brs⟩ (b.now + 1) j) (a.ends.drop (k + 1)) by rw [hi.out, hd.out, HE.out, hgt]; rfl)
      go_wp2_with fail
      refine HM.out.mono ?_
      rw [show gate (Book.cps ⟨b.now, b.svcs, cps, b.brs⟩) s cc = true from hgt]
      rintro e w3 ⟨rfl, hg3⟩
      have S3 := S2.grow hg3
      have hfr : ∀ i, w3.frozen? ⟨g2, i, none⟩ = false := hf2 w3 (G2.out.trans hg3)
      obtain ⟨x0, -⟩ := box4 S3.M.box
      obtain ⟨bq, oq, hqq, -, -, -, c2, -, -, c5, -⟩ := cpy_at S3.rows.2.1 HCC.out
      simp only [Option.some.injEq, Addr.mk.injEq] at hqq
      obtain ⟨rfl, rfl, -⟩ := hqq
      simp only [Nat.zero_add] at c2 c5
      have hgg2 : ¬ g = g2 := fun e => heap_ne S3.M.rows.r2 S3.M.box (by decide) (by simp [Value.ownBlock, e])
      have hgg3 : ¬ g2 = g := fun e => hgg2 e.symm
      have hk2 : g2 ≠ ga := fun e => S3.k2 (by simp [Value.ownBlock, e])
      clear hg3
      go_wp2
      have HO := endOne_set (b := ⟨b.now, b.svcs, cps, b.brs⟩) (t := b.now + 1) HCC.out
      obtain ⟨M1, K1⟩ := S3.M.put2 (r := 5) (u := .bool true) (c' := { cc with ending := true }) HCC.out (by decide) rfl
      obtain ⟨M2, K2⟩ := M1.put2 (r := 2) (u := .int .i64 (b.now + 1)) (j := j) (c := { cc with ending := true }) (c' := { cc with ending := true, version := b.now + 1 }) (by simp [jl]) (by decide) rfl
      have K := grownBy_trans K1 K2
      have hl2 : ((cps.set j { cc with ending := true }).set j { cc with ending := true, version := b.now + 1 }).length = cps.length := by simp
      have hb2 := S3.hb
      refine again (k + 1) (by kernel_rfl) (by omega) (by omega) ⟨(cps.set j { cc with ending := true }).set j { cc with ending := true, version := b.now + 1 }, ?_, ?_, ⟨Grow.grown S3.G K fun q hq => by cases hq; omega, S3.hb, S3.oa, S3.ng, S3.k1, ?_, S3.k3, Keep.blk K S3.X (Ne.symm hk2), ?_, S3.R4⟩, ?_, ?_⟩
      · have := endOne_fit ft.out (b.now + 1) j
        rw [HO] at this
        exact this
      · exact hl2.trans hcl.out
      · rw [hl2]; exact S3.k2
      · rw [hl2]; exact M2
      · intro n
        have := endOne_cpyAt ⟨b.now, b.svcs, cps, b.brs⟩ (b.now + 1) j a.service n
        rw [HO] at this
        exact this.trans (hca.out n)
      · unfold Hid
        rw [HE2.out, HO]
  · obtain rfl : k = a.ends.length := by omega
    have HT := Lib.hid (show endAll a.service (b.now + 1) b a.ends = some ⟨b.now, b.svcs, cps, b.brs⟩ by rw [hi.out, List.drop_length]; rfl)
    have z2 : decide ((a.ends.length : Int) < (a.ends.length : Nat)) = false := by simp
    go_wp2
    show ac29.wp Try.prog _ _ _
    refine reframe (fun u => fB g ga (.pointer (some ⟨g1, i * 13, none⟩)) u) (by kernel_rfl) ?_
    intro u
    exact NX.out cps u V HT ft hcl S'
theorem acLoop14 {x5 : Value} {u : Nat → Value} (hf : Hid (Fit b)) (hl : a.ends.length ≤ 2000000) (hT : Hid (endsThere b.cps a.service a.ends = true)) (S : AcSt a Ae A1 A2 A3 ce e1 e2 e3 g ga base w1 b U) 
    (HA : Hid (endsSame b a.service a.ends = false → actV b a = (b, 4)))
    (next : ∀ u V, Hid (endsSame b a.service a.ends = true) → AcSt a Ae A1 A2 A3 ce e1 e2 e3 g ga base w1 b V → ac20.wp Try.prog (bodyPost Try.prog Try.f102 (Acted b a g base w1)) (fB g ga x5 u) V) :
    ac14.wp Try.prog (bodyPost Try.prog Try.f102 (Acted b a g base w1)) (fB g ga x5 u) U := by
  have NX := Lib.hid next
  clear next
  have l2 := hf.out.l2
  refine wp_seq' (headOf ac14) ac20 (by kernel_rfl) ?_
  refine wp_seq' (headOf (headOf ac14)) (restOf (headOf ac14)) (by kernel_rfl) ?_
  conv => arg 2; whnf
  unfold fB
  obtain ⟨-, -, -, -, -, -, a6, -⟩ := S.cells
  go_wp2
  refine reframe (fun u => fB14 g ga x5 Ae a.ends.length ce 0 u) (by kernel_rfl) ?_
  intro u
  refine wp_block' 2 (.loop acl14) (by kernel_rfl) ?_
  refine wp_loopN (fun k u => fB14 g ga x5 Ae a.ends.length ce k u) (fun k V => Grow U V ∧ Hid (endsSame b a.service a.ends = endsSame b a.service (a.ends.drop k))) a.ends.length (fun a => (intOf (a.tmps.getD 49 undef)).toNat) (fun _ _ => rfl) 0 u rfl (Nat.zero_le _) ⟨Grow.refl _, rfl⟩ ?_
  clear a6
  rintro k u V hk ⟨hV, hi⟩
  have S' := S.grow hV
  have z0 : (0 : Int) ≤ (k : Nat) := by omega
  conv => arg 2; whnf
  unfold fB14
  by_cases hlt : k < a.ends.length
  · obtain ⟨x, hx⟩ := ex_at hlt
    obtain ⟨j, hjc⟩ := there_at hT.out hx
    obtain ⟨cc, hcc, -⟩ := cpyAt_some hjc
    obtain ⟨bb, o, rfl, hbb, f0, f1⟩ := end_at S'.ends hx
    have hd := Lib.hid (drop_at hx)
    have z1 : ((k : Nat) : Int) < (a.ends.length : Nat) := by omega
    have HM := Lib.hid (show endsSame b a.service (x :: a.ends.drop (k + 1)) = (decide (cc.version = x.version) && endsSame b a.service (a.ends.drop (k + 1))) by simp [endsSame, cpyGet, hjc, hcc])
    have HCC := Lib.hid hcc
    have HJ := Lib.hid hjc
    clear hx hjc hcc
    go_upto_region 17 with fail
    clear f0 f1
    refine rename ?_
    intro V2 hV2
    have G2 := Lib.hid (show Grow V V2 from grow_eq hV2 (by (repeat (first | with_reducible exact Grow.refl _ | with_reducible assumption | with_reducible refine Grow.drew ?_ | with_reducible refine Grow.alloc ?_ _ | (with_reducible refine Grow.set ?_ ?_ _; rotate_left; (first | (dsimp only; omega) | (simp <;> omega)))))))
    have XE := Lib.hid (show V2.heap[V.heap.size]? = some (.cells #[.int .i64 x.number, .int .i64 x.version] 150 (0, 0)) from heap_eq hV2 (heap_alloc_new _ _))
    have S2 := S'.grow G2.out
    clear hV2
    obtain ⟨bc, oc, hA2, hbc, -, -, g2, -⟩ := cpy_p S2.rows.2.1 HCC.out
    have HC := Lib.hid (show elemPtr 7 A2 (cpyAt b.cps a.service x.number) = some ⟨bc, oc + j * 7, none⟩ by rw [HJ.out, hA2]; rfl)
    have a0 := fun y => blk_p S2.X 0 y
    have q0 := fun y => blk_p XE.out 0 y
    have q1 := fun y => blk_p XE.out 1 y
    clear hA2
    refine at_plus ?_
    rcases hcv : decide (cc.version = x.version)
    all_goals
      have HD := Lib.hid hcv
      simp only [decide_eq_false_iff_not, decide_eq_true_eq] at hcv
      refine region_quiet ⟨_, rfl⟩ (by kernel_rfl) (by kernel_rfl) ?_
      repeat (first | go_big_quiet_step ((go_at_call 82; exact quiet_same (copy_r b a.service x.number _ _ (S2.blk.grow (Grow.wplus _ _)) ((S2.rows.2.1).plus _) (by omega) HC.out))) | quiet_step (fail))
      refine wpQuiet_nil ?_
      rintro w2 ⟨y, rfl⟩
    · have HR := Lib.hid (HA.out (by rw [hi.out, hd.out, HM.out, HD.out]; rfl))
      go_wp2
      go_ret
      exact Acted.refused HR (by decide) (S2.G.trans (Grow.wplus _ _))
    · go_wp2
      exact again (k + 1) (by kernel_rfl) (by omega) (by omega) ⟨hV.trans (G2.out.trans (Grow.wplus _ _)), by unfold Hid; rw [hi.out, hd.out, HM.out, HD.out]; rfl⟩
  · obtain rfl : k = a.ends.length := by omega
    have HT := Lib.hid (show endsSame b a.service a.ends = true by rw [hi.out, List.drop_length]; rfl)
    have z2 : decide ((a.ends.length : Int) < (a.ends.length : Nat)) = false := by simp
    go_wp2
    show ac20.wp Try.prog _ _ _
    refine reframe (fun u => fB g ga x5 u) (by kernel_rfl) ?_
    intro u
    exact NX.out _ _ HT S'
theorem acLoop6 {x5 : Value} {u : Nat → Value} (hf : Hid (Fit b)) (hl : a.ends.length ≤ 2000000) (S : AcSt a Ae A1 A2 A3 ce e1 e2 e3 g ga base w1 b U) (HA : Hid (endsThere b.cps a.service a.ends = false → actV b a = (b, 3)))
    (next : ∀ u V, Hid (endsThere b.cps a.service a.ends = true) → AcSt a Ae A1 A2 A3 ce e1 e2 e3 g ga base w1 b V → ac12.wp Try.prog (bodyPost Try.prog Try.f102 (Acted b a g base w1)) (fB g ga x5 u) V) :
    ac6.wp Try.prog (bodyPost Try.prog Try.f102 (Acted b a g base w1)) (fB g ga x5 u) U := by
  have NX := Lib.hid next
  clear next
  have l2 := hf.out.l2
  refine wp_seq' (headOf ac6) ac12 (by kernel_rfl) ?_
  refine wp_seq' (headOf (headOf ac6)) (restOf (headOf ac6)) (by kernel_rfl) ?_
  conv => arg 2; whnf
  unfold fB
  obtain ⟨-, -, -, -, -, -, a6, -⟩ := S.cells
  go_wp2
  refine reframe (fun u => fB6 g ga x5 Ae a.ends.length ce 0 u) (by kernel_rfl) ?_
  intro u
  refine wp_block' 0 (.loop acl6) (by kernel_rfl) ?_
  refine wp_loopN (fun k u => fB6 g ga x5 Ae a.ends.length ce k u) (fun k V => Grow U V ∧ Hid (endsThere b.cps a.service a.ends = endsThere b.cps a.service (a.ends.drop k))) a.ends.length (fun a => (intOf (a.tmps.getD 27 undef)).toNat) (fun _ _ => rfl) 0 u rfl (Nat.zero_le _) ⟨Grow.refl _, rfl⟩ ?_
  clear a6
  rintro k u V hk ⟨hV, hi⟩
  have S' := S.grow hV
  obtain ⟨a0, -⟩ := S'.cells
  have hga := blk_lt S'.X
  have hgg := blk_lt S'.M.box
  have z0 : (0 : Int) ≤ (k : Nat) := by omega
  conv => arg 2; whnf
  unfold fB6
  by_cases hlt : k < a.ends.length
  · obtain ⟨x, hx⟩ := ex_at hlt
    obtain ⟨bb, o, rfl, hbb, f0, f1⟩ := end_at S'.ends hx
    have hd := Lib.hid (drop_at hx)
    have z1 : ((k : Nat) : Int) < (a.ends.length : Nat) := by omega
    clear hx
    rcases hc : cpyAt b.cps a.service x.number with _ | j
    · have HC := Lib.hid (show elemPtr 7 A2 (cpyAt b.cps a.service x.number) = none by rw [hc]; rfl)
      have HR := Lib.hid (HA.out (by rw [hi.out, hd.out]; simp [endsThere, hc]))
      clear hc
      go_wp2_with (go_at_call 82; refine (copy_r b a.service x.number _ none (S'.blk.grow (by (repeat (first | with_reducible exact Grow.refl _ | with_reducible assumption | with_reducible refine Grow.drew ?_ | with_reducible refine Grow.alloc ?_ _ | (with_reducible refine Grow.set ?_ ?_ _; rotate_left; (first | (dsimp only; omega) | (simp <;> omega))))))) ((S'.rows.2.1).below (by (repeat (first | with_reducible exact Grow.refl _ | with_reducible assumption | with_reducible refine Grow.drew ?_ | with_reducible refine Grow.alloc ?_ _ | (with_reducible refine Grow.set ?_ ?_ _; rotate_left; (first | (dsimp only; omega) | (simp <;> omega))))))) (by omega) HC.out).mono ?_; rintro e w' ⟨rfl, rfl⟩)
      go_ret
      exact Acted.refused HR (by decide) (S'.G.trans (by (repeat (first | with_reducible exact Grow.refl _ | with_reducible assumption | with_reducible refine Grow.drew ?_ | with_reducible refine Grow.alloc ?_ _ | (with_reducible refine Grow.set ?_ ?_ _; rotate_left; (first | (dsimp only; omega) | (simp <;> omega)))))))
    · have hj : j < b.cps.length := by obtain ⟨c, hc1, -⟩ := cpyAt_some hc; exact (List.getElem?_eq_some_iff.1 hc1).1
      obtain ⟨bc, oc, hA2⟩ : ∃ bc oc, A2 = some ⟨bc, oc, none⟩ := by
        obtain ⟨c, hc1, -⟩ := cpyAt_some hc
        obtain ⟨bc, oc, e, -⟩ := cpy_at S'.rows.2.1 hc1
        exact ⟨bc, oc, e⟩
      have HC := Lib.hid (show elemPtr 7 A2 (cpyAt b.cps a.service x.number) = some ⟨bc, oc + j * 7, none⟩ by rw [hc, hA2]; rfl)
      have HN := Lib.hid (show endsThere b.cps a.service (x :: a.ends.drop (k + 1)) = endsThere b.cps a.service (a.ends.drop (k + 1)) by simp [endsThere, hc])
      clear hc hA2
      go_wp2_with (go_at_call 82; refine (copy_r b a.service x.number _ _ (S'.blk.grow (by (repeat (first | with_reducible exact Grow.refl _ | with_reducible assumption | with_reducible refine Grow.drew ?_ | with_reducible refine Grow.alloc ?_ _ | (with_reducible refine Grow.set ?_ ?_ _; rotate_left; (first | (dsimp only; omega) | (simp <;> omega))))))) ((S'.rows.2.1).below (by (repeat (first | with_reducible exact Grow.refl _ | with_reducible assumption | with_reducible refine Grow.drew ?_ | with_reducible refine Grow.alloc ?_ _ | (with_reducible refine Grow.set ?_ ?_ _; rotate_left; (first | (dsimp only; omega) | (simp <;> omega))))))) (by omega) HC.out).mono ?_; rintro e w' ⟨rfl, rfl⟩)
      exact again (k + 1) (by kernel_rfl) (by omega) (by omega) ⟨hV.trans (by (repeat (first | with_reducible exact Grow.refl _ | with_reducible assumption | with_reducible refine Grow.drew ?_ | with_reducible refine Grow.alloc ?_ _ | (with_reducible refine Grow.set ?_ ?_ _; rotate_left; (first | (dsimp only; omega) | (simp <;> omega)))))), by unfold Hid; rw [hi.out, hd.out, HN.out]⟩
  · obtain rfl : k = a.ends.length := by omega
    have HT := Lib.hid (show endsThere b.cps a.service a.ends = true by rw [hi.out, List.drop_length]; rfl)
    have z2 : decide ((a.ends.length : Int) < (a.ends.length : Nat)) = false := by simp
    go_wp2
    show ac12.wp Try.prog _ _ _
    refine reframe (fun u => fB g ga x5 u) (by kernel_rfl) ?_
    intro u
    exact NX.out _ _ HT S'
end
end Go.Proofs.Ytnmknkdbeccmhaa
