/- The walks of the laws' copying and comparing of worlds. -/
import Derived.Test.YtnmknkdbeccmhaaB21
namespace Go.Proofs.Ytnmknkdbeccmhaa
open Go.RowKit
set_option linter.unusedSimpArgs false
set_option linter.unusedVariables false

theorem OwnBook.rows2 {base : Nat} {w : World} {v : Value} {b : Book} (h : OwnBook base w v b) : ∃ A1 c1 A2 c2 A3 c3, v = .agg #[.int .i64 b.now, .slice A1 b.svcs.length c1, .slice A2 b.cps.length c2, .slice A3 b.brs.length c3] ∧ (Rows 13 svcC w A1 b.svcs ∧ Rows 7 cpyC w A2 b.cps ∧ Rows 2 brtC w A3 b.brs) ∧
    (∀ p, A1 = some p → base ≤ p.block) ∧ (∀ p, A2 = some p → base ≤ p.block) ∧ (∀ p, A3 = some p → base ≤ p.block) := by
  obtain ⟨v1, v2, v3, rfl, h1, h2, h3⟩ := h
  obtain ⟨A1, c1, rfl, -, r1⟩ := own_rows svcC_len rfl h1
  obtain ⟨A2, c2, rfl, -, r2⟩ := own_rows cpyC_len rfl h2
  obtain ⟨A3, c3, rfl, -, r3⟩ := own_rows brtC_len rfl h3
  exact ⟨A1, c1, A2, c2, A3, c3, rfl, ⟨r1, r2, r3⟩, fun p e => by subst e; exact (h1.lt _ rfl).1, fun p e => by subst e; exact (h2.lt _ rfl).1, fun p e => by subst e; exact (h3.lt _ rfl).1⟩
theorem SameFrom.setR {base : Nat} {w w' : World} (h : SameFrom base w w') {p : Addr} (hp : p.block < base) (u : Value) : SameFrom base w (w'.setCell p u) := fun k hk hl => (heap_setCell_other w' p k u (by omega)).trans (h k hk hl)
def MadeBooks (xs : List Book) (w : World) (e : Ending) (w' : World) : Prop := ∃ A c, e = .returned (.slice A xs.length c) ∧ (∀ w'', SameFrom w.heap.size w' w'' → BooksAt w'' A xs) ∧ Grow w w'
set_option maxRecDepth 100000 in
set_option maxHeartbeats 4000000 in
theorem toStewBookS_c (xs : List Book) {A : Option Addr} {c : Nat} (hn : xs.length ≤ 2000000) (hs : ∀ x ∈ xs, Sized x) (w : World) (h : BooksAt w A xs) :
    Calls Try.prog 77 #[.slice A xs.length c] w (MadeBooks xs w) := by
  obtain ⟨i0, hi, hz0, hz1, hz2⟩ := info_parts info_Book
  have R := Lib.hid (fun (w' : World) (hg : Grow w w') => h.below hg)
  have HS := Lib.hid hs
  clear h hs
  go_enter Try.func77, Try.ntmps77
  go_wp2_with (refine wpList_make_full _ rfl _ _ _ rfl w.heap.size 34 i0 _ 4 Try.underlying43 hi hz0 hz1 .i64 .i64 xs.length xs.length xs.length rfl rfl rfl rfl (by rw [hz2]; omega) (by unfold maxLen; omega) (Nat.le_refl _) ?_; intro w1 hown hgr; have HO := Lib.hid hown; have HG := Lib.hid hgr; clear hown hgr)
  go_loopw [4] (fun i wr => ∃ (es : List BookV) (rest : List Value), es.length ≤ xs.length ∧ i = .int .i64 es.length ∧ Hid (es.map (·.b) = xs.take es.length) ∧ Hid (Grow w wr) ∧ Hid (wr.ownsRow w.heap.size 34 4 (.slice (some ⟨w.heap.size, 0, none⟩) xs.length xs.length) xs.length (es.flatMap bvC ++ rest)) ∧ Hid (∀ e ∈ es, BVok wr e ∧ BVoff w.heap.size e) ∧ Hid (w.heap.size < wr.heap.size)) (fun i _ => xs.length - (intOf i).toNat)
  case atStart =>
    refine ⟨[], _, Nat.zero_le _, rfl, by unfold Hid; simp, (Grow.refl _).grown HG.out (by simp), HO.out, by unfold Hid; simp, ?_⟩
    exact (HO.out.lt _ rfl).2
  case round =>
    obtain ⟨es, rest, hk, rfl, hm, hgr, ho, hok, hgl⟩ := hrel
    obtain ⟨k, hkk⟩ : ∃ k, es.length = k := ⟨_, rfl⟩
    have HK := Lib.hid hkk
    rw [hkk]
    rw [hkk] at hk
    clear hkk
    by_cases hlt : k < xs.length
    · obtain ⟨x, hx⟩ := ex_at hlt
      obtain ⟨bl, o, rfl, hbl, B1, d1, B2, d2, B3, d3, f0, f1, f2, f3, r1, r2, r3⟩ := (R.out _ hgr.out).at_ hx
      obtain ⟨s1, s2, s3⟩ := HS.out x (List.mem_of_getElem? hx)
      have HX := Lib.hid hx
      have HR1 := Lib.hid r1
      have HR2 := Lib.hid r2
      have HR3 := Lib.hid r3
      clear hx r1 r2 r3
      go_wp2_with fail
      refine (toStewBook_c x wr HR1.out HR2.out HR3.out s1 s2 s3).mono ?_
      rintro e w2 ⟨v, rfl, hob, hg2⟩
      obtain ⟨E1, g1, E2, g2, E3, g3, rfl, hr, q1, q2, q3⟩ := hob.rows2
      have HG2 := Lib.hid hg2
      have HO2 := Lib.hid (own_grow ho.out hg2)
      obtain ⟨V, hV⟩ := own_V HO2.out
      have e0 : w2.cell? ⟨w.heap.size, k * 4, none⟩ = some (V (k * 4 + 0)) := hV _ (by omega)
      have e1 : w2.cell? ⟨w.heap.size, k * 4 + 1, none⟩ = some (V (k * 4 + 1)) := hV _ (by omega)
      have e2 : w2.cell? ⟨w.heap.size, k * 4 + 2, none⟩ = some (V (k * 4 + 2)) := hV _ (by omega)
      have e3 : w2.cell? ⟨w.heap.size, k * 4 + 3, none⟩ = some (V (k * 4 + 3)) := hV _ (by omega)
      have hf : ∀ j, w2.frozen? ⟨w.heap.size, j, none⟩ = false := fun j => HO2.out.frozenAt j
      have HR := Lib.hid hr
      have HOFF : Hid (BVoff w.heap.size ⟨x, E1, E2, E3, g1, g2, g3⟩) := by
        have hl := hgl.out
        refine ⟨fun p hp => ?_, fun p hp => ?_, fun p hp => ?_⟩
        · have := q1 p hp; omega
        · have := q2 p hp; omega
        · have := q3 p hp; omega
      clear hg2 hV hob hr q1 q2 q3 f0 f1 f2 f3
      obtain ⟨rest', h1, h2⟩ := own_put2 (x := ⟨x, E1, E2, E3, g1, g2, g3⟩) bvC_len (by rw [HK.out]; exact hlt) HO2.out
      rw [HK.out] at h1 h2
      have H1 := Lib.hid h1
      have H2 := Lib.hid h2
      clear h1 h2
      go_wp2_with fail
      go_roundw
      case rel =>
        refine ⟨es ++ [(⟨x, E1, E2, E3, g1, g2, g3⟩ : BookV)], rest', by simp; rw [HK.out]; omega, by simp [HK.out], ?_, (hgr.out.trans HG2.out).grown H2.out (fun q hq => by simp at hq; omega), H1.out, ?_, ?_⟩
        · unfold Hid
          rw [List.map_append, hm.out, List.length_append, HK.out]
          exact (take_succ_at HX.out).symm
        · rintro e he
          rcases List.mem_append.1 he with hm' | hm'
          · obtain ⟨h1, h2⟩ := hok.out e hm'
            exact ⟨(h1.below HG2.out).keep H2.out (fun p hp => by have := h2.1 p hp; omega) (fun p hp => by have := h2.2.1 p hp; omega) (fun p hp => by have := h2.2.2 p hp; omega), h2⟩
          · obtain rfl : e = _ := List.mem_singleton.1 hm'
            exact ⟨BVok.keep HR.out H2.out (fun p hp => by have := HOFF.out.1 p hp; omega) (fun p hp => by have := HOFF.out.2.1 p hp; omega) (fun p hp => by have := HOFF.out.2.2 p hp; omega), HOFF.out⟩
        · have h1 := hgl.out
          have h2 := HG2.out.size
          have h3 := H2.out.size
          exact Nat.lt_of_lt_of_le h1 (Nat.le_trans h2 h3)
      case measure => simp [intOf]; omega
    · obtain rfl : k = xs.length := by omega
      have HB := Lib.hid (fun (w'' : World) (hs : SameFrom w.heap.size wr w'') => books_of HK.out.symm (own_same ho.out hs) fun e he => (hok.out e he).1.same hs (hok.out e he).2)
      go_wp2
      go_ret
      refine ⟨_, _, rfl, fun w'' hs => ?_, hgr.out⟩
      have := HB.out w'' hs
      rw [hm.out, HK.out, List.take_length] at this
      exact this
/-- A value that reads as the world v, its blocks from base on. -/
def OwnWld (base : Nat) (w : World) (u : Value) (v : Wld) : Prop := ∃ AP cP A1 c1 A2 c2 A3 c3, u = .agg #[.slice AP v.past.length cP, .int .i64 v.book.now, .slice A1 v.book.svcs.length c1, .slice A2 v.book.cps.length c2, .slice A3 v.book.brs.length c3] ∧
  (∀ w', SameFrom base w w' → BooksAt w' AP v.past ∧ Rows 13 svcC w' A1 v.book.svcs ∧ Rows 7 cpyC w' A2 v.book.cps ∧ Rows 2 brtC w' A3 v.book.brs)
def MadeWld (v : Wld) (w : World) (e : Ending) (w' : World) : Prop := ∃ u, e = .returned u ∧ OwnWld w.heap.size w' u v ∧ Grow w w'
set_option maxRecDepth 100000 in
set_option maxHeartbeats 4000000 in
theorem toStewWorld_c (v : Wld) {AP A1 A2 A3 : Option Addr} {cP c1 c2 c3 : Nat} (w : World) (hp : BooksAt w AP v.past) (h1 : Rows 13 svcC w A1 v.book.svcs) (h2 : Rows 7 cpyC w A2 v.book.cps) (h3 : Rows 2 brtC w A3 v.book.brs)
    (lp : v.past.length ≤ 2000000) (sp : ∀ x ∈ v.past, Sized x) (sb : Sized v.book) :
    Calls Try.prog 22 #[.agg #[.slice AP v.past.length cP, .int .i64 v.book.now, .slice A1 v.book.svcs.length c1, .slice A2 v.book.cps.length c2, .slice A3 v.book.brs.length c3]] w (MadeWld v w) := by
  have RP := Lib.hid (fun (w' : World) (hg : Grow w w') => hp.below hg)
  have R1 := Lib.hid (fun (w' : World) (hg : Grow w w') => h1.below hg)
  have R2 := Lib.hid (fun (w' : World) (hg : Grow w w') => h2.below hg)
  have R3 := Lib.hid (fun (w' : World) (hg : Grow w w') => h3.below hg)
  have SP := Lib.hid sp
  obtain ⟨l1, l2, l3⟩ := sb
  clear hp h1 h2 h3 sp
  go_enter Try.func22, Try.ntmps22
  go_wp2_with fail
  refine (toStewBookS_c v.past lp SP.out _ (RP.out _ (by (repeat (first | with_reducible exact Grow.refl _ | with_reducible assumption | with_reducible refine Grow.drew ?_ | with_reducible refine Grow.alloc ?_ _ | (with_reducible refine Grow.set ?_ ?_ _; rotate_left; (first | (dsimp only; omega) | (simp <;> omega)))))))).mono ?_
  rintro e w1 ⟨BP, dP, rfl, hob, hg1⟩
  obtain ⟨a1, a2, a3⟩ := heap_alloc3 w _ _ _
  replace a1 := Lib.hid (blk_grow a1 hg1)
  replace a2 := Lib.hid (blk_grow a2 hg1)
  replace a3 := Lib.hid (blk_grow a3 hg1)
  have G1 := Lib.hid (Grow.trans (show Grow w _ by (repeat (first | with_reducible exact Grow.refl _ | with_reducible assumption | with_reducible refine Grow.drew ?_ | with_reducible refine Grow.alloc ?_ _ | (with_reducible refine Grow.set ?_ ?_ _; rotate_left; (first | (dsimp only; omega) | (simp <;> omega)))))) hg1)
  have OB := Lib.hid (show ∀ w'', SameFrom (w.heap.size + 3) w1 w'' → BooksAt w'' BP v.past from fun w'' hs => hob w'' (hs.mono (by simp)))
  clear hob hg1
  have q0 := cell_of_row w1 _ 0 _ _ _ a3.out
  have q1 := cell_of_row w1 _ 1 _ _ _ a3.out
  have q2 := cell_of_row w1 _ 2 _ _ _ a3.out
  have q3 := cell_of_row w1 _ 3 _ _ _ a3.out
  have q4 := cell_of_row w1 _ 4 _ _ _ a3.out
  have qf0 := frozen_of_row w1 _ 0 _ _ a3.out
  have qf1 := frozen_of_row w1 _ 1 _ _ a3.out
  have qf2 := frozen_of_row w1 _ 2 _ _ a3.out
  have qf3 := frozen_of_row w1 _ 3 _ _ a3.out
  have qf4 := frozen_of_row w1 _ 4 _ _ a3.out
  have x0 := cell_of_row w1 _ 0 _ _ _ a1.out
  have x1 := cell_of_row w1 _ 1 _ _ _ a1.out
  have x2 := cell_of_row w1 _ 2 _ _ _ a1.out
  have x3 := cell_of_row w1 _ 3 _ _ _ a1.out
  have x4 := cell_of_row w1 _ 4 _ _ _ a1.out
  go_wp2_with fail
  have GS := Lib.hid (show Grow w (w1.setCell ⟨w.heap.size + 1 + 1, 0, none⟩ (.slice BP v.past.length dP)) from G1.out.set (by simp; omega) _)
  refine (toStewBook_c v.book _ (R1.out _ GS.out) (R2.out _ GS.out) (R3.out _ GS.out) l1 l2 l3).mono ?_
  rintro e w2 ⟨u, rfl, ho, hg2⟩
  obtain ⟨E1, g1, E2, g2, E3, g3, rfl, hr, k1, k2, k3⟩ := ho.rows2
  have s1 := blk_lt a3.out
  have b2 := blk_grow (blk_far a2.out (p := ⟨w.heap.size + 1 + 1, 0, none⟩) (by simp) (.slice BP v.past.length dP)) hg2
  have b3 := blk_grow (blk_set a3.out 0 (.slice BP v.past.length dP)) hg2
  have G2 := Lib.hid (GS.out.trans hg2)
  have S2 := Lib.hid (show SameFrom (w.heap.size + 3) w1 w2 from ((SameFrom.refl _ w1).setR (p := ⟨w.heap.size + 1 + 1, 0, none⟩) (by simp) _).trans (SameFrom.of_grow hg2) (by simp))
  have HR := Lib.hid hr
  have z1 : w1.heap.size ≤ w2.heap.size := by have := hg2.size; simpa using this
  have KK := Lib.hid (show (∀ p, E1 = some p → w.heap.size + 3 ≤ p.block) ∧ (∀ p, E2 = some p → w.heap.size + 3 ≤ p.block) ∧ (∀ p, E3 = some p → w.heap.size + 3 ≤ p.block) by
    refine ⟨fun p hp => ?_, fun p hp => ?_, fun p hp => ?_⟩
    · have := k1 p hp; simp at this; omega
    · have := k2 p hp; simp at this; omega
    · have := k3 p hp; simp at this; omega)
  clear ho hg2 hr k1 k2 k3 q0 q1 q2 q3 q4 qf0 qf1 qf2 qf3 qf4 x0 x1 x2 x3 x4 a1 a2 a3
  have q0 := cell_of_row w2 _ 0 _ _ _ b3
  have q1 := cell_of_row w2 _ 1 _ _ _ b3
  have q2 := cell_of_row w2 _ 2 _ _ _ b3
  have q3 := cell_of_row w2 _ 3 _ _ _ b3
  have q4 := cell_of_row w2 _ 4 _ _ _ b3
  have qf0 := frozen_of_row w2 _ 0 _ _ b3
  have qf1 := frozen_of_row w2 _ 1 _ _ b3
  have qf2 := frozen_of_row w2 _ 2 _ _ b3
  have qf3 := frozen_of_row w2 _ 3 _ _ b3
  have qf4 := frozen_of_row w2 _ 4 _ _ b3
  have r0 := cell_of_row w2 _ 0 _ _ _ b2
  have r1 := cell_of_row w2 _ 1 _ _ _ b2
  have r2 := cell_of_row w2 _ 2 _ _ _ b2
  have r3 := cell_of_row w2 _ 3 _ _ _ b2
  have r4 := cell_of_row w2 _ 4 _ _ _ b2
  have rf0 := frozen_of_row w2 _ 0 _ _ b2
  have rf1 := frozen_of_row w2 _ 1 _ _ b2
  have rf2 := frozen_of_row w2 _ 2 _ _ b2
  have rf3 := frozen_of_row w2 _ 3 _ _ b2
  have rf4 := frozen_of_row w2 _ 4 _ _ b2
  clear b2 b3
  go_wp2
  refine bodyPost_ret (v := .agg #[.slice BP v.past.length dP, .int .i64 v.book.now, .slice E1 v.book.svcs.length g1, .slice E2 v.book.cps.length g2, .slice E3 v.book.brs.length g3]) (by simp [results, Try.results22, go_sem, r0, r1, r2, r3, r4, q0, q1, q2, q3, q4]) rfl ⟨_, rfl, ⟨_, _, _, _, _, _, _, _, rfl, fun w'' hs => ?_⟩, ?_⟩
  · have SF := (hs.mono (show w.heap.size ≤ w.heap.size + 3 by omega))
    have S3 : SameFrom (w.heap.size + 3) w2 w'' := by
      refine SameFrom.trans ?_ SF (by simp)
      repeat (refine SameFrom.setR ?_ (by simp) _)
      exact SameFrom.refl _ _
    exact ⟨OB.out w'' (S2.out.trans S3 z1), HR.out.1.same S3 KK.out.1, HR.out.2.1.same S3 KK.out.2.1, HR.out.2.2.same S3 KK.out.2.2⟩
  · repeat (refine Grow.set ?_ (by simp <;> omega) _)
    exact G2.out
set_option maxRecDepth 100000 in
set_option maxHeartbeats 4000000 in
theorem eqStewBookS_c (xs : List Book) {A B : Option Addr} {c c' : Nat} (hn : xs.length ≤ 2000000) (hs : ∀ x ∈ xs, Sized x) (w : World) (h : BooksAt w A xs) (h' : BooksAt w B xs) :
    Calls Try.prog 78 #[.slice A xs.length c, .slice B xs.length c'] w fun e w' => e = .returned (.bool true) ∧ Grow w w' := by
  have R := Lib.hid h
  have R' := Lib.hid h'
  have HS := Lib.hid hs
  clear h h' hs
  go_enter Try.func78, Try.ntmps78
  go_wp2
  refine rebase ?_
  intro W hW
  obtain rfl := hW.out
  go_loopw [5] (fun i wr => ∃ (k : Nat) (y : Ext), k ≤ xs.length ∧ i = .int .i64 k ∧ wr = wplus W y) (fun i _ => xs.length - (intOf i).toNat)
  case atStart => exact ⟨0, _, Nat.zero_le _, rfl, rfl⟩
  case round =>
    obtain ⟨k, y, hk, rfl, rfl⟩ := hrel
    by_cases hlt : k < xs.length
    · obtain ⟨x, hx⟩ := ex_at hlt
      obtain ⟨b1, o1, rfl, hb1, A1, a1, A2, a2, A3, a3, f0, f1, f2, f3, r1, r2, r3⟩ := R.out.at_ hx
      obtain ⟨b2, o2, rfl, hb2, D1, e1, D2, e2, D3, e3, g0, g1, g2, g3, s1, s2, s3⟩ := R'.out.at_ hx
      obtain ⟨l1, l2, l3⟩ := HS.out x (List.mem_of_getElem? hx)
      have HR := Lib.hid (And.intro r1 (And.intro r2 r3))
      have HR' := Lib.hid (And.intro s1 (And.intro s2 s3))
      replace f0 := cell_p' f0
      replace f1 := cell_p' f1
      replace f2 := cell_p' f2
      replace f3 := cell_p' f3
      replace g0 := cell_p' g0
      replace g1 := cell_p' g1
      replace g2 := cell_p' g2
      replace g3 := cell_p' g3
      clear hx r1 r2 r3 s1 s2 s3
      have t2 : (0 : Int) ≤ (k : Int) := Int.natCast_nonneg _
      have t3 : (k : Int) < (xs.length : Int) := by omega
      go_wp2
      refine region_quiet ⟨_, rfl⟩ (by kernel_rfl) (by kernel_rfl) ?_
      repeat (go_big_quiet_step ((go_at_call 19; exact quiet_grow (eqStewBook_c x _ (HR.out.1.plus _) (HR.out.2.1.plus _) (HR.out.2.2.plus _) (HR'.out.1.plus _) (HR'.out.2.1.plus _) (HR'.out.2.2.plus _) l1 l2 l3))))
      refine wpQuiet_nil ?_
      rintro w2 ⟨y2, rfl⟩
      go_wp2
      go_roundw
      case rel => exact ⟨k + 1, _, by omega, by go_num, rfl⟩
      case measure => simp [intOf]; omega
    · obtain rfl : k = xs.length := by omega
      go_wp2
      go_ret
      exact ⟨rfl, Grow.wplus _ _⟩
set_option maxRecDepth 100000 in
set_option maxHeartbeats 4000000 in
theorem eqStewWorld_c (v : Wld) {AP A1 A2 A3 BP B1 B2 B3 : Option Addr} {cP c1 c2 c3 dP d1 d2 d3 : Nat} (w : World) (hp : BooksAt w AP v.past) (h1 : Rows 13 svcC w A1 v.book.svcs) (h2 : Rows 7 cpyC w A2 v.book.cps) (h3 : Rows 2 brtC w A3 v.book.brs)
    (kp : BooksAt w BP v.past) (k1 : Rows 13 svcC w B1 v.book.svcs) (k2 : Rows 7 cpyC w B2 v.book.cps) (k3 : Rows 2 brtC w B3 v.book.brs) (lp : v.past.length ≤ 2000000) (sp : ∀ x ∈ v.past, Sized x) (sb : Sized v.book) :
    Calls Try.prog 24 #[.agg #[.slice AP v.past.length cP, .int .i64 v.book.now, .slice A1 v.book.svcs.length c1, .slice A2 v.book.cps.length c2, .slice A3 v.book.brs.length c3], .agg #[.slice BP v.past.length dP, .int .i64 v.book.now, .slice B1 v.book.svcs.length d1, .slice B2 v.book.cps.length d2, .slice B3 v.book.brs.length d3]] w fun e w' => e = .returned (.bool true) ∧ Grow w w' := by
  have RP := Lib.hid (fun (w' : World) (hg : Grow w w') => hp.below hg)
  have R1 := Lib.hid (fun (w' : World) (hg : Grow w w') => h1.below hg)
  have R2 := Lib.hid (fun (w' : World) (hg : Grow w w') => h2.below hg)
  have R3 := Lib.hid (fun (w' : World) (hg : Grow w w') => h3.below hg)
  have QP := Lib.hid (fun (w' : World) (hg : Grow w w') => kp.below hg)
  have Q1 := Lib.hid (fun (w' : World) (hg : Grow w w') => k1.below hg)
  have Q2 := Lib.hid (fun (w' : World) (hg : Grow w w') => k2.below hg)
  have Q3 := Lib.hid (fun (w' : World) (hg : Grow w w') => k3.below hg)
  have SP := Lib.hid sp
  obtain ⟨l1, l2, l3⟩ := sb
  clear hp h1 h2 h3 kp k1 k2 k3 sp
  go_enter Try.func24, Try.ntmps24
  go_wp2_with fail
  refine (eqStewBookS_c v.past lp SP.out _ (RP.out _ (by (repeat (first | with_reducible exact Grow.refl _ | with_reducible assumption | with_reducible refine Grow.drew ?_ | with_reducible refine Grow.alloc ?_ _ | (with_reducible refine Grow.set ?_ ?_ _; rotate_left; (first | (dsimp only; omega) | (simp <;> omega))))))) (QP.out _ (by (repeat (first | with_reducible exact Grow.refl _ | with_reducible assumption | with_reducible refine Grow.drew ?_ | with_reducible refine Grow.alloc ?_ _ | (with_reducible refine Grow.set ?_ ?_ _; rotate_left; (first | (dsimp only; omega) | (simp <;> omega)))))))).mono ?_
  rintro e w1 ⟨rfl, hg1⟩
  have G1 := Lib.hid (Grow.trans (show Grow w _ by (repeat (first | with_reducible exact Grow.refl _ | with_reducible assumption | with_reducible refine Grow.drew ?_ | with_reducible refine Grow.alloc ?_ _ | (with_reducible refine Grow.set ?_ ?_ _; rotate_left; (first | (dsimp only; omega) | (simp <;> omega)))))) hg1)
  obtain ⟨x0, x1, x2, x3, x4⟩ := box5 (blk_grow (heap_alloc2 w _ _) hg1)
  obtain ⟨y0, y1, y2, y3, y4⟩ := box5 (blk_grow (heap_alloc2_new w _ _) hg1)
  clear hg1
  go_wp2_with fail
  refine (eqStewBook_c v.book _ (R1.out _ G1.out) (R2.out _ G1.out) (R3.out _ G1.out) (Q1.out _ G1.out) (Q2.out _ G1.out) (Q3.out _ G1.out) l1 l2 l3).mono ?_
  rintro e w2 ⟨rfl, hg2⟩
  go_wp2
  go_ret
  exact ⟨rfl, G1.out.trans hg2⟩
end Go.Proofs.Ytnmknkdbeccmhaa
