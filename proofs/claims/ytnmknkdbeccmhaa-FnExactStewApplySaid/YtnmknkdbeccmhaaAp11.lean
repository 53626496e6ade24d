/- The walks of the laws' own work on worlds: measure, copy, compare. The walks of the laws' copying and comparing of worlds. The walks of the program's gate, and of StewMayEnd on both sides. The walks of what a load asks for, of drained berths, of a service's live copies. -/
import Derived.Test.YtnmknkdbeccmhaaAp4
import Derived.Test.YtnmknkdbeccmhaaAp3
import Derived.Test.YtnmknkdbeccmhaaAp10
import Derived.Test.YtnmknkdbeccmhaaAp1
import Derived.Laws.OwnMore
namespace Go.Proofs.Ytnmknkdbeccmhaa
open Go.RowKit
set_option linter.unusedSimpArgs false
set_option linter.unusedVariables false

def SmallBook (b : Book) : Prop := (b.svcs.length ≤ 9223372036854775807 ∧ b.cps.length ≤ 9223372036854775807 ∧ b.brs.length ≤ 9223372036854775807) ∧ SmallSvc b.svcs ∧ SmallCpy b.cps ∧ SmallBrt b.brs
set_option maxRecDepth 100000 in
set_option maxHeartbeats 2000000 in
theorem szStewBookS_c (xs : List Book) (l : Int) {A : Option Addr} {c : Nat} (hl0 : 0 ≤ l) (hl1 : l ≤ 2000000) (hn : xs.length ≤ 9223372036854775807) (hs : ∀ x ∈ xs, SmallBook x) (w : World) (h : BooksAt w A xs) :
    Calls Try.prog 76 #[.slice A xs.length c, .int .i64 l] w fun e w' => e = .returned (.int .i64 (szS szBook xs l)) ∧ Grow w w' := by
  have R := Lib.hid (fun (w' : World) (hg : Grow w w') => h.below hg)
  have HS := Lib.hid hs
  clear h hs
  by_cases hc : l - xs.length < 0
  · have HR := Lib.hid (show szS szBook xs l = -1 by unfold szS; rw [if_pos hc])
    go_enter Try.func76, Try.ntmps76
    go_wp2
    go_ret
    exact ⟨ret_int HR.out.symm, Grow.refl _⟩
  · have HR := Lib.hid (show szS szBook xs l = szL szBook xs (l - xs.length) by unfold szS; rw [if_neg hc])
    go_enter Try.func76, Try.ntmps76
    go_wp2
    go_loopw [1, 5] (fun q i wr => ∃ (k : Nat) (m : Int), k ≤ xs.length ∧ i = .int .i64 k ∧ q = .int .i64 m ∧ 0 ≤ m ∧ m ≤ 2000000 ∧ Hid (Grow w wr) ∧ Hid (szL szBook xs (l - xs.length) = szL szBook (xs.drop k) m)) (fun _ i _ => xs.length - (intOf i).toNat)
    case atStart => exact ⟨0, l - xs.length, Nat.zero_le _, rfl, rfl, by omega, by omega, Grow.refl _, rfl⟩
    case round =>
      obtain ⟨k, m, hk, rfl, rfl, hm0, hm1, hgr, hi⟩ := hrel
      by_cases hlt : k < xs.length
      · obtain ⟨x, hx⟩ := ex_at hlt
        obtain ⟨bl, o, rfl, hbl, B1, d1, B2, d2, B3, d3, f0, f1, f2, f3, r1, r2, r3⟩ := (R.out _ hgr.out).at_ hx
        have hd := Lib.hid (drop_at hx)
        obtain ⟨⟨n1, n2, n3⟩, q1, q2, q3⟩ := HS.out x (List.mem_of_getElem? hx)
        have HR1 := Lib.hid r1
        have HR2 := Lib.hid r2
        have HR3 := Lib.hid r3
        have Q1 := Lib.hid q1
        have Q2 := Lib.hid q2
        have Q3 := Lib.hid q3
        clear hx r1 r2 r3 q1 q2 q3
        obtain ⟨hz1, hz2⟩ := szBook_le' x m hm0
        by_cases hz : szBook x m < 0
        all_goals go_wp2_with (go_at_call 15; refine (szStewBook_c x m hm0 hm1 _ HR1.out HR2.out HR3.out n1 n2 n3 Q1.out Q2.out Q3.out).mono ?_; rintro e w' ⟨rfl, hg⟩)
        · go_ret
          exact ⟨ret_int (by rw [HR.out, hi.out, hd.out, szL, if_pos hz]), hgr.out.trans hg⟩
        · go_roundw
          case rel => exact ⟨k + 1, szBook x m, by omega, by go_num, rfl, by omega, by omega, hgr.out.trans hg, by unfold Hid; rw [hi.out, hd.out, szL, if_neg (by omega)]⟩
          case measure => simp [intOf]; omega
      · obtain rfl : k = xs.length := by omega
        go_wp2
        go_ret
        exact ⟨ret_int (by rw [HR.out, hi.out, List.drop_length]; rfl), hgr.out⟩
set_option maxRecDepth 100000 in
set_option maxHeartbeats 2000000 in
theorem szStewWorld_c (v : Wld) (l : Int) {AP A1 A2 A3 : Option Addr} {cP c1 c2 c3 : Nat} (hl0 : 0 ≤ l) (hl1 : l ≤ 2000000) (w : World) (hp : BooksAt w AP v.past) (h1 : Rows 13 svcC w A1 v.book.svcs) (h2 : Rows 7 cpyC w A2 v.book.cps) (h3 : Rows 2 brtC w A3 v.book.brs)
    (lp : v.past.length ≤ 9223372036854775807) (sp : ∀ x ∈ v.past, SmallBook x) (sb : SmallBook v.book) :
    Calls Try.prog 20 #[.agg #[.slice AP v.past.length cP, .int .i64 v.book.now, .slice A1 v.book.svcs.length c1, .slice A2 v.book.cps.length c2, .slice A3 v.book.brs.length c3], .int .i64 l] w fun e w' => e = .returned (.int .i64 (szWld v l)) ∧ Grow w w' := by
  have RP := Lib.hid (fun (w' : World) (hg : Grow w w') => hp.below hg)
  have R1 := Lib.hid (fun (w' : World) (hg : Grow w w') => h1.below hg)
  have R2 := Lib.hid (fun (w' : World) (hg : Grow w w') => h2.below hg)
  have R3 := Lib.hid (fun (w' : World) (hg : Grow w w') => h3.below hg)
  obtain ⟨⟨n1, n2, n3⟩, q1, q2, q3⟩ := sb
  have SP := Lib.hid sp
  have Q1 := Lib.hid q1
  have Q2 := Lib.hid q2
  have Q3 := Lib.hid q3
  clear hp h1 h2 h3 sp q1 q2 q3
  obtain ⟨z1, z2, -⟩ := szS_le szBook_le' v.past l hl0
  go_enter Try.func20, Try.ntmps20
  go_wp2_with fail
  refine (szStewBookS_c v.past l hl0 hl1 lp SP.out _ (RP.out _ (by (repeat (first | with_reducible exact Grow.refl _ | with_reducible assumption | with_reducible refine Grow.drew ?_ | with_reducible refine Grow.alloc ?_ _ | (with_reducible refine Grow.set ?_ ?_ _; rotate_left; (first | (dsimp only; omega) | (simp <;> omega)))))))).mono ?_
  rintro e w1 ⟨rfl, hg1⟩
  have G1 := Lib.hid (Grow.trans (show Grow w _ by (repeat (first | with_reducible exact Grow.refl _ | with_reducible assumption | with_reducible refine Grow.drew ?_ | with_reducible refine Grow.alloc ?_ _ | (with_reducible refine Grow.set ?_ ?_ _; rotate_left; (first | (dsimp only; omega) | (simp <;> omega)))))) hg1)
  obtain ⟨x0, x1, x2, x3, x4⟩ := box5 (blk_grow (heap_alloc_new w _) hg1)
  clear hg1
  by_cases hz : szS szBook v.past l < 0
  · have HR := Lib.hid (show szWld v l = -1 by unfold szWld; rw [if_pos hz])
    go_wp2
    go_ret
    exact ⟨ret_int HR.out.symm, G1.out⟩
  · obtain ⟨y1, y2⟩ := szBook_le' v.book (szS szBook v.past l) (by omega)
    go_wp2_with fail
    refine (szStewBook_c v.book _ (by omega) (by omega) _ (R1.out _ G1.out) (R2.out _ G1.out) (R3.out _ G1.out) n1 n2 n3 Q1.out Q2.out Q3.out).mono ?_
    rintro e w2 ⟨rfl, hg2⟩
    by_cases hy : szBook v.book (szS szBook v.past l) < 0
    · have HR := Lib.hid (show szWld v l = -1 by unfold szWld; rw [if_neg (by omega), if_pos hy])
      go_wp2
      go_ret
      exact ⟨ret_int HR.out.symm, G1.out.trans hg2⟩
    · have HR := Lib.hid (show szWld v l = szBook v.book (szS szBook v.past l) by unfold szWld; rw [if_neg (by omega), if_neg (by omega)])
      go_wp2
      go_ret
      exact ⟨ret_int HR.out.symm, G1.out.trans hg2⟩

/-- A book as it lies in a row of books. -/
structure BookV where
  b : Book
  A1 : Option Addr
  A2 : Option Addr
  A3 : Option Addr
  c1 : Nat
  c2 : Nat
  c3 : Nat
def bvC (e : BookV) : List Value := [.int .i64 e.b.now, .slice e.A1 e.b.svcs.length e.c1, .slice e.A2 e.b.cps.length e.c2, .slice e.A3 e.b.brs.length e.c3]
def BVok (w : World) (e : BookV) : Prop := Rows 13 svcC w e.A1 e.b.svcs ∧ Rows 7 cpyC w e.A2 e.b.cps ∧ Rows 2 brtC w e.A3 e.b.brs
theorem bvC_len (e : BookV) : (bvC e).length = 4 := rfl
/-- One element is stored behind those that are there, whatever is to come. -/
theorem own_put2 {α : Type} {base T n g N cap : Nat} {cs : α → List Value} {xs : List α} {x : α} {rest : List Value} {w : World} (hn : ∀ x, (cs x).length = n) (hlt : xs.length < N)
    (h : w.ownsRow base T n (.slice (some ⟨g, 0, none⟩) N cap) N (xs.flatMap cs ++ rest)) :
    ∃ rest', (wsets g w (xs.length * n) (cs x)).ownsRow base T n (.slice (some ⟨g, 0, none⟩) N cap) N ((xs ++ [x]).flatMap cs ++ rest') ∧ w.grownBy (wsets g w (xs.length * n) (cs x)) (some g) := by
  have hP := flat_len hn xs
  have hr : n ≤ rest.length := by
    have h1 := h.1
    rw [List.length_append, hP] at h1
    have : (xs.length + 1) * n ≤ N * n := Nat.mul_le_mul_right _ hlt
    rw [Nat.add_mul] at this
    omega
  obtain ⟨h1, h2⟩ := own_sets (cs x) (xs.length * n) _ w h
  refine ⟨rest.drop n, ?_, h2⟩
  have := setsAt_mid (xs.flatMap cs) (rest.take n) (rest.drop n) (cs x) (by rw [hn, List.length_take, Nat.min_eq_left hr])
  rw [List.take_append_drop, hP] at this
  rw [this] at h1
  simpa [List.flatMap_append, List.append_assoc] using h1
theorem books_of {base T N : Nat} {g cap : Nat} {es : List BookV} {rest : List Value} {w : World} (hN : N = es.length) (h : w.ownsRow base T 4 (.slice (some ⟨g, 0, none⟩) N cap) N (es.flatMap bvC ++ rest)) (hok : ∀ e ∈ es, BVok w e) : BooksAt w (some ⟨g, 0, none⟩) (es.map (·.b)) := fun hne => by
  refine ⟨g, 0, rfl, fun i x hx => ?_⟩
  rw [List.getElem?_map] at hx
  obtain ⟨e, he, rfl⟩ := Option.map_eq_some_iff.1 hx
  obtain ⟨r1, r2, r3⟩ := hok e (List.mem_of_getElem? he)
  have hl : i < es.length := (List.getElem?_eq_some_iff.1 he).1
  have cell : ∀ j u, (bvC e)[j]? = some u → w.cell? ⟨g, 0 + i * 4 + j, none⟩ = some u := fun j u hu => by
    have hj : j < 4 := (List.getElem?_eq_some_iff.1 hu).1
    rw [Nat.zero_add, h.cellAt (i * 4 + j) (by omega)]
    have e1 : es = es.take i ++ e :: es.drop (i + 1) := by rw [← drop_at he, List.take_append_drop]
    have ht : ((es.take i).flatMap bvC).length = i * 4 := by rw [flat_len bvC_len, List.length_take, Nat.min_eq_left (by omega)]
    rw [e1, List.flatMap_append, List.flatMap_cons, List.append_assoc, List.getElem?_append_right (by rw [ht]; omega), ht, Nat.add_sub_cancel_left, List.append_assoc, List.getElem?_append_left (by rw [bvC_len]; exact hj)]
    exact hu
  exact ⟨e.A1, e.c1, e.A2, e.c2, e.A3, e.c3, cell 0 _ rfl, cell 1 _ rfl, cell 2 _ rfl, cell 3 _ rfl, r1, r2, r3⟩
theorem books_nil (w : World) (A : Option Addr) : BooksAt w A [] := fun h => absurd rfl h
theorem info_Book : (Try.prog.info? 34).map (fun i => (i.zero, i.size, i.bytes)) = some (some (.agg #[.int .i64 0, .slice none 0 0, .slice none 0 0, .slice none 0 0]), 4, 80) := by kernel_rfl
theorem BVok.below {w w' : World} {e : BookV} (h : BVok w e) (hb : Below w.heap.size w w') : BVok w' e := ⟨h.1.below hb, h.2.1.below hb, h.2.2.below hb⟩
theorem BVok.keep {w w' : World} {e : BookV} {g : Nat} (h : BVok w e) (hb : w.grownBy w' (some g)) (h1 : ∀ p, e.A1 = some p → p.block ≠ g) (h2 : ∀ p, e.A2 = some p → p.block ≠ g) (h3 : ∀ p, e.A3 = some p → p.block ≠ g) : BVok w' e := by
  have k : ∀ {α : Type} {n : Nat} {cs : α → List Value} {A : Option Addr} {xs : List α}, Rows n cs w A xs → (∀ p, A = some p → p.block ≠ g) → Rows n cs w' A xs := fun hr hA hne => by
    obtain ⟨bl, o, e, hc⟩ := hr hne
    exact ⟨bl, o, e, fun i x hx j u hu => World.grownBy.cell hb (hc i x hx j u hu) (fun e' => hA _ e (Option.some.inj e'))⟩
  exact ⟨k h.1 h1, k h.2.1 h2, k h.2.2 h3⟩
/-- Its rows lie behind block g. -/
def BVoff (g : Nat) (e : BookV) : Prop := (∀ p, e.A1 = some p → g < p.block) ∧ (∀ p, e.A2 = some p → g < p.block) ∧ (∀ p, e.A3 = some p → g < p.block)
/-- Two worlds whose blocks from base on are the same, as far as w goes. -/
def SameFrom (base : Nat) (w w' : World) : Prop := ∀ k, base ≤ k → k < w.heap.size → w'.heap[k]? = w.heap[k]?
theorem SameFrom.of_grow {base : Nat} {w w' : World} (h : Grow w w') : SameFrom base w w' := fun k _ hk => h.block k hk
theorem SameFrom.refl (base : Nat) (w : World) : SameFrom base w w := fun _ _ _ => rfl
theorem SameFrom.trans {base : Nat} {a b c : World} (h : SameFrom base a b) (k : SameFrom base b c) (hs : a.heap.size ≤ b.heap.size) : SameFrom base a c := fun i hi hl => (k i hi (by omega)).trans (h i hi hl)
theorem SameFrom.set {base : Nat} {w : World} {p : Addr} (hp : p.block < base) (u : Value) : SameFrom base w (w.setCell p u) := fun k hk _ => heap_setCell_other w p k u (by omega)
theorem SameFrom.mono {base base' : Nat} {w w' : World} (h : SameFrom base w w') (hb : base ≤ base') : SameFrom base' w w' := fun k hk hl => h k (by omega) hl
theorem Rows.same {α : Type} {n base : Nat} {cs : α → List Value} {w w' : World} {A : Option Addr} {xs : List α} (h : Rows n cs w A xs) (hs : SameFrom base w w') (hA : ∀ p, A = some p → base ≤ p.block) : Rows n cs w' A xs := fun hne => by
  obtain ⟨bl, o, e, hc⟩ := h hne
  refine ⟨bl, o, e, fun i x hx j u hu => ?_⟩
  have h1 := hc i x hx j u hu
  exact (World.cell?_of_block (hs bl (hA _ e) (World.block_lt_of_cell? w _ h1))).trans h1
theorem own_same {base T n N : Nat} {v : Value} {L : List Value} {w w' : World} (h : w.ownsRow base T n v N L) (hs : SameFrom base w w') : w'.ownsRow base T n v N L := by
  refine ⟨h.1, ?_⟩
  rcases h.2 with h0 | ⟨g, cap, cur, e, hb, hg, r⟩
  · exact .inl h0
  · exact .inr ⟨g, cap, cur, e, hb, (hs g hb (blk_lt hg)).trans hg, r⟩
theorem BVok.same {base : Nat} {w w' : World} {e : BookV} (h : BVok w e) (hs : SameFrom base w w') (ho : BVoff base e) : BVok w' e :=
  ⟨h.1.same hs fun p hp => by have := ho.1 p hp; omega, h.2.1.same hs fun p hp => by have := ho.2.1 p hp; omega, h.2.2.same hs fun p hp => by have := ho.2.2 p hp; omega⟩
end Go.Proofs.Ytnmknkdbeccmhaa
namespace Go.Proofs.Ytnmknkdbeccmhaa
open Go.RowKit
set_option linter.unusedSimpArgs false
set_option linter.unusedVariables false

theorem OwnBook.rows2 {base : Nat} {w : World} {v : Value} {b : Book} (h : OwnBook base w v b) : ∃ A1 c1 A2 c2 A3 c3, v = .agg #[.int .i64 b.now, .slice A1 b.svcs.length c1, .slice A2 b.cps.length c2, .slice A3 b.brs.length c3] ∧ (Rows 13 svcC w A1 b.svcs ∧ Rows 7 cpyC w A2 b.cps ∧ Rows 2 brtC w A3 b.brs) ∧
    (∀ p, A1 = some p → base ≤ p.block) ∧ (∀ p, A2 = some p → base ≤ p.block) ∧ (∀ p, A3 = some p → base ≤ p.block) := by
  obtain ⟨v1, v2, v3, rfl, h1, h2, h3⟩ := h
  obtain ⟨A1, c1, rfl, -, r1⟩ := own_rows svcC_len rfl h1
  obtain ⟨A2, c2, rfl, -, r2⟩ := own_rows cpyC_len rfl h2
  obtain ⟨A3, c3, rfl, -, r3⟩ := own_rows brtC_len rfl h3
  exact ⟨A1, c1, A2, c2, A3, c3, rfl, ⟨r1, r2, r3⟩, fun p e => by subst e; exact (h1.lt _ rfl).1, fun p e => by subst e; exact (h2.lt _ rfl).1, fun p e => by subst e; exact (h3.lt _ rfl).1⟩
theorem SameFrom.setR {base : Nat} {w w' : World} (h : SameFrom base w w') {p : Addr} (hp : p.block < base) (u : Value) : SameFrom base w (w'.setCell p u) := fun k hk hl => (heap_setCell_other w' p k u (by omega)).trans (h k hk hl)
def MadeBooks (xs : List Book) (w : World) (e : Ending) (w' : World) : Prop := ∃ A c, e = .returned (.slice A xs.length c) ∧ (∀ w'', SameFrom w.heap.size w' w'' → BooksAt w'' A xs) ∧ Grow w w'
set_option maxRecDepth 100000 in
set_option maxHeartbeats 4000000 in
theorem toStewBookS_c (xs : List Book) {A : Option Addr} {c : Nat} (hn : xs.length ≤ 2000000) (hs : ∀ x ∈ xs, Sized x) (w : World) (h : BooksAt w A xs) :
    Calls Try.prog 77 #[.slice A xs.length c] w (MadeBooks xs w) := by
  obtain ⟨i0, hi, hz0, hz1, hz2⟩ := info_parts info_Book
  have R := Lib.hid (fun (w' : World) (hg : Grow w w') => h.below hg)
  have HS := Lib.hid hs
  clear h hs
  go_enter Try.func77, Try.ntmps77
  go_wp2_with (refine wpList_make_full _ rfl _ _ _ rfl w.heap.size 34 i0 _ 4 Try.underlying43 hi hz0 hz1 .i64 .i64 xs.length xs.length xs.length rfl rfl rfl rfl (by rw [hz2]; omega) (by unfold maxLen; omega) (Nat.le_refl _) ?_; intro w1 hown hgr; have HO := Lib.hid hown; have HG := Lib.hid hgr; clear hown hgr)
  go_loopw [4] (fun i wr => ∃ (es : List BookV) (rest : List Value), es.length ≤ xs.length ∧ i = .int .i64 es.length ∧ Hid (es.map (·.b) = xs.take es.length) ∧ Hid (Grow w wr) ∧ Hid (wr.ownsRow w.heap.size 34 4 (.slice (some ⟨w.heap.size, 0, none⟩) xs.length xs.length) xs.length (es.flatMap bvC ++ rest)) ∧ Hid (∀ e ∈ es, BVok wr e ∧ BVoff w.heap.size e) ∧ Hid (w.heap.size < wr.heap.size)) (fun i _ => xs.length - (intOf i).toNat)
  case atStart =>
    refine ⟨[], _, Nat.zero_le _, rfl, by unfold Hid; simp, (Grow.refl _).grown HG.out (by simp), HO.out, by unfold Hid; simp, ?_⟩
    exact (HO.out.lt _ rfl).2
  case round =>
    obtain ⟨es, rest, hk, rfl, hm, hgr, ho, hok, hgl⟩ := hrel
    obtain ⟨k, hkk⟩ : ∃ k, es.length = k := ⟨_, rfl⟩
    have HK := Lib.hid hkk
    rw [hkk]
    rw [hkk] at hk
    clear hkk
    by_cases hlt : k < xs.length
    · obtain ⟨x, hx⟩ := ex_at hlt
      obtain ⟨bl, o, rfl, hbl, B1, d1, B2, d2, B3, d3, f0, f1, f2, f3, r1, r2, r3⟩ := (R.out _ hgr.out).at_ hx
      obtain ⟨s1, s2, s3⟩ := HS.out x (List.mem_of_getElem? hx)
      have HX := Lib.hid hx
      have HR1 := Lib.hid r1
      have HR2 := Lib.hid r2
      have HR3 := Lib.hid r3
      clear hx r1 r2 r3
      go_wp2_with fail
      refine (toStewBook_c x wr HR1.out HR2.out HR3.out s1 s2 s3).mono ?_
      rintro e w2 ⟨v, rfl, hob, hg2⟩
      obtain ⟨E1, g1, E2, g2, E3, g3, rfl, hr, q1, q2, q3⟩ := hob.rows2
      have HG2 := Lib.hid hg2
      have HO2 := Lib.hid (own_grow ho.out hg2)
      obtain ⟨V, hV⟩ := own_V HO2.out
      have e0 : w2.cell? ⟨w.heap.size, k * 4, none⟩ = some (V (k * 4 + 0)) := hV _ (by omega)
      have e1 : w2.cell? ⟨w.heap.size, k * 4 + 1, none⟩ = some (V (k * 4 + 1)) := hV _ (by omega)
      have e2 : w2.cell? ⟨w.heap.size, k * 4 + 2, none⟩ = some (V (k * 4 + 2)) := hV _ (by omega)
      have e3 : w2.cell? ⟨w.heap.size, k * 4 + 3, none⟩ = some (V (k * 4 + 3)) := hV _ (by omega)
      have hf : ∀ j, w2.frozen? ⟨w.heap.size, j, none⟩ = false := fun j => HO2.out.frozenAt j
      have HR := Lib.hid hr
      have HOFF : Hid (BVoff w.heap.size ⟨x, E1, E2, E3, g1, g2, g3⟩) := by
        have hl := hgl.out
        refine ⟨fun p hp => ?_, fun p hp => ?_, fun p hp => ?_⟩
        · have := q1 p hp; omega
        · have := q2 p hp; omega
        · have := q3 p hp; omega
      clear hg2 hV hob hr q1 q2 q3 f0 f1 f2 f3
      obtain ⟨rest', h1, h2⟩ := own_put2 (x := ⟨x, E1, E2, E3, g1, g2, g3⟩) bvC_len (by rw [HK.out]; exact hlt) HO2.out
      rw [HK.out] at h1 h2
      have H1 := Lib.hid h1
      have H2 := Lib.hid h2
      clear h1 h2
      go_wp2_with fail
      go_roundw
      case rel =>
        refine ⟨es ++ [(⟨x, E1, E2, E3, g1, g2, g3⟩ : BookV)], rest', by simp; rw [HK.out]; omega, by simp [HK.out], ?_, (hgr.out.trans HG2.out).grown H2.out (fun q hq => by simp at hq; omega), H1.out, ?_, ?_⟩
        · unfold Hid
          rw [List.map_append, hm.out, List.length_append, HK.out]
          exact (take_succ_at HX.out).symm
        · rintro e he
          rcases List.mem_append.1 he with hm' | hm'
          · obtain ⟨h1, h2⟩ := hok.out e hm'
            exact ⟨(h1.below HG2.out).keep H2.out (fun p hp => by have := h2.1 p hp; omega) (fun p hp => by have := h2.2.1 p hp; omega) (fun p hp => by have := h2.2.2 p hp; omega), h2⟩
          · obtain rfl : e = _ := List.mem_singleton.1 hm'
            exact ⟨BVok.keep HR.out H2.out (fun p hp => by have := HOFF.out.1 p hp; omega) (fun p hp => by have := HOFF.out.2.1 p hp; omega) (fun p hp => by have := HOFF.out.2.2 p hp; omega), HOFF.out⟩
        · have h1 := hgl.out
          have h2 := HG2.out.size
          have h3 := H2.out.size
          exact Nat.lt_of_lt_of_le h1 (Nat.le_trans h2 h3)
      case measure => simp [intOf]; omega
    · obtain rfl : k = xs.length := by omega
      have HB := Lib.hid (fun (w'' : World) (hs : SameFrom w.heap.size wr w'') => books_of HK.out.symm (own_same ho.out hs) fun e he => (hok.out e he).1.same hs (hok.out e he).2)
      go_wp2
      go_ret
      refine ⟨_, _, rfl, fun w'' hs => ?_, hgr.out⟩
      have := HB.out w'' hs
      rw [hm.out, HK.out, List.take_length] at this
      exact this
/-- A value that reads as the world v, its blocks from base on. -/
def OwnWld (base : Nat) (w : World) (u : Value) (v : Wld) : Prop := ∃ AP cP A1 c1 A2 c2 A3 c3, u = .agg #[.slice AP v.past.length cP, .int .i64 v.book.now, .slice A1 v.book.svcs.length c1, .slice A2 v.book.cps.length c2, .slice A3 v.book.brs.length c3] ∧
  (∀ w', SameFrom base w w' → BooksAt w' AP v.past ∧ Rows 13 svcC w' A1 v.book.svcs ∧ Rows 7 cpyC w' A2 v.book.cps ∧ Rows 2 brtC w' A3 v.book.brs)
def MadeWld (v : Wld) (w : World) (e : Ending) (w' : World) : Prop := ∃ u, e = .returned u ∧ OwnWld w.heap.size w' u v ∧ Grow w w'
set_option maxRecDepth 100000 in
set_option maxHeartbeats 4000000 in
theorem toStewWorld_c (v : Wld) {AP A1 A2 A3 : Option Addr} {cP c1 c2 c3 : Nat} (w : World) (hp : BooksAt w AP v.past) (h1 : Rows 13 svcC w A1 v.book.svcs) (h2 : Rows 7 cpyC w A2 v.book.cps) (h3 : Rows 2 brtC w A3 v.book.brs)
    (lp : v.past.length ≤ 2000000) (sp : ∀ x ∈ v.past, Sized x) (sb : Sized v.book) :
    Calls Try.prog 22 #[.agg #[.slice AP v.past.length cP, .int .i64 v.book.now, .slice A1 v.book.svcs.length c1, .slice A2 v.book.cps.length c2, .slice A3 v.book.brs.length c3]] w (MadeWld v w) := by
  have RP := Lib.hid (fun (w' : World) (hg : Grow w w') => hp.below hg)
  have R1 := Lib.hid (fun (w' : World) (hg : Grow w w') => h1.below hg)
  have R2 := Lib.hid (fun (w' : World) (hg : Grow w w') => h2.below hg)
  have R3 := Lib.hid (fun (w' : World) (hg : Grow w w') => h3.below hg)
  have SP := Lib.hid sp
  obtain ⟨l1, l2, l3⟩ := sb
  clear hp h1 h2 h3 sp
  go_enter Try.func22, Try.ntmps22
  go_wp2_with fail
  refine (toStewBookS_c v.past lp SP.out _ (RP.out _ (by (repeat (first | with_reducible exact Grow.refl _ | with_reducible assumption | with_reducible refine Grow.drew ?_ | with_reducible refine Grow.alloc ?_ _ | (with_reducible refine Grow.set ?_ ?_ _; rotate_left; (first | (dsimp only; omega) | (simp <;> omega)))))))).mono ?_
  rintro e w1 ⟨BP, dP, rfl, hob, hg1⟩
  obtain ⟨a1, a2, a3⟩ := heap_alloc3 w _ _ _
  replace a1 := Lib.hid (blk_grow a1 hg1)
  replace a2 := Lib.hid (blk_grow a2 hg1)
  replace a3 := Lib.hid (blk_grow a3 hg1)
  have G1 := Lib.hid (Grow.trans (show Grow w _ by (repeat (first | with_reducible exact Grow.refl _ | with_reducible assumption | with_reducible refine Grow.drew ?_ | with_reducible refine Grow.alloc ?_ _ | (with_reducible refine Grow.set ?_ ?_ _; rotate_left; (first | (dsimp only; omega) | (simp <;> omega)))))) hg1)
  have OB := Lib.hid (show ∀ w'', SameFrom (w.heap.size + 3) w1 w'' → BooksAt w'' BP v.past from fun w'' hs => hob w'' (hs.mono (by simp)))
  clear hob hg1
  have q0 := cell_of_row w1 _ 0 _ _ _ a3.out
  have q1 := cell_of_row w1 _ 1 _ _ _ a3.out
  have q2 := cell_of_row w1 _ 2 _ _ _ a3.out
  have q3 := cell_of_row w1 _ 3 _ _ _ a3.out
  have q4 := cell_of_row w1 _ 4 _ _ _ a3.out
  have qf0 := frozen_of_row w1 _ 0 _ _ a3.out
  have qf1 := frozen_of_row w1 _ 1 _ _ a3.out
  have qf2 := frozen_of_row w1 _ 2 _ _ a3.out
  have qf3 := frozen_of_row w1 _ 3 _ _ a3.out
  have qf4 := frozen_of_row w1 _ 4 _ _ a3.out
  have x0 := cell_of_row w1 _ 0 _ _ _ a1.out
  have x1 := cell_of_row w1 _ 1 _ _ _ a1.out
  have x2 := cell_of_row w1 _ 2 _ _ _ a1.out
  have x3 := cell_of_row w1 _ 3 _ _ _ a1.out
  have x4 := cell_of_row w1 _ 4 _ _ _ a1.out
  go_wp2_with fail
  have GS := Lib.hid (show Grow w (w1.setCell ⟨w.heap.size + 1 + 1, 0, none⟩ (.slice BP v.past.length dP)) from G1.out.set (by simp; omega) _)
  refine (toStewBook_c v.book _ (R1.out _ GS.out) (R2.out _ GS.out) (R3.out _ GS.out) l1 l2 l3).mono ?_
  rintro e w2 ⟨u, rfl, ho, hg2⟩
  obtain ⟨E1, g1, E2, g2, E3, g3, rfl, hr, k1, k2, k3⟩ := ho.rows2
  have s1 := blk_lt a3.out
  have b2 := blk_grow (blk_far a2.out (p := ⟨w.heap.size + 1 + 1, 0, none⟩) (by simp) (.slice BP v.past.length dP)) hg2
  have b3 := blk_grow (blk_set a3.out 0 (.slice BP v.past.length dP)) hg2
  have G2 := Lib.hid (GS.out.trans hg2)
  have S2 := Lib.hid (show SameFrom (w.heap.size + 3) w1 w2 from ((SameFrom.refl _ w1).setR (p := ⟨w.heap.size + 1 + 1, 0, none⟩) (by simp) _).trans (SameFrom.of_grow hg2) (by simp))
  have HR := Lib.hid hr
  have z1 : w1.heap.size ≤ w2.heap.size := by have := hg2.size; simpa using this
  have KK := Lib.hid (show (∀ p, E1 = some p → w.heap.size + 3 ≤ p.block) ∧ (∀ p, E2 = some p → w.heap.size + 3 ≤ p.block) ∧ (∀ p, E3 = some p → w.heap.size + 3 ≤ p.block) by
    refine ⟨fun p hp => ?_, fun p hp => ?_, fun p hp => ?_⟩
    · have := k1 p hp; simp at this; omega
    · have := k2 p hp; simp at this; omega
    · have := k3 p hp; simp at this; omega)
  clear ho hg2 hr k1 k2 k3 q0 q1 q2 q3 q4 qf0 qf1 qf2 qf3 qf4 x0 x1 x2 x3 x4 a1 a2 a3
  have q0 := cell_of_row w2 _ 0 _ _ _ b3
  have q1 := cell_of_row w2 _ 1 _ _ _ b3
  have q2 := cell_of_row w2 _ 2 _ _ _ b3
  have q3 := cell_of_row w2 _ 3 _ _ _ b3
  have q4 := cell_of_row w2 _ 4 _ _ _ b3
  have qf0 := frozen_of_row w2 _ 0 _ _ b3
  have qf1 := frozen_of_row w2 _ 1 _ _ b3
  have qf2 := frozen_of_row w2 _ 2 _ _ b3
  have qf3 := frozen_of_row w2 _ 3 _ _ b3
  have qf4 := frozen_of_row w2 _ 4 _ _ b3
  have r0 := cell_of_row w2 _ 0 _ _ _ b2
  have r1 := cell_of_row w2 _ 1 _ _ _ b2
  have r2 := cell_of_row w2 _ 2 _ _ _ b2
  have r3 := cell_of_row w2 _ 3 _ _ _ b2
  have r4 := cell_of_row w2 _ 4 _ _ _ b2
  have rf0 := frozen_of_row w2 _ 0 _ _ b2
  have rf1 := frozen_of_row w2 _ 1 _ _ b2
  have rf2 := frozen_of_row w2 _ 2 _ _ b2
  have rf3 := frozen_of_row w2 _ 3 _ _ b2
  have rf4 := frozen_of_row w2 _ 4 _ _ b2
  clear b2 b3
  go_wp2
  refine bodyPost_ret (v := .agg #[.slice BP v.past.length dP, .int .i64 v.book.now, .slice E1 v.book.svcs.length g1, .slice E2 v.book.cps.length g2, .slice E3 v.book.brs.length g3]) (by simp [results, Try.results22, go_sem, r0, r1, r2, r3, r4, q0, q1, q2, q3, q4]) rfl ⟨_, rfl, ⟨_, _, _, _, _, _, _, _, rfl, fun w'' hs => ?_⟩, ?_⟩
  · have SF := (hs.mono (show w.heap.size ≤ w.heap.size + 3 by omega))
    have S3 : SameFrom (w.heap.size + 3) w2 w'' := by
      refine SameFrom.trans ?_ SF (by simp)
      repeat (refine SameFrom.setR ?_ (by simp) _)
      exact SameFrom.refl _ _
    exact ⟨OB.out w'' (S2.out.trans S3 z1), HR.out.1.same S3 KK.out.1, HR.out.2.1.same S3 KK.out.2.1, HR.out.2.2.same S3 KK.out.2.2⟩
  · repeat (refine Grow.set ?_ (by simp <;> omega) _)
    exact G2.out
set_option maxRecDepth 100000 in
set_option maxHeartbeats 4000000 in
theorem eqStewBookS_c (xs : List Book) {A B : Option Addr} {c c' : Nat} (hn : xs.length ≤ 2000000) (hs : ∀ x ∈ xs, Sized x) (w : World) (h : BooksAt w A xs) (h' : BooksAt w B xs) :
    Calls Try.prog 78 #[.slice A xs.length c, .slice B xs.length c'] w fun e w' => e = .returned (.bool true) ∧ Grow w w' := by
  have R := Lib.hid h
  have R' := Lib.hid h'
  have HS := Lib.hid hs
  clear h h' hs
  go_enter Try.func78, Try.ntmps78
  go_wp2
  refine rebase ?_
  intro W hW
  obtain rfl := hW.out
  go_loopw [5] (fun i wr => ∃ (k : Nat) (y : Ext), k ≤ xs.length ∧ i = .int .i64 k ∧ wr = wplus W y) (fun i _ => xs.length - (intOf i).toNat)
  case atStart => exact ⟨0, _, Nat.zero_le _, rfl, rfl⟩
  case round =>
    obtain ⟨k, y, hk, rfl, rfl⟩ := hrel
    by_cases hlt : k < xs.length
    · obtain ⟨x, hx⟩ := ex_at hlt
      obtain ⟨b1, o1, rfl, hb1, A1, a1, A2, a2, A3, a3, f0, f1, f2, f3, r1, r2, r3⟩ := R.out.at_ hx
      obtain ⟨b2, o2, rfl, hb2, D1, e1, D2, e2, D3, e3, g0, g1, g2, g3, s1, s2, s3⟩ := R'.out.at_ hx
      obtain ⟨l1, l2, l3⟩ := HS.out x (List.mem_of_getElem? hx)
      have HR := Lib.hid (And.intro r1 (And.intro r2 r3))
      have HR' := Lib.hid (And.intro s1 (And.intro s2 s3))
      replace f0 := cell_p' f0
      replace f1 := cell_p' f1
      replace f2 := cell_p' f2
      replace f3 := cell_p' f3
      replace g0 := cell_p' g0
      replace g1 := cell_p' g1
      replace g2 := cell_p' g2
      replace g3 := cell_p' g3
      clear hx r1 r2 r3 s1 s2 s3
      have t2 : (0 : Int) ≤ (k : Int) := Int.natCast_nonneg _
      have t3 : (k : Int) < (xs.length : Int) := by omega
      go_wp2
      refine region_quiet ⟨_, rfl⟩ (by kernel_rfl) (by kernel_rfl) ?_
      repeat (go_big_quiet_step ((go_at_call 19; exact quiet_grow (eqStewBook_c x _ (HR.out.1.plus _) (HR.out.2.1.plus _) (HR.out.2.2.plus _) (HR'.out.1.plus _) (HR'.out.2.1.plus _) (HR'.out.2.2.plus _) l1 l2 l3))))
      refine wpQuiet_nil ?_
      rintro w2 ⟨y2, rfl⟩
      go_wp2
      go_roundw
      case rel => exact ⟨k + 1, _, by omega, by go_num, rfl⟩
      case measure => simp [intOf]; omega
    · obtain rfl : k = xs.length := by omega
      go_wp2
      go_ret
      exact ⟨rfl, Grow.wplus _ _⟩
set_option maxRecDepth 100000 in
set_option maxHeartbeats 4000000 in
theorem eqStewWorld_c (v : Wld) {AP A1 A2 A3 BP B1 B2 B3 : Option Addr} {cP c1 c2 c3 dP d1 d2 d3 : Nat} (w : World) (hp : BooksAt w AP v.past) (h1 : Rows 13 svcC w A1 v.book.svcs) (h2 : Rows 7 cpyC w A2 v.book.cps) (h3 : Rows 2 brtC w A3 v.book.brs)
    (kp : BooksAt w BP v.past) (k1 : Rows 13 svcC w B1 v.book.svcs) (k2 : Rows 7 cpyC w B2 v.book.cps) (k3 : Rows 2 brtC w B3 v.book.brs) (lp : v.past.length ≤ 2000000) (sp : ∀ x ∈ v.past, Sized x) (sb : Sized v.book) :
    Calls Try.prog 24 #[.agg #[.slice AP v.past.length cP, .int .i64 v.book.now, .slice A1 v.book.svcs.length c1, .slice A2 v.book.cps.length c2, .slice A3 v.book.brs.length c3], .agg #[.slice BP v.past.length dP, .int .i64 v.book.now, .slice B1 v.book.svcs.length d1, .slice B2 v.book.cps.length d2, .slice B3 v.book.brs.length d3]] w fun e w' => e = .returned (.bool true) ∧ Grow w w' := by
  have RP := Lib.hid (fun (w' : World) (hg : Grow w w') => hp.below hg)
  have R1 := Lib.hid (fun (w' : World) (hg : Grow w w') => h1.below hg)
  have R2 := Lib.hid (fun (w' : World) (hg : Grow w w') => h2.below hg)
  have R3 := Lib.hid (fun (w' : World) (hg : Grow w w') => h3.below hg)
  have QP := Lib.hid (fun (w' : World) (hg : Grow w w') => kp.below hg)
  have Q1 := Lib.hid (fun (w' : World) (hg : Grow w w') => k1.below hg)
  have Q2 := Lib.hid (fun (w' : World) (hg : Grow w w') => k2.below hg)
  have Q3 := Lib.hid (fun (w' : World) (hg : Grow w w') => k3.below hg)
  have SP := Lib.hid sp
  obtain ⟨l1, l2, l3⟩ := sb
  clear hp h1 h2 h3 kp k1 k2 k3 sp
  go_enter Try.func24, Try.ntmps24
  go_wp2_with fail
  refine (eqStewBookS_c v.past lp SP.out _ (RP.out _ (by (repeat (first | with_reducible exact Grow.refl _ | with_reducible assumption | with_reducible refine Grow.drew ?_ | with_reducible refine Grow.alloc ?_ _ | (with_reducible refine Grow.set ?_ ?_ _; rotate_left; (first | (dsimp only; omega) | (simp <;> omega))))))) (QP.out _ (by (repeat (first | with_reducible exact Grow.refl _ | with_reducible assumption | with_reducible refine Grow.drew ?_ | with_reducible refine Grow.alloc ?_ _ | (with_reducible refine Grow.set ?_ ?_ _; rotate_left; (first | (dsimp only; omega) | (simp <;> omega)))))))).mono ?_
  rintro e w1 ⟨rfl, hg1⟩
  have G1 := Lib.hid (Grow.trans (show Grow w _ by (repeat (first | with_reducible exact Grow.refl _ | with_reducible assumption | with_reducible refine Grow.drew ?_ | with_reducible refine Grow.alloc ?_ _ | (with_reducible refine Grow.set ?_ ?_ _; rotate_left; (first | (dsimp only; omega) | (simp <;> omega)))))) hg1)
  obtain ⟨x0, x1, x2, x3, x4⟩ := box5 (blk_grow (heap_alloc2 w _ _) hg1)
  obtain ⟨y0, y1, y2, y3, y4⟩ := box5 (blk_grow (heap_alloc2_new w _ _) hg1)
  clear hg1
  go_wp2_with fail
  refine (eqStewBook_c v.book _ (R1.out _ G1.out) (R2.out _ G1.out) (R3.out _ G1.out) (Q1.out _ G1.out) (Q2.out _ G1.out) (Q3.out _ G1.out) l1 l2 l3).mono ?_
  rintro e w2 ⟨rfl, hg2⟩
  go_wp2
  go_ret
  exact ⟨rfl, G1.out.trans hg2⟩
end Go.Proofs.Ytnmknkdbeccmhaa
namespace Go.Proofs.Ytnmknkdbeccmhaa
open Go.RowKit
set_option linter.unusedSimpArgs false
set_option linter.unusedVariables false

theorem cell_p {w : World} {g i : Nat} {u : Value} (h : w.cell? ⟨g, i, none⟩ = some u) (y : Ext) : (wplus w y).cell? ⟨g, i, none⟩ = some u := ((Grow.wplus w y).cell (World.block_lt_of_cell? w _ h)).trans h
theorem count_v (b : Book) {g sb so : Nat} {A1 A2 A3 : Option Addr} {c1 c2 c3 : Nat} (nm : ByteArray) (im : Int) (w : World) (ct : Cnt) (hb : BookBlk w g b A1 A2 A3 c1 c2 c3) (h : Rows 7 cpyC w A2 b.cps) (hl : b.cps.length ≤ 2000000)
    (s0 : w.cell? ⟨sb, so, none⟩ = some (.string nm)) (s3 : w.cell? ⟨sb, so + 3, none⟩ = some (.int .i64 im)) (hct : cntOf b.cps nm im = ct) :
    Calls Try.prog 80 #[.pointer (some ⟨g, 0, none⟩), .pointer (some ⟨sb, so, none⟩)] w fun e w' => e = .returned (.agg #[.int .i64 ct.live, .int .i64 ct.serving, .int .i64 ct.old, .int .i64 ct.failed, .int .i64 ct.ending]) ∧ Grow w w' := by
  subst hct; exact count_c b nm im w hb h hl s0 s3
set_option maxRecDepth 100000 in
set_option maxHeartbeats 2000000 in
theorem mayEnd_c (b : Book) (s : Svc) (c : Cpy) {g bs os bc oc : Nat} {A1 A2 A3 : Option Addr} {c1 c2 c3 : Nat} (w : World) (hb : BookBlk w g b A1 A2 A3 c1 c2 c3) (h : Rows 7 cpyC w A2 b.cps) (hl : b.cps.length ≤ 2000000) (hn : SvcNum s 1000000)
    (s0 : w.cell? ⟨bs, os, none⟩ = some (.string s.name)) (s2 : w.cell? ⟨bs, os + 2, none⟩ = some (.bool s.gone)) (s3 : w.cell? ⟨bs, os + 3, none⟩ = some (.int .i64 s.image)) (s4 : w.cell? ⟨bs, os + 4, none⟩ = some (.int .i64 s.want)) (s5 : w.cell? ⟨bs, os + 5, none⟩ = some (.int .i64 s.down))
    (k4 : w.cell? ⟨bc, oc + 4, none⟩ = some (.int .i64 c.state)) (k5 : w.cell? ⟨bc, oc + 5, none⟩ = some (.bool c.ending)) :
    Calls Try.prog 83 #[.pointer (some ⟨g, 0, none⟩), .pointer (some ⟨bs, os, none⟩), .pointer (some ⟨bc, oc, none⟩)] w fun e w' => e = .returned (.bool (gate b.cps s c)) ∧ Grow w w' := by
  rcases he : c.ending
  · rw [he] at k5
    obtain ⟨ct, hct⟩ : ∃ ct, cntOf b.cps s.name s.image = ct := ⟨_, rfl⟩
    have cb := cntOf_bd s.name s.image hl
    rw [hct] at cb
    unfold SvcNum at hn
    have HH := Lib.hid h
    have HB := Lib.hid hb
    have HCT := Lib.hid hct
    have S0 := Lib.hid s0
    have S3 := Lib.hid s3
    have u1 : IntKind.i64.wrap (ct.serving - 1) = ct.serving - 1 := IntWalk.i64_in _ (by omega)
    have u2 : IntKind.i64.wrap (s.want - s.down) = s.want - s.down := IntWalk.i64_in _ (by omega)
    have p2 := cell_p s2
    have p4 := cell_p s4
    have p5 := cell_p s5
    have r4 := cell_p k4
    have kf := fun w' => run_cnt1 (.int .i64 ct.live) (.int .i64 ct.serving) (.int .i64 ct.old) (.int .i64 ct.failed) (.int .i64 ct.ending) w'
    clear h hb s0 s3 cb hct s2 s4 s5 k4
    rcases h3 : decide (c.state = 3)
    · have d3 : (c.state != 3) = true := by simpa using h3
      have HF := Lib.hid (show gate b.cps s c = true by simp [gate, he, h3])
      go_enter Try.func83, Try.ntmps83
      go_wp2
      refine at_plus ?_
      refine region_quiet ⟨_, rfl⟩ (by kernel_rfl) (by kernel_rfl) ?_
      repeat (first | go_big_quiet_step (fail) | quiet_step (fail))
      refine wpQuiet_nil ?_
      rintro w2 ⟨y, rfl⟩
      go_wp2
      go_ret
      exact ⟨ret_bool HF.out.symm, Grow.wplus _ _⟩
    · have d3 : (c.state != 3) = false := by simpa using h3
      rcases h4 : s.gone
      · rw [h4] at p2
        have HF := Lib.hid (show gate b.cps s c = decide (s.want - s.down ≤ ct.serving - 1) by rw [← HCT.out]; simp [gate, he, h3, h4])
        go_enter Try.func83, Try.ntmps83
        go_wp2
        refine at_plus ?_
        refine region_quiet ⟨_, rfl⟩ (by kernel_rfl) (by kernel_rfl) ?_
        repeat (first | go_big_quiet_step ((go_at_call 80; exact quiet_grow (count_v b s.name s.image _ ct (HB.out.grow (Grow.wplus _ _)) (HH.out.plus _) hl (cell_p S0.out _) (cell_p S3.out _) HCT.out))) | quiet_step (fail))
        refine wpQuiet_nil ?_
        rintro w2 ⟨y, rfl⟩
        go_wp2
        go_ret
        exact ⟨ret_bool HF.out.symm, Grow.wplus _ _⟩
      · rw [h4] at p2
        have HF := Lib.hid (show gate b.cps s c = true by simp [gate, he, h3, h4])
        go_enter Try.func83, Try.ntmps83
        go_wp2
        refine at_plus ?_
        refine region_quiet ⟨_, rfl⟩ (by kernel_rfl) (by kernel_rfl) ?_
        repeat (first | go_big_quiet_step (fail) | quiet_step (fail))
        refine wpQuiet_nil ?_
        rintro w2 ⟨y, rfl⟩
        go_wp2
        go_ret
        exact ⟨ret_bool HF.out.symm, Grow.wplus _ _⟩
  · rw [he] at k5
    have HF := Lib.hid (show gate b.cps s c = false by simp [gate, he])
    clear hb h s0 s2 s3 s4 s5 k4
    go_enter Try.func83, Try.ntmps83
    go_wp2
    go_ret
    exact ⟨ret_bool HF.out.symm, Grow.refl _⟩

set_option maxRecDepth 100000 in
set_option maxHeartbeats 2000000 in
theorem specMayEnd_c (b : Book) {A1 A2 A3 : Option Addr} {c1 c2 c3 : Nat} (nm : ByteArray) (n : Int) (w : World) (h1 : Rows 13 svcC w A1 b.svcs) (h2 : Rows 7 cpyC w A2 b.cps) (h3 : Rows 2 brtC w A3 b.brs)
    (l1 : b.svcs.length ≤ 2000000) (l2 : b.cps.length ≤ 2000000) (l3 : b.brs.length ≤ 2000000) :
    Calls Try.prog 28 #[.agg #[.int .i64 b.now, .slice A1 b.svcs.length c1, .slice A2 b.cps.length c2, .slice A3 b.brs.length c3], .string nm, .int .i64 n] w fun e w' => e = .returned (.bool (mayEndB b nm n)) ∧ Grow w w' := by
  have R1 := Lib.hid (fun (w' : World) (hg : Grow w w') => h1.below hg)
  have R2 := Lib.hid (fun (w' : World) (hg : Grow w w') => h2.below hg)
  have R3 := Lib.hid (fun (w' : World) (hg : Grow w w') => h3.below hg)
  clear h1 h2 h3
  go_enter Try.func28, Try.ntmps28
  go_wp2_with fail
  refine (specValid_c b _ (R1.out _ (by (repeat (first | with_reducible exact Grow.refl _ | with_reducible assumption | with_reducible refine Grow.drew ?_ | with_reducible refine Grow.alloc ?_ _ | (with_reducible refine Grow.set ?_ ?_ _; rotate_left; (first | (dsimp only; omega) | (simp <;> omega))))))) (R2.out _ (by (repeat (first | with_reducible exact Grow.refl _ | with_reducible assumption | with_reducible refine Grow.drew ?_ | with_reducible refine Grow.alloc ?_ _ | (with_reducible refine Grow.set ?_ ?_ _; rotate_left; (first | (dsimp only; omega) | (simp <;> omega))))))) (R3.out _ (by (repeat (first | with_reducible exact Grow.refl _ | with_reducible assumption | with_reducible refine Grow.drew ?_ | with_reducible refine Grow.alloc ?_ _ | (with_reducible refine Grow.set ?_ ?_ _; rotate_left; (first | (dsimp only; omega) | (simp <;> omega))))))) l1 l2 l3).mono ?_
  rintro e w1 ⟨rfl, hg1⟩
  have G1 := Lib.hid (Grow.trans (show Grow w _ by (repeat (first | with_reducible exact Grow.refl _ | with_reducible assumption | with_reducible refine Grow.drew ?_ | with_reducible refine Grow.alloc ?_ _ | (with_reducible refine Grow.set ?_ ?_ _; rotate_left; (first | (dsimp only; omega) | (simp <;> omega)))))) hg1)
  obtain ⟨x0, x1, x2, x3⟩ := box4 (blk_grow (heap_alloc_new w _) hg1)
  clear hg1
  rcases hv : valid b
  · have HF := Lib.hid (show mayEndB b nm n = false by simp [mayEndB, hv])
    go_wp2
    go_ret
    exact ⟨ret_bool HF.out.symm, G1.out⟩
  · have HF := Lib.hid (show mayEndB b nm n = mayEndV b nm n by simp [mayEndB, hv])
    have hf := Lib.hid (fit_of_valid hv)
    go_wp2_with fail
    refine (l3MayEnd_c b nm n _ hf.out (R1.out _ G1.out) (R2.out _ G1.out)).mono ?_
    rintro e w2 ⟨rfl, hg2⟩
    go_wp2
    go_ret
    exact ⟨ret_bool HF.out.symm, G1.out.trans hg2⟩
set_option maxRecDepth 100000 in
set_option maxHeartbeats 2000000 in
theorem implMayEnd_c (b : Book) {A1 A2 A3 : Option Addr} {c1 c2 c3 : Nat} (nm : ByteArray) (n : Int) (w : World) (h1 : Rows 13 svcC w A1 b.svcs) (h2 : Rows 7 cpyC w A2 b.cps) (h3 : Rows 2 brtC w A3 b.brs)
    (l1 : b.svcs.length ≤ 2000000) (l2 : b.cps.length ≤ 2000000) (l3 : b.brs.length ≤ 2000000) :
    Calls Try.prog 29 #[.agg #[.int .i64 b.now, .slice A1 b.svcs.length c1, .slice A2 b.cps.length c2, .slice A3 b.brs.length c3], .string nm, .int .i64 n] w fun e w' => e = .returned (.bool (mayEndB b nm n)) ∧ Grow w w' := by
  have R1 := Lib.hid (fun (w' : World) (hg : Grow w w') => h1.below hg)
  have R2 := Lib.hid (fun (w' : World) (hg : Grow w w') => h2.below hg)
  have R3 := Lib.hid (fun (w' : World) (hg : Grow w w') => h3.below hg)
  clear h1 h2 h3
  go_enter Try.func29, Try.ntmps29
  go_wp2_with fail
  refine (implValid_c b _ (R1.out _ (by (repeat (first | with_reducible exact Grow.refl _ | with_reducible assumption | with_reducible refine Grow.drew ?_ | with_reducible refine Grow.alloc ?_ _ | (with_reducible refine Grow.set ?_ ?_ _; rotate_left; (first | (dsimp only; omega) | (simp <;> omega))))))) (R2.out _ (by (repeat (first | with_reducible exact Grow.refl _ | with_reducible assumption | with_reducible refine Grow.drew ?_ | with_reducible refine Grow.alloc ?_ _ | (with_reducible refine Grow.set ?_ ?_ _; rotate_left; (first | (dsimp only; omega) | (simp <;> omega))))))) (R3.out _ (by (repeat (first | with_reducible exact Grow.refl _ | with_reducible assumption | with_reducible refine Grow.drew ?_ | with_reducible refine Grow.alloc ?_ _ | (with_reducible refine Grow.set ?_ ?_ _; rotate_left; (first | (dsimp only; omega) | (simp <;> omega))))))) l1 l2 l3).mono ?_
  rintro e w1 ⟨rfl, hg1⟩
  have G1 := Lib.hid (Grow.trans (show Grow w _ by (repeat (first | with_reducible exact Grow.refl _ | with_reducible assumption | with_reducible refine Grow.drew ?_ | with_reducible refine Grow.alloc ?_ _ | (with_reducible refine Grow.set ?_ ?_ _; rotate_left; (first | (dsimp only; omega) | (simp <;> omega)))))) hg1)
  have BB := Lib.hid (show BookBlk w1 w.heap.size b A1 A2 A3 c1 c2 c3 from blk_grow (heap_alloc_new w _) hg1)
  clear hg1
  rcases hv : valid b
  · have HF := Lib.hid (show mayEndB b nm n = false by simp [mayEndB, hv])
    go_wp2
    go_ret
    exact ⟨ret_bool HF.out.symm, G1.out⟩
  · have HF := Lib.hid (show mayEndB b nm n = mayEndV b nm n by simp [mayEndB, hv])
    have hf := Lib.hid (fit_of_valid hv)
    rcases hq : cpyAt b.cps nm n with _ | k
    · have HR := Lib.hid (HF.out.trans (show mayEndV b nm n = false by simp [mayEndV, cpyGet, hq]))
      have Hr := Lib.hid (show elemPtr 7 A2 (cpyAt b.cps nm n) = none by rw [hq]; rfl)
      clear hq
      go_wp2_with (go_at_call 82; refine (copy_r b nm n _ none BB.out (R2.out _ G1.out) l2 Hr.out).mono ?_; rintro e w2 ⟨rfl, rfl⟩)
      go_ret
      exact ⟨ret_bool HR.out.symm, G1.out⟩
    · obtain ⟨c, hc, hcn, -⟩ := cpyAt_some hq
      obtain ⟨i, s, hi, hs, hsn, hnum⟩ := svc_there hf.out hq
      have HR := Lib.hid (HF.out.trans (show mayEndV b nm n = gate b.cps s c by simp [mayEndV, cpyGet, svcGet, hq, hc, hi, hs]))
      obtain ⟨bb, o, rfl, hbb, -, -, -, -, f4, f5, -⟩ := cpy_at (R2.out _ G1.out) hc
      obtain ⟨bs, os, rfl, hbs, s0, -, s2, s3, s4, s5, -⟩ := svc_at (R1.out _ G1.out) hs
      have Hr := Lib.hid (show elemPtr 7 (some ⟨bb, o, none⟩) (cpyAt b.cps nm n) = some ⟨bb, o + k * 7, none⟩ by rw [hq]; rfl)
      have Hi := Lib.hid (show elemPtr 13 (some ⟨bs, os, none⟩) (svcAt b.svcs nm) = some ⟨bs, os + i * 13, none⟩ by rw [hi]; rfl)
      have HC := Lib.hid (mayEnd_c b s c w1 BB.out (R2.out _ G1.out) l2 hnum s0 s2 s3 s4 s5 f4 f5)
      clear hq hc hs hi hsn hcn s0 s2 s3 s4 s5 f4 f5
      go_wp2_with (first
        | (go_at_call 82; refine (copy_r b nm n _ _ BB.out (R2.out _ G1.out) l2 Hr.out).mono ?_; rintro e w2 ⟨rfl, rfl⟩)
        | (go_at_call 71; refine (service_r b nm _ _ BB.out (R1.out _ G1.out) l1 Hi.out).mono ?_; rintro e w2 ⟨rfl, rfl⟩)
        | (go_at_call 83; refine HC.out.mono ?_; rintro e w3 ⟨rfl, hg3⟩))
      go_ret
      exact ⟨ret_bool HR.out.symm, G1.out.trans hg3⟩
end Go.Proofs.Ytnmknkdbeccmhaa
namespace Go.Proofs.Ytnmknkdbeccmhaa
open Go.RowKit
set_option linter.unusedSimpArgs false
set_option linter.unusedVariables false

theorem dsr_bd {s : Svc} (hn : SvcNum s 1000000) (hp : 0 < s.per) : 0 ≤ (s.load + s.per - 1) / s.per ∧ (s.load + s.per - 1) / s.per ≤ 2000000 := by
  unfold SvcNum at hn
  constructor
  · exact Int.ediv_nonneg (by omega) (by omega)
  · exact Int.le_trans (Int.ediv_le_self _ (by omega)) (by omega)
set_option maxRecDepth 100000 in
set_option maxHeartbeats 2000000 in
theorem l5Desired_c (s : Svc) (hn : SvcNum s 1000000) (hp : 0 < s.per) (w : World) : Calls Try.prog 84 #[.agg #[.string s.name, .int .i64 s.version, .bool s.gone, .int .i64 s.image, .int .i64 s.want, .int .i64 s.down, .int .i64 s.over, .int .i64 s.next, .int .i64 s.per, .int .i64 s.least, .int .i64 s.most, .int .i64 s.load, .int .i64 s.cool]] w fun e w' => e = .returned (.int .i64 (dsr s)) ∧ Grow w w' := by
  unfold SvcNum at hn
  obtain ⟨-, -, -, -, -, -, -, -, -, -, -, -, -, -, n1, n2, n3, n4, n5, n6, -⟩ := hn
  go_enter Try.func84, Try.ntmps84
  go_wp2
  all_goals
    go_ret
    refine ⟨ret_int ?_, (Grow.refl _).alloc _⟩
    go_light
    unfold dsr
    generalize (s.load + s.per - 1) / s.per = q at *
    repeat' split
    all_goals omega

set_option maxRecDepth 100000 in
set_option maxHeartbeats 2000000 in
theorem demand_c (s : Svc) (hn : SvcNum s 1000000) (hp : 0 < s.per) {bs os : Nat} (w : World) (s8 : w.cell? ⟨bs, os + 8, none⟩ = some (.int .i64 s.per)) (s9 : w.cell? ⟨bs, os + 9, none⟩ = some (.int .i64 s.least)) (s10 : w.cell? ⟨bs, os + 10, none⟩ = some (.int .i64 s.most)) (s11 : w.cell? ⟨bs, os + 11, none⟩ = some (.int .i64 s.load)) :
    Calls Try.prog 85 #[.pointer (some ⟨bs, os, none⟩)] w fun e w' => e = .returned (.int .i64 (dsr s)) ∧ Grow w w' := by
  obtain ⟨q0, q1⟩ := dsr_bd hn hp
  have p8 := cell_p s8
  have p9 := cell_p s9
  have p10 := cell_p s10
  have p11 := cell_p s11
  unfold SvcNum at hn
  obtain ⟨-, -, -, -, -, -, -, -, -, -, -, -, -, -, n1, n2, n3, n4, n5, n6, -⟩ := hn
  have t1 : IntKind.i64.wrap (s.load + s.per) = s.load + s.per := IntWalk.i64_in _ (by omega)
  have t2 : IntKind.i64.wrap (s.load + s.per - 1) = s.load + s.per - 1 := IntWalk.i64_in _ (by omega)
  have t3 : (s.load + s.per - 1).tdiv s.per = (s.load + s.per - 1) / s.per := Int.tdiv_eq_ediv_of_nonneg (by omega)
  have t4 : IntKind.i64.wrap ((s.load + s.per - 1) / s.per) = (s.load + s.per - 1) / s.per := IntWalk.i64_in _ (by omega)
  have t5 : (s.per == 0) = false := by simp; omega
  have t6 : ¬ s.per = 0 := by omega
  have HD := Lib.hid (show dsr s = (if s.most < (if (s.load + s.per - 1) / s.per < s.least then s.least else (s.load + s.per - 1) / s.per) then s.most else (if (s.load + s.per - 1) / s.per < s.least then s.least else (s.load + s.per - 1) / s.per)) from rfl)
  clear s8 s9 s10 s11
  go_enter Try.func85, Try.ntmps85
  go_wp2
  refine at_plus ?_
  refine region_quiet ⟨_, rfl⟩ (by kernel_rfl) (by kernel_rfl) ?_
  repeat (first | go_big_quiet_step (fail) | quiet_step (fail))
  refine wpQuiet_nil ?_
  rintro w2 ⟨y, rfl⟩
  go_wp2
  all_goals
    go_ret
    refine ⟨ret_int ?_, Grow.wplus _ _⟩
    rw [HD.out]
    go_light
    clear t1 t2 t3 t4 p8 p9 p10 p11 HD
    generalize (s.load + s.per - 1) / s.per = q at *
    by_cases h1 : q < s.least
    · simp only [if_pos h1] at *
      repeat' split
      all_goals omega
    · simp only [if_neg h1] at *
      repeat' split
      all_goals omega

def b2i (x : Bool) : Int := if x then 1 else 0
theorem one_c (x : Bool) (w : World) : Calls Try.prog 88 #[.bool x] w fun e w' => e = .returned (.int .i64 (b2i x)) ∧ w = w' := by
  cases x
  all_goals
    go_enter Try.func88, Try.ntmps88
    go_wp2
    go_ret
    exact ⟨rfl, rfl⟩
theorem one_t (w : World) : Calls Try.prog 88 #[.bool true] w fun e w' => e = .returned (.int .i64 1) ∧ w = w' := one_c true w
theorem one_f (w : World) : Calls Try.prog 88 #[.bool false] w fun e w' => e = .returned (.int .i64 0) ∧ w = w' := one_c false w
set_option maxRecDepth 100000 in
set_option maxHeartbeats 2000000 in
theorem l5Drains_c (b : Book) (c : Cpy) {A1 A2 A3 : Option Addr} {n1 n2 c1 c2 c3 : Nat} (w : World) (h3 : Rows 2 brtC w A3 b.brs) (l3 : b.brs.length ≤ 2000000) :
    Calls Try.prog 87 #[.agg #[.int .i64 b.now, .slice A1 n1 c1, .slice A2 n2 c2, .slice A3 b.brs.length c3], .agg #[.string c.service, .int .i64 c.number, .int .i64 c.version, .int .i64 c.image, .int .i64 c.state, .bool c.ending, .string c.berth]] w fun e w' => e = .returned (.bool (drainsB b.brs c.berth)) ∧ Grow w w' := by
  have R3 := Lib.hid (fun (w' : World) (hg : Grow w w') => h3.below hg)
  clear h3
  rcases hq : brtAt b.brs c.berth with _ | k
  · have HF := Lib.hid (show drainsB b.brs c.berth = false by simp [drainsB, hq])
    have Hr := Lib.hid (show idxI (brtAt b.brs c.berth) = -1 by rw [hq]; rfl)
    clear hq
    go_enter Try.func87, Try.ntmps87
    go_wp2_with (go_at_call 122; refine (l1Berth_r b _ _ (-1) (R3.out _ (by (repeat (first | with_reducible exact Grow.refl _ | with_reducible assumption | with_reducible refine Grow.drew ?_ | with_reducible refine Grow.alloc ?_ _ | (with_reducible refine Grow.set ?_ ?_ _; rotate_left; (first | (dsimp only; omega) | (simp <;> omega))))))) l3 Hr.out).mono ?_; rintro e w1 ⟨rfl, hg1⟩)
    go_ret
    exact ⟨ret_bool HF.out.symm, Grow.trans (by (repeat (first | with_reducible exact Grow.refl _ | with_reducible assumption | with_reducible refine Grow.drew ?_ | with_reducible refine Grow.alloc ?_ _ | (with_reducible refine Grow.set ?_ ?_ _; rotate_left; (first | (dsimp only; omega) | (simp <;> omega)))))) hg1⟩
  · obtain ⟨x, hx, -⟩ := fIdx_some0 hq
    have HF := Lib.hid (show drainsB b.brs c.berth = x.drain by simp [drainsB, hq, hx])
    have Hr := Lib.hid (show idxI (brtAt b.brs c.berth) = k by rw [hq]; rfl)
    have kl : k < b.brs.length := (List.getElem?_eq_some_iff.1 hx).1
    have k0 : (0 : Int) ≤ (k : Int) := Int.natCast_nonneg _
    have k1 : (k : Int) < (b.brs.length : Int) := by omega
    have HX := Lib.hid hx
    clear hq hx
    go_enter Try.func87, Try.ntmps87
    go_wp2_with fail
    refine (l1Berth_r b _ _ k (R3.out _ (by (repeat (first | with_reducible exact Grow.refl _ | with_reducible assumption | with_reducible refine Grow.drew ?_ | with_reducible refine Grow.alloc ?_ _ | (with_reducible refine Grow.set ?_ ?_ _; rotate_left; (first | (dsimp only; omega) | (simp <;> omega))))))) l3 Hr.out).mono ?_
    rintro e w1 ⟨rfl, hg1⟩
    have G1 := Lib.hid (Grow.trans (show Grow w _ by (repeat (first | with_reducible exact Grow.refl _ | with_reducible assumption | with_reducible refine Grow.drew ?_ | with_reducible refine Grow.alloc ?_ _ | (with_reducible refine Grow.set ?_ ?_ _; rotate_left; (first | (dsimp only; omega) | (simp <;> omega)))))) hg1)
    obtain ⟨x0, x1, x2, x3⟩ := box4 (blk_grow (heap_alloc2 w _ _) hg1)
    obtain ⟨bb, o, rfl, hbb, f0, f1⟩ := brt_at (R3.out _ G1.out) HX.out
    clear hg1
    go_wp2
    go_ret
    exact ⟨ret_bool HF.out.symm, G1.out⟩
set_option maxRecDepth 100000 in
set_option maxHeartbeats 2000000 in
theorem drained_c (b : Book) (c : Cpy) {g : Nat} {A1 A2 A3 : Option Addr} {c1 c2 c3 : Nat} (w : World) (hb : BookBlk w g b A1 A2 A3 c1 c2 c3) (h3 : Rows 2 brtC w A3 b.brs) (l3 : b.brs.length ≤ 2000000) :
    Calls Try.prog 89 #[.pointer (some ⟨g, 0, none⟩), .agg #[.string c.service, .int .i64 c.number, .int .i64 c.version, .int .i64 c.image, .int .i64 c.state, .bool c.ending, .string c.berth]] w fun e w' => e = .returned (.bool (drainsB b.brs c.berth)) ∧ Grow w w' := by
  have R3 := Lib.hid (fun (w' : World) (hg : Grow w w') => h3.below hg)
  have HB := Lib.hid hb
  rcases hq : brtAt b.brs c.berth with _ | k
  · have HF := Lib.hid (show drainsB b.brs c.berth = false by simp [drainsB, hq])
    have Hr := Lib.hid (show elemPtr 2 A3 (brtAt b.brs c.berth) = none by rw [hq]; rfl)
    clear hq h3 hb
    go_enter Try.func89, Try.ntmps89
    go_wp2_with (go_at_call 72; refine (berth_r b _ _ none (HB.out.grow (by (repeat (first | with_reducible exact Grow.refl _ | with_reducible assumption | with_reducible refine Grow.drew ?_ | with_reducible refine Grow.alloc ?_ _ | (with_reducible refine Grow.set ?_ ?_ _; rotate_left; (first | (dsimp only; omega) | (simp <;> omega))))))) (R3.out _ (by (repeat (first | with_reducible exact Grow.refl _ | with_reducible assumption | with_reducible refine Grow.drew ?_ | with_reducible refine Grow.alloc ?_ _ | (with_reducible refine Grow.set ?_ ?_ _; rotate_left; (first | (dsimp only; omega) | (simp <;> omega))))))) l3 Hr.out).mono ?_; rintro e w1 ⟨rfl, rfl⟩)
    go_ret
    exact ⟨ret_bool HF.out.symm, by (repeat (first | with_reducible exact Grow.refl _ | with_reducible assumption | with_reducible refine Grow.drew ?_ | with_reducible refine Grow.alloc ?_ _ | (with_reducible refine Grow.set ?_ ?_ _; rotate_left; (first | (dsimp only; omega) | (simp <;> omega)))))⟩
  · obtain ⟨x, hx, -⟩ := fIdx_some0 hq
    have HF := Lib.hid (show drainsB b.brs c.berth = x.drain by simp [drainsB, hq, hx])
    have gl := blk_lt hb
    obtain ⟨bb, o, rfl, hbb, f0, f1⟩ := brt_at h3 hx
    have Hr := Lib.hid (show elemPtr 2 (some ⟨bb, o, none⟩) (brtAt b.brs c.berth) = some ⟨bb, o + k * 2, none⟩ by rw [hq]; rfl)
    clear hq hx h3 hb
    go_enter Try.func89, Try.ntmps89
    go_wp2_with (go_at_call 72; refine (berth_r b _ _ _ (HB.out.grow (by (repeat (first | with_reducible exact Grow.refl _ | with_reducible assumption | with_reducible refine Grow.drew ?_ | with_reducible refine Grow.alloc ?_ _ | (with_reducible refine Grow.set ?_ ?_ _; rotate_left; (first | (dsimp only; omega) | (simp <;> omega))))))) (R3.out _ (by (repeat (first | with_reducible exact Grow.refl _ | with_reducible assumption | with_reducible refine Grow.drew ?_ | with_reducible refine Grow.alloc ?_ _ | (with_reducible refine Grow.set ?_ ?_ _; rotate_left; (first | (dsimp only; omega) | (simp <;> omega))))))) l3 Hr.out).mono ?_; rintro e w1 ⟨rfl, rfl⟩)
    go_ret
    exact ⟨ret_bool HF.out.symm, by (repeat (first | with_reducible exact Grow.refl _ | with_reducible assumption | with_reducible refine Grow.drew ?_ | with_reducible refine Grow.alloc ?_ _ | (with_reducible refine Grow.set ?_ ?_ _; rotate_left; (first | (dsimp only; omega) | (simp <;> omega)))))⟩

def natC (i : Nat) : List Value := [.int .i64 i]
theorem natC_len (i : Nat) : (natC i).length = 1 := rfl
theorem new_cells (w : World) (cs : List Value) (T : TypeId) : ∀ j u, cs[j]? = some u → (w.alloc (.cells cs.toArray T)).cell? ((⟨w.heap.size, 0, none⟩ : Addr).add j) = some u := by
  intro j u hu
  have h1 : (⟨w.heap.size, 0, none⟩ : Addr).add j = ⟨w.heap.size, j, none⟩ := by unfold Addr.add; by_cases e : j = 0 <;> simp [e]
  rw [h1, cell_of_row _ _ j _ _ _ (heap_alloc_new w _)]
  simpa using hu
theorem info_int : (Try.prog.info? 3).map (fun i => (i.zero, i.size, i.bytes)) = some (some (.int .i64 0), 1, 8) := by kernel_rfl
theorem box_size (w : World) (o : Obj) : (w.alloc o).heap.size = w.heap.size + 1 := by simp
theorem own_snoc {α : Type} {base T n N : Nat} {cs : α → List Value} {v : Value} {xs ys : List α} {x : α} {w : World} (hn : ∀ x, (cs x).length = n) (h0 : 0 < n) (h : w.ownsRow base T n v N (xs.flatMap cs ++ cs x)) (e : ys = xs ++ [x]) : w.ownsRow base T n v ys.length (ys.flatMap cs) := by
  subst e
  have hf : (xs ++ [x]).flatMap cs = xs.flatMap cs ++ cs x := by simp
  rw [hf]
  have hl := h.1
  rw [← hf, flat_len hn] at hl
  have : (xs ++ [x]).length = N := Nat.eq_of_mul_eq_mul_right h0 hl
  rw [this]; exact h
theorem own_empty (w : World) (T n : Nat) : (w.alloc (.cells #[] T)).ownsRow w.heap.size T n (.slice (some ⟨w.heap.size, 0, none⟩) 0 0) 0 [] := World.ownsRow_made w #[] 0 (Nat.le_refl _) (by decide) (by simp)
theorem own_base' {b b' T n N : Nat} {v : Value} {L : List Value} {w : World} (h : w.ownsRow b T n v N L) (hb : b' ≤ b) : w.ownsRow b' T n v N L := own_base h hb
theorem grown_of {W a c : World} {T n N : Nat} {v : Value} {L : List Value} (h : Grow W a) (ho : a.ownsRow W.heap.size T n v N L) (hg : a.grownBy c v.ownBlock) : Grow W c := Grow.grown h hg fun k hk => (ho.lt k hk).1
theorem own_nat {base T n : Nat} {v : Value} {xs ys : List Nat} {w : World} (h : w.ownsRow base T 1 v n (xs.flatMap natC)) (e : xs = ys) : w.ownsRow base T 1 v ys.length (ys.flatMap natC) := by
  subst e
  have hl := h.1
  rw [flat_len natC_len] at hl
  have : n = xs.length := by omega
  rw [← this]; exact h
set_option maxRecDepth 100000 in
set_option maxHeartbeats 2000000 in
theorem l5Live_c (b : Book) {A1 A2 A3 : Option Addr} {n1 n3 c1 c2 c3 : Nat} (nm : ByteArray) (w : World) (h2 : Rows 7 cpyC w A2 b.cps) (l2 : b.cps.length ≤ 2000000) :
    Calls Try.prog 86 #[.agg #[.int .i64 b.now, .slice A1 n1 c1, .slice A2 b.cps.length c2, .slice A3 n3 c3], .string nm] w (MadeRow 3 1 natC (placesOf (isLive nm) b.cps 0) w) := by
  obtain ⟨i0, hi, hz0, hz1, hz2⟩ := info_parts info_int
  obtain ⟨W, hW⟩ : ∃ W, W = w.alloc (.cells #[.int .i64 b.now, .slice A1 n1 c1, .slice A2 b.cps.length c2, .slice A3 n3 c3] 34) := ⟨_, rfl⟩
  have HW := Lib.hid hW
  have GW := Lib.hid (show Grow w W by rw [hW]; (repeat (first | with_reducible exact Grow.refl _ | with_reducible assumption | with_reducible refine Grow.drew ?_ | with_reducible refine Grow.alloc ?_ _ | (with_reducible refine Grow.set ?_ ?_ _; rotate_left; (first | (dsimp only; omega) | (simp <;> omega))))))
  have X := Lib.hid (show W.heap[w.heap.size]? = some (.cells #[.int .i64 b.now, .slice A1 n1 c1, .slice A2 b.cps.length c2, .slice A3 n3 c3] 34 (0, 0)) by rw [hW]; exact heap_alloc_new _ _)
  have R2 := Lib.hid (fun (w' : World) (hg : Grow W w') => h2.below (GW.out.trans hg))
  have SW := Lib.hid (show W.heap.size = w.heap.size + 1 by rw [hW]; simp)
  clear h2 hW
  go_enter Try.func86, Try.ntmps86
  go_wp2
  go_loopw [5, 6] (fun v i wr => ∃ k : Nat, k ≤ b.cps.length ∧ i = .int .i64 k ∧ Hid (Grow W wr) ∧ Hid (wr.ownsRow W.heap.size 3 1 v (placesOf (isLive nm) (b.cps.take k) 0).length ((placesOf (isLive nm) (b.cps.take k) 0).flatMap natC))) (fun _ i _ => b.cps.length - (intOf i).toNat)
  case atStart =>
    have e := HW.out
    subst e
    exact ⟨0, Nat.zero_le _, rfl, by unfold Hid; (repeat (first | with_reducible exact Grow.refl _ | with_reducible assumption | with_reducible refine Grow.drew ?_ | with_reducible refine Grow.alloc ?_ _ | (with_reducible refine Grow.set ?_ ?_ _; rotate_left; (first | (dsimp only; omega) | (simp <;> omega))))), by unfold Hid; simpa [placesOf] using own_empty (w.alloc (.cells #[.int .i64 b.now, .slice A1 n1 c1, .slice A2 b.cps.length c2, .slice A3 n3 c3] 34)) 3 1⟩
  case round =>
    obtain ⟨k, hk, rfl, hgr, hown⟩ := hrel
    by_cases hlt : k < b.cps.length
    · obtain ⟨x, hx⟩ := ex_at hlt
      obtain ⟨bb, o, rfl, hbb, f0, -, -, -, -, f5, -⟩ := cpy_at (R2.out _ hgr.out) hx
      obtain ⟨x0, x1, x2, x3⟩ := box4 (blk_grow X.out hgr.out)
      have HP := Lib.hid (placesOf_succ (p := isLive nm) hx)
      have pl := placesOf_len (isLive nm) (b.cps.take k) 0
      have pt : (b.cps.take k).length ≤ k := List.length_take_le _ _
      clear hx
      go_wp2_with (at_builtin; refine wpList_append_own _ rfl _ _ _ rfl W.heap.size 3 i0 (.int .i64 0) 1 8 Try.underlying56 hi hz0 hz1 hz2 rfl (by decide) _ _ _ rfl (hown.out.alloc _) ⟨wr.heap.size, 0, none⟩ 1 1 (natC k) rfl rfl (new_cells wr (natC k) _) (by simp [natC, Value.oneCell']) (by unfold maxLen; omega) (by omega) (by have := hgr.out.size; simp; omega) ?_; intro v' w1 ho hg1 _; have HO := Lib.hid ho; have HG := Lib.hid hg1; clear ho hg1)
      all_goals first
        | (go_roundw
           case rel => exact ⟨k + 1, by omega, by go_num, grown_of (hgr.out.alloc _) (hown.out.alloc _) HG.out, own_snoc natC_len (by decide) HO.out (by rw [HP.out, if_pos (by go_light; simp_all [isLive, eqN])])⟩
           case measure => simp [intOf]; omega)
        | (go_roundw
           case rel => exact ⟨k + 1, by omega, by go_num, hgr.out, by unfold Hid; rw [HP.out, if_neg (by go_light; simp_all [isLive, eqN]), List.append_nil]; exact hown.out⟩
           case measure => simp [intOf]; omega)
    · obtain rfl : k = b.cps.length := by omega
      obtain ⟨x0, x1, x2, x3⟩ := box4 (blk_grow X.out hgr.out)
      have ho := hown.out
      rw [List.take_length] at ho
      have HO := Lib.hid ho
      clear ho hown
      go_wp2
      go_ret
      exact ⟨_, rfl, own_base HO.out (by rw [SW.out]; omega), GW.out.trans hgr.out⟩
end Go.Proofs.Ytnmknkdbeccmhaa
