/- The walks of the laws' own work on worlds: measure, copy, compare. -/
import Derived.Test.YtnmknkdbeccmhaaB10
import Derived.Test.YtnmknkdbeccmhaaB9
import Derived.Test.YtnmknkdbeccmhaaB20
import Derived.Laws.OwnMore
namespace Go.Proofs.Ytnmknkdbeccmhaa
open Go.RowKit
set_option linter.unusedSimpArgs false
set_option linter.unusedVariables false

def SmallBook (b : Book) : Prop := (b.svcs.length ≤ 9223372036854775807 ∧ b.cps.length ≤ 9223372036854775807 ∧ b.brs.length ≤ 9223372036854775807) ∧ SmallSvc b.svcs ∧ SmallCpy b.cps ∧ SmallBrt b.brs
set_option maxRecDepth 100000 in
set_option maxHeartbeats 2000000 in
theorem szStewBookS_c (xs : List Book) (l : Int) {A : Option Addr} {c : Nat} (hl0 : 0 ≤ l) (hl1 : l ≤ 2000000) (hn : xs.length ≤ 9223372036854775807) (hs : ∀ x ∈ xs, SmallBook x) (w : World) (h : BooksAt w A xs) :
    Calls Try.prog 76 #[.slice A xs.length c, .int .i64 l] w fun e w' => e = .returned (.int .i64 (szS szBook xs l)) ∧ Grow w w' := by
  have R := Lib.hid (fun (w' : World) (hg : Grow w w') => h.below hg)
  have HS := Lib.hid hs
  clear h hs
  by_cases hc : l - xs.length < 0
  · have HR := Lib.hid (show szS szBook xs l = -1 by unfold szS; rw [if_pos hc])
    go_enter Try.func76, Try.ntmps76
    go_wp2
    go_ret
    exact ⟨ret_int HR.out.symm, Grow.refl _⟩
  · have HR := Lib.hid (show szS szBook xs l = szL szBook xs (l - xs.length) by unfold szS; rw [if_neg hc])
    go_enter Try.func76, Try.ntmps76
    go_wp2
    go_loopw [1, 5] (fun q i wr => ∃ (k : Nat) (m : Int), k ≤ xs.length ∧ i = .int .i64 k ∧ q = .int .i64 m ∧ 0 ≤ m ∧ m ≤ 2000000 ∧ Hid (Grow w wr) ∧ Hid (szL szBook xs (l - xs.length) = szL szBook (xs.drop k) m)) (fun _ i _ => xs.length - (intOf i).toNat)
    case atStart => exact ⟨0, l - xs.length, Nat.zero_le _, rfl, rfl, by omega, by omega, Grow.refl _, rfl⟩
    case round =>
      obtain ⟨k, m, hk, rfl, rfl, hm0, hm1, hgr, hi⟩ := hrel
      by_cases hlt : k < xs.length
      · obtain ⟨x, hx⟩ := ex_at hlt
        obtain ⟨bl, o, rfl, hbl, B1, d1, B2, d2, B3, d3, f0, f1, f2, f3, r1, r2, r3⟩ := (R.out _ hgr.out).at_ hx
        have hd := Lib.hid (drop_at hx)
        obtain ⟨⟨n1, n2, n3⟩, q1, q2, q3⟩ := HS.out x (List.mem_of_getElem? hx)
        have HR1 := Lib.hid r1
        have HR2 := Lib.hid r2
        have HR3 := Lib.hid r3
        have Q1 := Lib.hid q1
        have Q2 := Lib.hid q2
        have Q3 := Lib.hid q3
        clear hx r1 r2 r3 q1 q2 q3
        obtain ⟨hz1, hz2⟩ := szBook_le' x m hm0
        by_cases hz : szBook x m < 0
        all_goals go_wp2_with (go_at_call 15; refine (szStewBook_c x m hm0 hm1 _ HR1.out HR2.out HR3.out n1 n2 n3 Q1.out Q2.out Q3.out).mono ?_; rintro e w' ⟨rfl, hg⟩)
        · go_ret
          exact ⟨ret_int (by rw [HR.out, hi.out, hd.out, szL, if_pos hz]), hgr.out.trans hg⟩
        · go_roundw
          case rel => exact ⟨k + 1, szBook x m, by omega, by go_num, rfl, by omega, by omega, hgr.out.trans hg, by unfold Hid; rw [hi.out, hd.out, szL, if_neg (by omega)]⟩
          case measure => simp [intOf]; omega
      · obtain rfl : k = xs.length := by omega
        go_wp2
        go_ret
        exact ⟨ret_int (by rw [HR.out, hi.out, List.drop_length]; rfl), hgr.out⟩
set_option maxRecDepth 100000 in
set_option maxHeartbeats 2000000 in
theorem szStewWorld_c (v : Wld) (l : Int) {AP A1 A2 A3 : Option Addr} {cP c1 c2 c3 : Nat} (hl0 : 0 ≤ l) (hl1 : l ≤ 2000000) (w : World) (hp : BooksAt w AP v.past) (h1 : Rows 13 svcC w A1 v.book.svcs) (h2 : Rows 7 cpyC w A2 v.book.cps) (h3 : Rows 2 brtC w A3 v.book.brs)
    (lp : v.past.length ≤ 9223372036854775807) (sp : ∀ x ∈ v.past, SmallBook x) (sb : SmallBook v.book) :
    Calls Try.prog 20 #[.agg #[.slice AP v.past.length cP, .int .i64 v.book.now, .slice A1 v.book.svcs.length c1, .slice A2 v.book.cps.length c2, .slice A3 v.book.brs.length c3], .int .i64 l] w fun e w' => e = .returned (.int .i64 (szWld v l)) ∧ Grow w w' := by
  have RP := Lib.hid (fun (w' : World) (hg : Grow w w') => hp.below hg)
  have R1 := Lib.hid (fun (w' : World) (hg : Grow w w') => h1.below hg)
  have R2 := Lib.hid (fun (w' : World) (hg : Grow w w') => h2.below hg)
  have R3 := Lib.hid (fun (w' : World) (hg : Grow w w') => h3.below hg)
  obtain ⟨⟨n1, n2, n3⟩, q1, q2, q3⟩ := sb
  have SP := Lib.hid sp
  have Q1 := Lib.hid q1
  have Q2 := Lib.hid q2
  have Q3 := Lib.hid q3
  clear hp h1 h2 h3 sp q1 q2 q3
  obtain ⟨z1, z2, -⟩ := szS_le szBook_le' v.past l hl0
  go_enter Try.func20, Try.ntmps20
  go_wp2_with fail
  refine (szStewBookS_c v.past l hl0 hl1 lp SP.out _ (RP.out _ (by (repeat (first | with_reducible exact Grow.refl _ | with_reducible assumption | with_reducible refine Grow.drew ?_ | with_reducible refine Grow.alloc ?_ _ | (with_reducible refine Grow.set ?_ ?_ _; rotate_left; (first | (dsimp only; omega) | (simp <;> omega)))))))).mono ?_
  rintro e w1 ⟨rfl, hg1⟩
  have G1 := Lib.hid (Grow.trans (show Grow w _ by (repeat (first | with_reducible exact Grow.refl _ | with_reducible assumption | with_reducible refine Grow.drew ?_ | with_reducible refine Grow.alloc ?_ _ | (with_reducible refine Grow.set ?_ ?_ _; rotate_left; (first | (dsimp only; omega) | (simp <;> omega)))))) hg1)
  obtain ⟨x0, x1, x2, x3, x4⟩ := box5 (blk_grow (heap_alloc_new w _) hg1)
  clear hg1
  by_cases hz : szS szBook v.past l < 0
  · have HR := Lib.hid (show szWld v l = -1 by unfold szWld; rw [if_pos hz])
    go_wp2
    go_ret
    exact ⟨ret_int HR.out.symm, G1.out⟩
  · obtain ⟨y1, y2⟩ := szBook_le' v.book (szS szBook v.past l) (by omega)
    go_wp2_with fail
    refine (szStewBook_c v.book _ (by omega) (by omega) _ (R1.out _ G1.out) (R2.out _ G1.out) (R3.out _ G1.out) n1 n2 n3 Q1.out Q2.out Q3.out).mono ?_
    rintro e w2 ⟨rfl, hg2⟩
    by_cases hy : szBook v.book (szS szBook v.past l) < 0
    · have HR := Lib.hid (show szWld v l = -1 by unfold szWld; rw [if_neg (by omega), if_pos hy])
      go_wp2
      go_ret
      exact ⟨ret_int HR.out.symm, G1.out.trans hg2⟩
    · have HR := Lib.hid (show szWld v l = szBook v.book (szS szBook v.past l) by unfold szWld; rw [if_neg (by omega), if_neg (by omega)])
      go_wp2
      go_ret
      exact ⟨ret_int HR.out.symm, G1.out.trans hg2⟩

/-- A book as it lies in a row of books. -/
structure BookV where
  b : Book
  A1 : Option Addr
  A2 : Option Addr
  A3 : Option Addr
  c1 : Nat
  c2 : Nat
  c3 : Nat
def bvC (e : BookV) : List Value := [.int .i64 e.b.now, .slice e.A1 e.b.svcs.length e.c1, .slice e.A2 e.b.cps.length e.c2, .slice e.A3 e.b.brs.length e.c3]
def BVok (w : World) (e : BookV) : Prop := Rows 13 svcC w e.A1 e.b.svcs ∧ Rows 7 cpyC w e.A2 e.b.cps ∧ Rows 2 brtC w e.A3 e.b.brs
theorem bvC_len (e : BookV) : (bvC e).length = 4 := rfl
/-- One element is stored behind those that are there, whatever is to come. -/
theorem own_put2 {α : Type} {base T n g N cap : Nat} {cs : α → List Value} {xs : List α} {x : α} {rest : List Value} {w : World} (hn : ∀ x, (cs x).length = n) (hlt : xs.length < N)
    (h : w.ownsRow base T n (.slice (some ⟨g, 0, none⟩) N cap) N (xs.flatMap cs ++ rest)) :
    ∃ rest', (wsets g w (xs.length * n) (cs x)).ownsRow base T n (.slice (some ⟨g, 0, none⟩) N cap) N ((xs ++ [x]).flatMap cs ++ rest') ∧ w.grownBy (wsets g w (xs.length * n) (cs x)) (some g) := by
  have hP := flat_len hn xs
  have hr : n ≤ rest.length := by
    have h1 := h.1
    rw [List.length_append, hP] at h1
    have : (xs.length + 1) * n ≤ N * n := Nat.mul_le_mul_right _ hlt
    rw [Nat.add_mul] at this
    omega
  obtain ⟨h1, h2⟩ := own_sets (cs x) (xs.length * n) _ w h
  refine ⟨rest.drop n, ?_, h2⟩
  have := setsAt_mid (xs.flatMap cs) (rest.take n) (rest.drop n) (cs x) (by rw [hn, List.length_take, Nat.min_eq_left hr])
  rw [List.take_append_drop, hP] at this
  rw [this] at h1
  simpa [List.flatMap_append, List.append_assoc] using h1
theorem books_of {base T N : Nat} {g cap : Nat} {es : List BookV} {rest : List Value} {w : World} (hN : N = es.length) (h : w.ownsRow base T 4 (.slice (some ⟨g, 0, none⟩) N cap) N (es.flatMap bvC ++ rest)) (hok : ∀ e ∈ es, BVok w e) : BooksAt w (some ⟨g, 0, none⟩) (es.map (·.b)) := fun hne => by
  refine ⟨g, 0, rfl, fun i x hx => ?_⟩
  rw [List.getElem?_map] at hx
  obtain ⟨e, he, rfl⟩ := Option.map_eq_some_iff.1 hx
  obtain ⟨r1, r2, r3⟩ := hok e (List.mem_of_getElem? he)
  have hl : i < es.length := (List.getElem?_eq_some_iff.1 he).1
  have cell : ∀ j u, (bvC e)[j]? = some u → w.cell? ⟨g, 0 + i * 4 + j, none⟩ = some u := fun j u hu => by
    have hj : j < 4 := (List.getElem?_eq_some_iff.1 hu).1
    rw [Nat.zero_add, h.cellAt (i * 4 + j) (by omega)]
    have e1 : es = es.take i ++ e :: es.drop (i + 1) := by rw [← drop_at he, List.take_append_drop]
    have ht : ((es.take i).flatMap bvC).length = i * 4 := by rw [flat_len bvC_len, List.length_take, Nat.min_eq_left (by omega)]
    rw [e1, List.flatMap_append, List.flatMap_cons, List.append_assoc, List.getElem?_append_right (by rw [ht]; omega), ht, Nat.add_sub_cancel_left, List.append_assoc, List.getElem?_append_left (by rw [bvC_len]; exact hj)]
    exact hu
  exact ⟨e.A1, e.c1, e.A2, e.c2, e.A3, e.c3, cell 0 _ rfl, cell 1 _ rfl, cell 2 _ rfl, cell 3 _ rfl, r1, r2, r3⟩
theorem books_nil (w : World) (A : Option Addr) : BooksAt w A [] := fun h => absurd rfl h
theorem info_Book : (Try.prog.info? 34).map (fun i => (i.zero, i.size, i.bytes)) = some (some (.agg #[.int .i64 0, .slice none 0 0, .slice none 0 0, .slice none 0 0]), 4, 80) := by kernel_rfl
theorem BVok.below {w w' : World} {e : BookV} (h : BVok w e) (hb : Below w.heap.size w w') : BVok w' e := ⟨h.1.below hb, h.2.1.below hb, h.2.2.below hb⟩
theorem BVok.keep {w w' : World} {e : BookV} {g : Nat} (h : BVok w e) (hb : w.grownBy w' (some g)) (h1 : ∀ p, e.A1 = some p → p.block ≠ g) (h2 : ∀ p, e.A2 = some p → p.block ≠ g) (h3 : ∀ p, e.A3 = some p → p.block ≠ g) : BVok w' e := by
  have k : ∀ {α : Type} {n : Nat} {cs : α → List Value} {A : Option Addr} {xs : List α}, Rows n cs w A xs → (∀ p, A = some p → p.block ≠ g) → Rows n cs w' A xs := fun hr hA hne => by
    obtain ⟨bl, o, e, hc⟩ := hr hne
    exact ⟨bl, o, e, fun i x hx j u hu => World.grownBy.cell hb (hc i x hx j u hu) (fun e' => hA _ e (Option.some.inj e'))⟩
  exact ⟨k h.1 h1, k h.2.1 h2, k h.2.2 h3⟩
/-- Its rows lie behind block g. -/
def BVoff (g : Nat) (e : BookV) : Prop := (∀ p, e.A1 = some p → g < p.block) ∧ (∀ p, e.A2 = some p → g < p.block) ∧ (∀ p, e.A3 = some p → g < p.block)
/-- Two worlds whose blocks from base on are the same, as far as w goes. -/
def SameFrom (base : Nat) (w w' : World) : Prop := ∀ k, base ≤ k → k < w.heap.size → w'.heap[k]? = w.heap[k]?
theorem SameFrom.of_grow {base : Nat} {w w' : World} (h : Grow w w') : SameFrom base w w' := fun k _ hk => h.block k hk
theorem SameFrom.refl (base : Nat) (w : World) : SameFrom base w w := fun _ _ _ => rfl
theorem SameFrom.trans {base : Nat} {a b c : World} (h : SameFrom base a b) (k : SameFrom base b c) (hs : a.heap.size ≤ b.heap.size) : SameFrom base a c := fun i hi hl => (k i hi (by omega)).trans (h i hi hl)
theorem SameFrom.set {base : Nat} {w : World} {p : Addr} (hp : p.block < base) (u : Value) : SameFrom base w (w.setCell p u) := fun k hk _ => heap_setCell_other w p k u (by omega)
theorem SameFrom.mono {base base' : Nat} {w w' : World} (h : SameFrom base w w') (hb : base ≤ base') : SameFrom base' w w' := fun k hk hl => h k (by omega) hl
theorem Rows.same {α : Type} {n base : Nat} {cs : α → List Value} {w w' : World} {A : Option Addr} {xs : List α} (h : Rows n cs w A xs) (hs : SameFrom base w w') (hA : ∀ p, A = some p → base ≤ p.block) : Rows n cs w' A xs := fun hne => by
  obtain ⟨bl, o, e, hc⟩ := h hne
  refine ⟨bl, o, e, fun i x hx j u hu => ?_⟩
  have h1 := hc i x hx j u hu
  exact (World.cell?_of_block (hs bl (hA _ e) (World.block_lt_of_cell? w _ h1))).trans h1
theorem own_same {base T n N : Nat} {v : Value} {L : List Value} {w w' : World} (h : w.ownsRow base T n v N L) (hs : SameFrom base w w') : w'.ownsRow base T n v N L := by
  refine ⟨h.1, ?_⟩
  rcases h.2 with h0 | ⟨g, cap, cur, e, hb, hg, r⟩
  · exact .inl h0
  · exact .inr ⟨g, cap, cur, e, hb, (hs g hb (blk_lt hg)).trans hg, r⟩
theorem BVok.same {base : Nat} {w w' : World} {e : BookV} (h : BVok w e) (hs : SameFrom base w w') (ho : BVoff base e) : BVok w' e :=
  ⟨h.1.same hs fun p hp => by have := ho.1 p hp; omega, h.2.1.same hs fun p hp => by have := ho.2.1 p hp; omega, h.2.2.same hs fun p hp => by have := ho.2.2 p hp; omega⟩
end Go.Proofs.Ytnmknkdbeccmhaa
