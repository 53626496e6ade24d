/- The walks of the laws' work on lists of numbers, and of the marks on a book. The walks of the copying of a book: the reference's l1Book and the program's clone. The walk of the program's clone. A book that the call has made, in a block of its own: stores into it and into its rows. Code from a region on, under a name of its own. -/
import Derived.Test.YtnmknkdbeccmhaaAp13
import Derived.Test.YtnmknkdbeccmhaaAp3
import Derived.Test.YtnmknkdbeccmhaaAp14
import Derived.Test.YtnmknkdbeccmhaaAp4
import Derived.Test.YtnmknkdbeccmhaaAp6
import Derived.Test.YtnmknkdbeccmhaaAp9
namespace Go.Proofs.Ytnmknkdbeccmhaa
open Go.RowKit
set_option linter.unusedSimpArgs false
set_option linter.unusedVariables false

set_option maxRecDepth 100000 in
set_option maxHeartbeats 2000000 in
theorem eqIntS_c (xs : List Int) {A B : Option Addr} {c c' : Nat} (hn : xs.length ≤ 2000000) (w : World) (h : Rows 1 intC w A xs) (h' : Rows 1 intC w B xs) :
    Calls Try.prog 34 #[.slice A xs.length c, .slice B xs.length c'] w fun e w' => e = .returned (.bool true) ∧ Grow w w' := by
  have R := Lib.hid h
  have R' := Lib.hid h'
  clear h h'
  go_enter Try.func34, Try.ntmps34
  go_wp2
  refine rebase ?_
  intro W hW
  obtain rfl := hW.out
  go_loopw [5] (fun i wr => ∃ (k : Nat) (y : Ext), k ≤ xs.length ∧ i = .int .i64 k ∧ wr = wplus W y) (fun i _ => xs.length - (intOf i).toNat)
  case atStart => exact ⟨0, _, Nat.zero_le _, rfl, rfl⟩
  case round =>
    obtain ⟨k, y, hk, rfl, rfl⟩ := hrel
    by_cases hlt : k < xs.length
    · obtain ⟨x, hx⟩ := ex_at hlt
      obtain ⟨b1, o1, rfl, -⟩ := R.out.at_ hx
      obtain ⟨b2, o2, rfl, -⟩ := R'.out.at_ hx
      have f0 := cell_p (int_at R.out hx)
      have g0 := cell_p (int_at R'.out hx)
      clear hx
      have t2 : (0 : Int) ≤ (k : Int) := Int.natCast_nonneg _
      have t3 : (k : Int) < (xs.length : Int) := by omega
      go_wp2
      refine region_quiet ⟨_, rfl⟩ (by kernel_rfl) (by kernel_rfl) ?_
      repeat (first | go_big_quiet_step (fail) | quiet_step (fail))
      refine wpQuiet_nil ?_
      rintro w2 ⟨y2, rfl⟩
      go_wp2
      go_roundw
      case rel => exact ⟨k + 1, _, by omega, by go_num, rfl⟩
      case measure => simp [intOf]; omega
    · obtain rfl : k = xs.length := by omega
      go_wp2
      go_ret
      exact ⟨rfl, Grow.wplus _ _⟩
theorem own_one {base T g N cap : Nat} {Q rest : List Value} {z : Value} {w : World} {j : Nat} (hQ : Q.length = j) (hr : 1 ≤ rest.length) (h : w.ownsRow base T 1 (.slice (some ⟨g, 0, none⟩) N cap) N (Q ++ rest)) :
    (w.setCell ⟨g, j, none⟩ z).ownsRow base T 1 (.slice (some ⟨g, 0, none⟩) N cap) N (Q ++ ([z] ++ rest.drop 1)) ∧ w.grownBy (w.setCell ⟨g, j, none⟩ z) (some g) := by
  obtain ⟨h1, h2⟩ := own_sets [z] j _ w h
  exact ⟨own_sets_all (cs := [z]) hQ hr h1, h2⟩
set_option maxRecDepth 100000 in
set_option maxHeartbeats 2000000 in
theorem markIntS_c {base N : Nat} {v : Value} {L : List Value} (k : Int) (h0 : 0 ≤ k) (h1 : k + N ≤ 100000000000) (w : World) (h : w.ownsRow base 3 1 v N L) :
    Calls Try.prog 36 #[v, .int .i64 k] w fun e w' => e = .returned (.int .i64 (k + N)) ∧ w'.ownsRow base 3 1 v N ((marks (fun z => z) 1 N k).flatMap intC) ∧ w.grownBy w' v.ownBlock := by
  rcases h.2 with ⟨rfl, rfl⟩ | ⟨g, cap, cur, rfl, hb, hg, hc, hm, hz, ht⟩
  · go_enter Try.func36, Try.ntmps36
    go_wp2
    go_loop [1, 5] (fun q i => q = .int .i64 k ∧ i = .int .i64 0) (fun _ _ => 0)
    case atStart => exact ⟨rfl, rfl⟩
    case round =>
      obtain ⟨rfl, rfl⟩ := hrel
      go_wp2
      go_ret
      exact ⟨by simp, World.ownsRow_nil _ _ _ _, World.grownBy.refl _ _⟩
  · have HO := Lib.hid h
    have capb : cap ≤ 9223372036854775807 := by unfold maxLen at hm; omega
    clear h hg hz ht hm
    go_enter Try.func36, Try.ntmps36
    go_wp2
    go_loopw [1, 5] (fun q i wr => ∃ (j : Nat) (m : Int) (rest : List Value), j ≤ N ∧ i = .int .i64 j ∧ q = .int .i64 m ∧ m = k + 1 * j ∧ Hid (wr.ownsRow base 3 1 (.slice (some ⟨g, 0, none⟩) N cap) N ((marks (fun z => z) 1 j k).flatMap intC ++ rest)) ∧ Hid (w.grownBy wr (some g))) (fun _ i _ => N - (intOf i).toNat)
    case atStart => exact ⟨0, k, _, Nat.zero_le _, rfl, rfl, by simp, HO.out, World.grownBy.refl _ _⟩
    case round =>
      obtain ⟨j, m, rest, hj, rfl, rfl, hm, ho, hgr⟩ := hrel
      by_cases hlt : j < N
      · have j0 : (0 : Int) ≤ (j : Int) := Int.natCast_nonneg _
        have j1 : (j : Int) < (N : Int) := by omega
        have m0 : 0 ≤ m := by omega
        have m1 : m ≤ 100000000000 := by omega
        have HM := Lib.hid hm
        have HP := Lib.hid (show ((marks (fun z => z) 1 j k).flatMap intC).length = j by rw [flat_len intC_len, marks_len, Nat.mul_one])
        have HR := Lib.hid (show 1 ≤ rest.length by
          have h1 := ho.out.1
          rw [List.length_append, HP.out] at h1
          omega)
        clear hm
        obtain ⟨V, hV⟩ := own_V ho.out
        have e0 : wr.cell? ⟨g, j, none⟩ = some (V j) := hV _ (by omega)
        have hf : ∀ i, wr.frozen? ⟨g, i, none⟩ = false := fun i => (ho.out).frozenAt i
        clear hV
        obtain ⟨K1, K2⟩ := own_one (z := .int .i64 m) HP.out HR.out ho.out
        have HK1 := Lib.hid K1
        have HK2 := Lib.hid (grownBy_trans hgr.out K2)
        clear K1 K2
        go_wp2
        go_roundw
        case rel => exact ⟨j + 1, _, rest.drop 1, by omega, by go_num, rfl, by have := HM.out; omega, by unfold Hid; rw [show (marks (fun z => z) 1 (j + 1) k).flatMap intC ++ rest.drop 1 = (marks (fun z => z) 1 j k).flatMap intC ++ ([.int .i64 m] ++ rest.drop 1) by rw [marks_snoc, ← HM.out, List.flatMap_append]; simp [intC]]; exact HK1.out, HK2.out⟩
        case measure => simp [intOf]; omega
      · obtain rfl : j = N := by omega
        have HR := Lib.hid (show rest = [] by
          have h1 := ho.out.1
          rw [List.length_append, flat_len intC_len, marks_len] at h1
          exact List.eq_nil_of_length_eq_zero (by omega))
        go_wp2
        go_ret
        exact ⟨ret_int (by omega), by have := ho.out; rw [HR.out, List.append_nil] at this; exact this, hgr.out⟩
set_option maxRecDepth 100000 in
set_option maxHeartbeats 2000000 in
theorem heldIntS_c {N : Nat} {A : Option Addr} {c : Nat} (k : Int) (h0 : 0 ≤ k) (h1 : k + N ≤ 100000000000) (w : World) (h : Rows 1 intC w A (marks (fun z => z) 1 N k)) :
    Calls Try.prog 37 #[.slice A N c, .int .i64 k] w fun e w' => e = .returned (.int .i64 (k + N)) ∧ Grow w w' := by
  have R := Lib.hid h
  clear h
  go_enter Try.func37, Try.ntmps37
  go_wp2
  go_loop [1, 5] (fun q i => ∃ (j : Nat) (m : Int), j ≤ N ∧ i = .int .i64 j ∧ q = .int .i64 m ∧ m = k + 1 * j) (fun _ i => N - (intOf i).toNat)
  case atStart => exact ⟨0, k, Nat.zero_le _, rfl, rfl, by simp⟩
  case round =>
    obtain ⟨j, m, hj, rfl, rfl, hm⟩ := hrel
    by_cases hlt : j < N
    · have hx : (marks (fun z => z) 1 N k)[j]? = some m := by rw [marks_at _ _ hlt, hm]
      obtain ⟨b1, o1, rfl, -⟩ := R.out.at_ hx
      have f0 := int_at R.out hx
      have j0 : (0 : Int) ≤ (j : Int) := Int.natCast_nonneg _
      have j1 : (j : Int) < (N : Int) := by omega
      have m0 : 0 ≤ m := by omega
      have m1 : m ≤ 100000000000 := by omega
      have HM := Lib.hid hm
      clear hx hm
      go_wp2
      go_round
      case rel => exact ⟨j + 1, _, by omega, by go_num, rfl, by have := HM.out; omega⟩
      case measure => simp [intOf]; omega
    · obtain rfl : j = N := by omega
      go_wp2
      go_ret
      exact ⟨ret_int (by omega), Grow.refl _⟩

/-- What marks on three rows leave: all else is as it was. -/
structure Marked (v1 v2 v3 : Value) (w w' : World) : Prop where
  os : w'.os = w.os
  tape : w'.tape = w.tape
  output : w'.output = w.output
  size : w.heap.size ≤ w'.heap.size
  block : ∀ k, k < w.heap.size → some k ≠ v1.ownBlock → some k ≠ v2.ownBlock → some k ≠ v3.ownBlock → w'.heap[k]? = w.heap[k]?
theorem own_heap {base T n N : Nat} {v : Value} {L : List Value} {w : World} {k : Nat} (h : w.ownsRow base T n v N L) (hk : some k = v.ownBlock) : ∃ cur, w.heap[k]? = some (.cells cur T (0, 0)) := by
  rcases h.2 with ⟨rfl, -⟩ | ⟨g, cap, cur, rfl, -, hg, -⟩
  · cases hk
  · cases hk
    exact ⟨cur, hg⟩
theorem heap_ne {base T T' n N : Nat} {v : Value} {L : List Value} {w : World} {k : Nat} {cs : Array Value} {fr : Nat × Nat} (h : w.ownsRow base T n v N L) (hk : w.heap[k]? = some (.cells cs T' fr)) (hT : T' ≠ T) : some k ≠ v.ownBlock := by
  intro e
  obtain ⟨cur, hc⟩ := own_heap h e
  rw [hk] at hc
  simp only [Option.some.injEq, Obj.cells.injEq] at hc
  exact hT hc.2.1
theorem own_ne {b1 b2 T T' n n' N N' : Nat} {v v' : Value} {L L' : List Value} {w : World} (h : w.ownsRow b1 T n v N L) (h' : w.ownsRow b2 T' n' v' N' L') (hT : T' ≠ T) : v'.ownBlock = none ∨ v'.ownBlock ≠ v.ownBlock := by
  cases hq : v'.ownBlock with
  | none => exact .inl rfl
  | some k =>
    refine .inr fun e => ?_
    obtain ⟨cur, hc⟩ := own_heap h' hq.symm
    exact heap_ne h hc hT e
/-- A book of the call's own, row by row. -/
structure Rows3 (base : Nat) (w : World) (v1 v2 v3 : Value) (b : Book) : Prop where
  r1 : w.ownsRow base 83 13 v1 b.svcs.length (b.svcs.flatMap svcC)
  r2 : w.ownsRow base 65 7 v2 b.cps.length (b.cps.flatMap cpyC)
  r3 : w.ownsRow base 104 2 v3 b.brs.length (b.brs.flatMap brtC)
theorem Rows3.grow {base : Nat} {w w' : World} {v1 v2 v3 : Value} {b : Book} (h : Rows3 base w v1 v2 v3 b) (hg : Grow w w') : Rows3 base w' v1 v2 v3 b := ⟨own_grow h.r1 hg, own_grow h.r2 hg, own_grow h.r3 hg⟩
theorem Marked.blk {base : Nat} {v1 v2 v3 : Value} {b : Book} {w w' : World} (h : Marked v1 v2 v3 w w') (ho : Rows3 base w v1 v2 v3 b) {k T : Nat} {cs : Array Value} {fr : Nat × Nat} (hk : w.heap[k]? = some (.cells cs T fr)) (h1 : T ≠ 83) (h2 : T ≠ 65) (h3 : T ≠ 104) : w'.heap[k]? = some (.cells cs T fr) :=
  (h.block k (blk_lt hk) (heap_ne ho.r1 hk h1) (heap_ne ho.r2 hk h2) (heap_ne ho.r3 hk h3)).trans hk
theorem Marked.own {base base' : Nat} {v1 v2 v3 : Value} {b : Book} {w w' : World} (h : Marked v1 v2 v3 w w') (ho : Rows3 base w v1 v2 v3 b) {T n N : Nat} {v : Value} {L : List Value} (hv : w.ownsRow base' T n v N L) (h1 : T ≠ 83) (h2 : T ≠ 65) (h3 : T ≠ 104) : w'.ownsRow base' T n v N L := by
  refine ⟨hv.1, ?_⟩
  rcases hv.2 with h0 | ⟨g, cap, cur, e, hb, hg, r⟩
  · exact .inl h0
  · exact .inr ⟨g, cap, cur, e, hb, h.blk ho hg h1 h2 h3, r⟩
theorem Marked.grow {base : Nat} {v1 v2 v3 : Value} {b : Book} {w0 w w' : World} (h : Marked v1 v2 v3 w w') (hw : Grow w0 w) (ho : Rows3 base w v1 v2 v3 b) (hb : w0.heap.size ≤ base) : Grow w0 w' := by
  refine ⟨h.os.trans hw.os, h.tape.trans hw.tape, h.output.trans hw.output, Nat.le_trans hw.size h.size, fun k hk => ?_⟩
  have far : ∀ {T n N : Nat} {v : Value} {L : List Value}, w.ownsRow base T n v N L → some k ≠ v.ownBlock := fun hv e => by
    have := (hv.lt k e.symm).1
    omega
  exact (h.block k (Nat.lt_of_lt_of_le hk hw.size) (far ho.r1) (far ho.r2) (far ho.r3)).trans (hw.block k hk)
set_option maxRecDepth 100000 in
set_option maxHeartbeats 2000000 in
theorem markStewBook_c {base : Nat} {v1 v2 v3 : Value} (b : Book) (k : Int) (h0 : 0 ≤ k) (h1 : k + 13 * b.svcs.length + 7 * b.cps.length + 2 * b.brs.length ≤ 100000000000) (w : World) (h : Rows3 base w v1 v2 v3 b) :
    Calls Try.prog 35 #[.agg #[.int .i64 b.now, v1, v2, v3], .int .i64 k] w fun e w' => e = .returned (.int .i64 (k + 13 * b.svcs.length + 7 * b.cps.length + 2 * b.brs.length)) ∧
      Rows3 base w' v1 v2 v3 ⟨b.now, marks markSvc 13 b.svcs.length k, marks markCpy 7 b.cps.length (k + 13 * b.svcs.length), marks markBrt 2 b.brs.length (k + 13 * b.svcs.length + 7 * b.cps.length)⟩ ∧ Marked v1 v2 v3 w w' := by
  obtain ⟨A1, d1, e1, -, -⟩ := own_rows svcC_len rfl h.r1
  obtain ⟨A2, d2, e2, -, -⟩ := own_rows cpyC_len rfl h.r2
  obtain ⟨A3, d3, e3, -, -⟩ := own_rows brtC_len rfl h.r3
  subst e1 e2 e3
  have HB := Lib.hid (h.grow ((Grow.refl w).alloc (.cells #[.int .i64 b.now, .slice A1 b.svcs.length d1, .slice A2 b.cps.length d2, .slice A3 b.brs.length d3] 34)))
  have X := Lib.hid (heap_alloc_new w (.cells #[.int .i64 b.now, .slice A1 b.svcs.length d1, .slice A2 b.cps.length d2, .slice A3 b.brs.length d3] 34))
  have HA := Lib.hid (fun (o : Obj) => (⟨rfl, rfl, rfl, by simp, fun k hk _ => Below.heap_alloc _ _ _ hk⟩ : w.grownBy (w.alloc o) none))
  clear h
  go_enter Try.func35, Try.ntmps35
  go_wp2_with fail
  refine (markStewServiceS_c k h0 (by omega) _ HB.out.r1).mono ?_
  rintro e w1 ⟨rfl, ho1, hg1⟩
  have O12 := Lib.hid (HB.out.r2.kept hg1 (own_ne HB.out.r1 HB.out.r2 (by decide)))
  have O13 := Lib.hid (HB.out.r3.kept hg1 (own_ne HB.out.r1 HB.out.r3 (by decide)))
  have X1 := Lib.hid ((hg1.block _ (blk_lt X.out) (heap_ne HB.out.r1 X.out (by decide))).trans X.out)
  have O11 := Lib.hid ho1
  have T1 := Lib.hid hg1
  clear ho1 hg1
  have x0 := cell_of_row w1 _ 0 _ _ _ X1.out
  have x1 := cell_of_row w1 _ 1 _ _ _ X1.out
  have x2 := cell_of_row w1 _ 2 _ _ _ X1.out
  have x3 := cell_of_row w1 _ 3 _ _ _ X1.out
  go_wp2_with fail
  refine (markStewCopyS_c (k + 13 * b.svcs.length) (by omega) (by omega) _ O12.out).mono ?_
  rintro e w2 ⟨rfl, ho2, hg2⟩
  have O21 := Lib.hid (O11.out.kept hg2 (own_ne O12.out O11.out (by decide)))
  have O23 := Lib.hid (O13.out.kept hg2 (own_ne O12.out O13.out (by decide)))
  have X2 := Lib.hid ((hg2.block _ (blk_lt X1.out) (heap_ne O12.out X1.out (by decide))).trans X1.out)
  have O22 := Lib.hid ho2
  have T2 := Lib.hid hg2
  clear ho2 hg2 x0 x1 x2 x3
  have x0 := cell_of_row w2 _ 0 _ _ _ X2.out
  have x1 := cell_of_row w2 _ 1 _ _ _ X2.out
  have x2 := cell_of_row w2 _ 2 _ _ _ X2.out
  have x3 := cell_of_row w2 _ 3 _ _ _ X2.out
  go_wp2_with fail
  refine (markStewBerthS_c (k + 13 * b.svcs.length + 7 * b.cps.length) (by omega) (by omega) _ O23.out).mono ?_
  rintro e w3 ⟨rfl, ho3, hg3⟩
  have O31 := Lib.hid (O21.out.kept hg3 (own_ne O23.out O21.out (by decide)))
  have O32 := Lib.hid (O22.out.kept hg3 (own_ne O23.out O22.out (by decide)))
  have O33 := Lib.hid ho3
  have T3 := Lib.hid hg3
  clear ho3 hg3 x0 x1 x2 x3
  go_wp2
  go_ret
  refine ⟨rfl, ⟨by simpa [marks_len] using O31.out, by simpa [marks_len] using O32.out, by simpa [marks_len] using O33.out⟩, ⟨?_, ?_, ?_, ?_, ?_⟩⟩
  · exact T3.out.os.trans (T2.out.os.trans T1.out.os)
  · exact T3.out.tape.trans (T2.out.tape.trans T1.out.tape)
  · exact T3.out.output.trans (T2.out.output.trans T1.out.output)
  · have q1 := T1.out.size
    have q2 := T2.out.size
    have q3 := T3.out.size
    have q0 := (HA.out (.cells #[.int .i64 b.now, .slice A1 b.svcs.length d1, .slice A2 b.cps.length d2, .slice A3 b.brs.length d3] 34)).size
    omega
  · intro i hi n1 n2 n3
    have q1 := T1.out.size
    have q2 := T2.out.size
    have q0 := (HA.out (.cells #[.int .i64 b.now, .slice A1 b.svcs.length d1, .slice A2 b.cps.length d2, .slice A3 b.brs.length d3] 34)).size
    exact (T3.out.block i (by omega) n3).trans ((T2.out.block i (by omega) n2).trans ((T1.out.block i (by omega) n1).trans ((HA.out (.cells #[.int .i64 b.now, .slice A1 b.svcs.length d1, .slice A2 b.cps.length d2, .slice A3 b.brs.length d3] 34)).block i hi (by simp))))
end Go.Proofs.Ytnmknkdbeccmhaa
namespace Go.Proofs.Ytnmknkdbeccmhaa
open Go.RowKit
set_option linter.unusedSimpArgs false
set_option linter.unusedVariables false

/-- What operation i of the copying is said to leave. -/
def PhiB (b : Book) (s base : Nat) (A1 A2 A3 : Option Addr) (c1 c2 c3 : Nat) : Nat → Value → World → Prop
  | 0, v, w => v = .pointer (some ⟨s, 0, none⟩)
  | 1, v, w => v = .int .i64 b.now
  | 2, v, w => ∃ g, v = .slice (some ⟨g, 0, none⟩) 0 0 ∧ w.ownsRow base 83 13 v 0 []
  | 3, v, w => v = .pointer (some ⟨s, 1, none⟩)
  | 4, v, w => v = .slice A1 b.svcs.length c1
  | 5, v, w => w.ownsRow base 83 13 v b.svcs.length (b.svcs.flatMap svcC)
  | 6, v, w => ∃ g, v = .slice (some ⟨g, 0, none⟩) 0 0 ∧ w.ownsRow base 65 7 v 0 []
  | 7, v, w => v = .pointer (some ⟨s, 2, none⟩)
  | 8, v, w => v = .slice A2 b.cps.length c2
  | 9, v, w => w.ownsRow base 65 7 v b.cps.length (b.cps.flatMap cpyC)
  | 10, v, w => ∃ g, v = .slice (some ⟨g, 0, none⟩) 0 0 ∧ w.ownsRow base 104 2 v 0 []
  | 11, v, w => v = .pointer (some ⟨s, 3, none⟩)
  | 12, v, w => v = .slice A3 b.brs.length c3
  | 13, v, w => w.ownsRow base 104 2 v b.brs.length (b.brs.flatMap brtC)
  | 14, v, w => OwnBook base w v b
  | _, _, _ => True
theorem PhiB_stable (b : Book) (s base : Nat) (A1 A2 A3 : Option Addr) (c1 c2 c3 : Nat) : Stable (PhiB b s base A1 A2 A3 c1 c2 c3) := by
  intro i v w w' h hg
  match i, h with
  | 0, h => exact h
  | 1, h => exact h
  | 2, h => exact (by obtain ⟨g, e, ho⟩ := h; exact ⟨g, e, own_grow ho hg⟩)
  | 3, h => exact h
  | 4, h => exact h
  | 5, h => exact own_grow h hg
  | 6, h => exact (by obtain ⟨g, e, ho⟩ := h; exact ⟨g, e, own_grow ho hg⟩)
  | 7, h => exact h
  | 8, h => exact h
  | 9, h => exact own_grow h hg
  | 10, h => exact (by obtain ⟨g, e, ho⟩ := h; exact ⟨g, e, own_grow ho hg⟩)
  | 11, h => exact h
  | 12, h => exact h
  | 13, h => exact own_grow h hg
  | 14, h => exact OwnBook.grow h hg
  | n + 15, _ => exact trivial
def FrB (b : Book) (s : Nat) (A1 A2 A3 : Option Addr) (c1 c2 c3 : Nat) (x : Nat → Value) : Act := ⟨#[.agg #[.int .i64 b.now, .slice A1 b.svcs.length c1, .slice A2 b.cps.length c2, .slice A3 b.brs.length c3], .pointer (some ⟨s, 0, none⟩), .pointer (some ⟨s + 1, 0, none⟩), x 0, x 1, x 2, x 3, x 4, x 5, x 6, x 7, x 8, x 9, x 10, x 11, x 12, x 13, x 14], []⟩
set_option maxRecDepth 100000 in
set_option maxHeartbeats 4000000 in
theorem l1Book_c (b : Book) {A1 A2 A3 : Option Addr} {c1 c2 c3 : Nat} (w : World) (h1 : Rows 13 svcC w A1 b.svcs) (h2 : Rows 7 cpyC w A2 b.cps) (h3 : Rows 2 brtC w A3 b.brs) (l1 : b.svcs.length ≤ 2000000) (l2 : b.cps.length ≤ 2000000) (l3 : b.brs.length ≤ 2000000) :
    Calls Try.prog 99 #[.agg #[.int .i64 b.now, .slice A1 b.svcs.length c1, .slice A2 b.cps.length c2, .slice A3 b.brs.length c3]] w (MadeBook b w) := by
  obtain ⟨i1, hi1, hz1, hs1, hb1⟩ := info_parts info_Svc
  obtain ⟨i2, hi2, hz2, hs2, hb2⟩ := info_parts info_Cpy
  obtain ⟨i3, hi3, hz3, hs3, hb3⟩ := info_parts info_Brt
  have R1 := Lib.hid (fun (w' : World) (hg : Grow w w') => h1.below hg)
  have R2 := Lib.hid (fun (w' : World) (hg : Grow w w') => h2.below hg)
  have R3 := Lib.hid (fun (w' : World) (hg : Grow w w') => h3.below hg)
  clear h1 h2 h3
  go_enter Try.func99, Try.ntmps99
  go_upto_region 1 with fail
  refine rename ?_
  intro W hW
  have GW := Lib.hid (show Grow w W from grow_eq hW (by (repeat (first | with_reducible exact Grow.refl _ | with_reducible assumption | with_reducible refine Grow.drew ?_ | with_reducible refine Grow.alloc ?_ _ | (with_reducible refine Grow.set ?_ ?_ _; rotate_left; (first | (dsimp only; omega) | (simp <;> omega)))))))
  have X := Lib.hid (heap_eq hW (heap_alloc2 w _ _))
  have Y := Lib.hid (heap_eq hW (heap_alloc2_new w _ _))
  have SW := Lib.hid (show W.heap.size = w.heap.size + 2 by rw [hW.out]; simp)
  clear hW
  refine region_grow_tail (W := W) (n := 15) rfl rfl (by kernel_rfl) (PhiB b w.heap.size W.heap.size A1 A2 A3 c1 c2 c3) (FrB b w.heap.size A1 A2 A3 c1 c2 c3) (fun _ => undef) (by kernel_rfl) (by kernel_rfl) (by kernel_rfl) (Grow.refl _) rfl (PhiB_stable _ _ _ _ _ _ _ _ _) ?_ ?_ ?_
  · intro i o x v hi ho
    match i, hi, ho with
    | 0, _, ho => cases ho; rfl
    | 1, _, ho => cases ho; rfl
    | 2, _, ho => cases ho; rfl
    | 3, _, ho => cases ho; rfl
    | 4, _, ho => cases ho; rfl
    | 5, _, ho => cases ho; rfl
    | 6, _, ho => cases ho; rfl
    | 7, _, ho => cases ho; rfl
    | 8, _, ho => cases ho; rfl
    | 9, _, ho => cases ho; rfl
    | 10, _, ho => cases ho; rfl
    | 11, _, ho => cases ho; rfl
    | 12, _, ho => cases ho; rfl
    | 13, _, ho => cases ho; rfl
    | 14, _, ho => cases ho; rfl
  · intro i o x w2 hi ho hg hd
    match i, hi, ho, hd with
    | 0, _, ho, hd =>
      cases ho
      intro K hK
      unfold FrB
      go_simp
      exact hK (.pointer (some ⟨w.heap.size, 0, none⟩)) _ (Grow.refl _) rfl
    | 1, _, ho, hd =>
      cases ho
      intro K hK
      have d0 := hd ⟨0, .data⟩ (by simp) rfl
      replace d0 : x 0 = .pointer (some ⟨w.heap.size, 0, none⟩) := d0
      obtain ⟨q0, q1, q2, q3⟩ := box4 (blk_grow X.out hg)
      unfold FrB
      go_simp
      have hh := hK (.int .i64 b.now) _ (Grow.refl _) rfl
      simpa [FrB, Act.put, d0] using hh
    | 2, _, ho, hd =>
      cases ho
      intro K hK
      unfold FrB
      go_simp
      exact hK (.slice (some ⟨w2.heap.size, 0, none⟩) 0 0) _ ((Grow.refl _).alloc _) ⟨_, rfl, own_base (own_empty w2 83 13) hg.size⟩
    | 3, _, ho, hd =>
      cases ho
      intro K hK
      unfold FrB
      go_simp
      exact hK (.pointer (some ⟨w.heap.size, 1, none⟩)) _ (Grow.refl _) rfl
    | 4, _, ho, hd =>
      cases ho
      intro K hK
      have d3 := hd ⟨3, .data⟩ (by simp) rfl
      replace d3 : x 3 = .pointer (some ⟨w.heap.size, 1, none⟩) := d3
      obtain ⟨q0, q1, q2, q3⟩ := box4 (blk_grow X.out hg)
      unfold FrB
      go_simp
      have hh := hK (.slice A1 b.svcs.length c1) _ (Grow.refl _) rfl
      simpa [FrB, Act.put, d3] using hh
    | 5, _, ho, hd =>
      cases ho
      intro K hK
      have d2 := hd ⟨2, .data⟩ (by simp) rfl
      have d4 := hd ⟨4, .data⟩ (by simp) rfl
      obtain ⟨g, he, ho⟩ := (show ∃ g, x 2 = .slice (some ⟨g, 0, none⟩) 0 0 ∧ w2.ownsRow W.heap.size 83 13 (x 2) 0 [] from d2)
      rw [he] at ho
      replace d4 : x 4 = .slice A1 b.svcs.length c1 := d4
      refine wp_append_fresh (.tmp 5) (.tmp 7) 30 rfl 83 i1 _ Try.underlying30 hi1 hz1 hs1 hb1 rfl (by decide) svcC_len svcC_one b.svcs he ho A1 c1 d4 (R1.out _ (GW.out.trans hg)) (by unfold maxLen; omega) (by omega) hg.size ?_
      intro v' w' h2 h3
      exact hK v' w' h3 h2
    | 6, _, ho, hd =>
      cases ho
      intro K hK
      unfold FrB
      go_simp
      exact hK (.slice (some ⟨w2.heap.size, 0, none⟩) 0 0) _ ((Grow.refl _).alloc _) ⟨_, rfl, own_base (own_empty w2 65 7) hg.size⟩
    | 7, _, ho, hd =>
      cases ho
      intro K hK
      unfold FrB
      go_simp
      exact hK (.pointer (some ⟨w.heap.size, 2, none⟩)) _ (Grow.refl _) rfl
    | 8, _, ho, hd =>
      cases ho
      intro K hK
      have d7 := hd ⟨7, .data⟩ (by simp) rfl
      replace d7 : x 7 = .pointer (some ⟨w.heap.size, 2, none⟩) := d7
      obtain ⟨q0, q1, q2, q3⟩ := box4 (blk_grow X.out hg)
      unfold FrB
      go_simp
      have hh := hK (.slice A2 b.cps.length c2) _ (Grow.refl _) rfl
      simpa [FrB, Act.put, d7] using hh
    | 9, _, ho, hd =>
      cases ho
      intro K hK
      have d6 := hd ⟨6, .data⟩ (by simp) rfl
      have d8 := hd ⟨8, .data⟩ (by simp) rfl
      obtain ⟨g, he, ho⟩ := (show ∃ g, x 6 = .slice (some ⟨g, 0, none⟩) 0 0 ∧ w2.ownsRow W.heap.size 65 7 (x 6) 0 [] from d6)
      rw [he] at ho
      replace d8 : x 8 = .slice A2 b.cps.length c2 := d8
      refine wp_append_fresh (.tmp 9) (.tmp 11) 31 rfl 65 i2 _ Try.underlying31 hi2 hz2 hs2 hb2 rfl (by decide) cpyC_len cpyC_one b.cps he ho A2 c2 d8 (R2.out _ (GW.out.trans hg)) (by unfold maxLen; omega) (by omega) hg.size ?_
      intro v' w' h2 h3
      exact hK v' w' h3 h2
    | 10, _, ho, hd =>
      cases ho
      intro K hK
      unfold FrB
      go_simp
      exact hK (.slice (some ⟨w2.heap.size, 0, none⟩) 0 0) _ ((Grow.refl _).alloc _) ⟨_, rfl, own_base (own_empty w2 104 2) hg.size⟩
    | 11, _, ho, hd =>
      cases ho
      intro K hK
      unfold FrB
      go_simp
      exact hK (.pointer (some ⟨w.heap.size, 3, none⟩)) _ (Grow.refl _) rfl
    | 12, _, ho, hd =>
      cases ho
      intro K hK
      have d11 := hd ⟨11, .data⟩ (by simp) rfl
      replace d11 : x 11 = .pointer (some ⟨w.heap.size, 3, none⟩) := d11
      obtain ⟨q0, q1, q2, q3⟩ := box4 (blk_grow X.out hg)
      unfold FrB
      go_simp
      have hh := hK (.slice A3 b.brs.length c3) _ (Grow.refl _) rfl
      simpa [FrB, Act.put, d11] using hh
    | 13, _, ho, hd =>
      cases ho
      intro K hK
      have d10 := hd ⟨10, .data⟩ (by simp) rfl
      have d12 := hd ⟨12, .data⟩ (by simp) rfl
      obtain ⟨g, he, ho⟩ := (show ∃ g, x 10 = .slice (some ⟨g, 0, none⟩) 0 0 ∧ w2.ownsRow W.heap.size 104 2 (x 10) 0 [] from d10)
      rw [he] at ho
      replace d12 : x 12 = .slice A3 b.brs.length c3 := d12
      refine wp_append_fresh (.tmp 13) (.tmp 15) 32 rfl 104 i3 _ Try.underlying32 hi3 hz3 hs3 hb3 rfl (by decide) brtC_len brtC_one b.brs he ho A3 c3 d12 (R3.out _ (GW.out.trans hg)) (by unfold maxLen; omega) (by omega) hg.size ?_
      intro v' w' h2 h3
      exact hK v' w' h3 h2
    | 14, _, ho, hd =>
      cases ho
      intro K hK
      have d1 := hd ⟨1, .data⟩ (by simp) rfl
      have d5 := hd ⟨5, .data⟩ (by simp) rfl
      have d9 := hd ⟨9, .data⟩ (by simp) rfl
      have d13 := hd ⟨13, .data⟩ (by simp) rfl
      replace d1 : x 1 = .int .i64 b.now := d1
      have o1 : w2.ownsRow W.heap.size 83 13 (x 5) b.svcs.length (b.svcs.flatMap svcC) := d5
      have o2 : w2.ownsRow W.heap.size 65 7 (x 9) b.cps.length (b.cps.flatMap cpyC) := d9
      have o3 : w2.ownsRow W.heap.size 104 2 (x 13) b.brs.length (b.brs.flatMap brtC) := d13
      obtain ⟨B1, e1, hx1, -, -⟩ := own_rows svcC_len rfl o1
      obtain ⟨B2, e2, hx2, -, -⟩ := own_rows cpyC_len rfl o2
      obtain ⟨B3, e3, hx3, -, -⟩ := own_rows brtC_len rfl o3
      rw [hx1] at o1
      rw [hx2] at o2
      rw [hx3] at o3
      unfold FrB
      go_simp
      have hh := hK (.agg #[.int .i64 b.now, .slice B1 b.svcs.length e1, .slice B2 b.cps.length e2, .slice B3 b.brs.length e3]) _ (Grow.refl _) ⟨_, _, _, rfl, o1, o2, o3⟩
      simpa [FrB, Act.put, d1, hx1, hx2, hx3] using hh
  · intro x w2 hg hall K hK
    have d14 : OwnBook W.heap.size w2 (x 14) b := hall 14 (by omega)
    obtain ⟨v1, v2, v3, hx, o1, o2, o3⟩ := d14
    obtain ⟨B1, e1, rfl, -, -⟩ := own_rows svcC_len rfl o1
    obtain ⟨B2, e2, rfl, -, -⟩ := own_rows cpyC_len rfl o2
    obtain ⟨B3, e3, rfl, -, -⟩ := own_rows brtC_len rfl o3
    have Y2 := Lib.hid (blk_grow Y.out hg)
    have O1 := Lib.hid o1
    have O2 := Lib.hid o2
    have O3 := Lib.hid o3
    have HG := Lib.hid hg
    have wl := blk_lt Y2.out
    clear hall o1 o2 o3 hg
    have q0 := cell_of_row w2 _ 0 _ _ _ Y2.out
    have q1 := cell_of_row w2 _ 1 _ _ _ Y2.out
    have q2 := cell_of_row w2 _ 2 _ _ _ Y2.out
    have q3 := cell_of_row w2 _ 3 _ _ _ Y2.out
    have qf0 := frozen_of_row w2 _ 0 _ _ Y2.out
    have qf1 := frozen_of_row w2 _ 1 _ _ Y2.out
    have qf2 := frozen_of_row w2 _ 2 _ _ Y2.out
    have qf3 := frozen_of_row w2 _ 3 _ _ Y2.out
    unfold FrB
    go_simp
    refine hK _ _ ?_
    clear hK
    go_wp2
    refine bodyPost_ret (v := .agg #[.int .i64 b.now, .slice B1 b.svcs.length e1, .slice B2 b.cps.length e2, .slice B3 b.brs.length e3]) (by simp [results, Try.results99, go_sem, q0, q1, q2, q3]) rfl ⟨_, rfl, ⟨_, _, _, rfl, ?_, ?_, ?_⟩, ?_⟩
    · refine own_base (b := W.heap.size) ?_ (by have := SW.out; omega)
      repeat (refine ownsRow_setCell_below ?_ (by have := SW.out; simp <;> omega) _)
      exact O1.out
    · refine own_base (b := W.heap.size) ?_ (by have := SW.out; omega)
      repeat (refine ownsRow_setCell_below ?_ (by have := SW.out; simp <;> omega) _)
      exact O2.out
    · refine own_base (b := W.heap.size) ?_ (by have := SW.out; omega)
      repeat (refine ownsRow_setCell_below ?_ (by have := SW.out; simp <;> omega) _)
      exact O3.out
    · repeat (refine Grow.set ?_ (by simp <;> omega) _)
      exact GW.out.trans HG.out
end Go.Proofs.Ytnmknkdbeccmhaa
namespace Go.Proofs.Ytnmknkdbeccmhaa
open Go.RowKit
set_option linter.unusedSimpArgs false
set_option linter.unusedVariables false
set_option maxRecDepth 100000
set_option maxHeartbeats 4000000
theorem clone_c (b : Book) {A1 A2 A3 : Option Addr} {c1 c2 c3 : Nat} (w : World) (h1 : Rows 13 svcC w A1 b.svcs) (h2 : Rows 7 cpyC w A2 b.cps) (h3 : Rows 2 brtC w A3 b.brs) (l1 : b.svcs.length ≤ 2000000) (l2 : b.cps.length ≤ 2000000) (l3 : b.brs.length ≤ 2000000) :
    Calls Try.prog 101 #[.agg #[.int .i64 b.now, .slice A1 b.svcs.length c1, .slice A2 b.cps.length c2, .slice A3 b.brs.length c3]] w (MadeBook b w) := by
  obtain ⟨i1, hi1, hz1, hs1, hb1⟩ := info_parts info_Svc
  obtain ⟨i2, hi2, hz2, hs2, hb2⟩ := info_parts info_Cpy
  obtain ⟨i3, hi3, hz3, hs3, hb3⟩ := info_parts info_Brt
  have R1 := Lib.hid (fun (w' : World) (hg : Grow w w') => h1.below hg)
  have R2 := Lib.hid (fun (w' : World) (hg : Grow w w') => h2.below hg)
  have R3 := Lib.hid (fun (w' : World) (hg : Grow w w') => h3.below hg)
  clear h1 h2 h3
  go_enter Try.func101, Try.ntmps101
  go_upto_region 1 with fail
  refine rename ?_
  intro W hW
  have GW := Lib.hid (show Grow w W from grow_eq hW (by (repeat (first | with_reducible exact Grow.refl _ | with_reducible assumption | with_reducible refine Grow.drew ?_ | with_reducible refine Grow.alloc ?_ _ | (with_reducible refine Grow.set ?_ ?_ _; rotate_left; (first | (dsimp only; omega) | (simp <;> omega)))))))
  have X := Lib.hid (heap_eq hW (heap_alloc2 w _ _))
  have Y := Lib.hid (heap_eq hW (heap_alloc2_new w _ _))
  have SW := Lib.hid (show W.heap.size = w.heap.size + 2 by rw [hW.out]; simp)
  have SL := Lib.hid (show w.heap.size + 2 ≤ W.heap.size by rw [SW.out]; exact Nat.le_refl _)
  clear hW SW
  have q0 := cell_of_row W _ 0 _ _ _ X.out
  have q1 := cell_of_row W _ 1 _ _ _ X.out
  have q2 := cell_of_row W _ 2 _ _ _ X.out
  have q3 := cell_of_row W _ 3 _ _ _ X.out
  have qf0 := frozen_of_row W _ 0 _ _ X.out
  have qf1 := frozen_of_row W _ 1 _ _ X.out
  have qf2 := frozen_of_row W _ 2 _ _ X.out
  have qf3 := frozen_of_row W _ 3 _ _ X.out
  go_upto_region 2 with (at_builtin; refine wpList_append_rows rfl _ _ 30 rfl 83 i1 _ Try.underlying30 hi1 hz1 hs1 hb1 rfl (by decide) svcC_len svcC_one (.slice none 0 0) [] b.svcs rfl (World.ownsRow_nil W W.heap.size _ _) A1 c1 rfl (R1.out _ GW.out) (by unfold maxLen; simp; omega) (by simp; omega) (Nat.le_refl _) ?_; intro v' w1 ho hg1; obtain ⟨B1, e1, rfl, -, -⟩ := own_rows (xs := b.svcs) svcC_len rfl ho; have GN := Lib.hid (Grow.grown (Grow.refl W) hg1 (fun k hk => by cases hk)); have HO := Lib.hid ho; clear ho hg1; have XX := Lib.hid (blk_grow X.out GN.out); have p0 := cell_of_row w1 _ 0 _ _ _ XX.out; have p1 := cell_of_row w1 _ 1 _ _ _ XX.out; have p2 := cell_of_row w1 _ 2 _ _ _ XX.out; have p3 := cell_of_row w1 _ 3 _ _ _ XX.out; have pf0 := frozen_of_row w1 _ 0 _ _ XX.out; have pf1 := frozen_of_row w1 _ 1 _ _ XX.out; have pf2 := frozen_of_row w1 _ 2 _ _ XX.out; have pf3 := frozen_of_row w1 _ 3 _ _ XX.out)
  refine rename ?_
  intro V1 hV1
  have GN1 := Lib.hid (show Grow w V1 from grow_eq hV1 (GW.out.trans GN.out |>.set (by simp <;> omega) _))
  have X1 := Lib.hid (heap_eq hV1 (blk_set XX.out 1 _))
  have Y1 := Lib.hid (heap_eq hV1 (blk_far (blk_grow Y.out GN.out) (p := ⟨w.heap.size, 1, none⟩) (by simp) _))
  clear Y
  have O1 : Hid (V1.ownsRow (w.heap.size + 2) 83 13 (.slice B1 b.svcs.length e1) b.svcs.length (b.svcs.flatMap svcC)) := Lib.hid (hV1.out ▸ own_base (ownsRow_setCell_below HO.out (a := ⟨w.heap.size, 1, none⟩) (by have := SL.out; simp <;> omega) _) SL.out)
  replace SL := Lib.hid (show w.heap.size + 2 ≤ V1.heap.size by have := SL.out; have := GN.out.size; rw [hV1.out]; simp; omega)
  clear GN HO XX hV1 X
  have q0 := cell_of_row V1 _ 0 _ _ _ X1.out
  have q1 := cell_of_row V1 _ 1 _ _ _ X1.out
  have q2 := cell_of_row V1 _ 2 _ _ _ X1.out
  have q3 := cell_of_row V1 _ 3 _ _ _ X1.out
  have qf0 := frozen_of_row V1 _ 0 _ _ X1.out
  have qf1 := frozen_of_row V1 _ 1 _ _ X1.out
  have qf2 := frozen_of_row V1 _ 2 _ _ X1.out
  have qf3 := frozen_of_row V1 _ 3 _ _ X1.out
  go_upto_region 3 with (at_builtin; refine wpList_append_rows rfl _ _ 31 rfl 65 i2 _ Try.underlying31 hi2 hz2 hs2 hb2 rfl (by decide) cpyC_len cpyC_one (.slice none 0 0) [] b.cps rfl (World.ownsRow_nil V1 V1.heap.size _ _) A2 c2 rfl (R2.out _ GN1.out) (by unfold maxLen; simp; omega) (by simp; omega) (Nat.le_refl _) ?_; intro v' w1 ho hg1; obtain ⟨B2, e2, rfl, -, -⟩ := own_rows (xs := b.cps) cpyC_len rfl ho; have GN := Lib.hid (Grow.grown (Grow.refl V1) hg1 (fun k hk => by cases hk)); have HO := Lib.hid ho; clear ho hg1; have XX := Lib.hid (blk_grow X1.out GN.out); have p0 := cell_of_row w1 _ 0 _ _ _ XX.out; have p1 := cell_of_row w1 _ 1 _ _ _ XX.out; have p2 := cell_of_row w1 _ 2 _ _ _ XX.out; have p3 := cell_of_row w1 _ 3 _ _ _ XX.out; have pf0 := frozen_of_row w1 _ 0 _ _ XX.out; have pf1 := frozen_of_row w1 _ 1 _ _ XX.out; have pf2 := frozen_of_row w1 _ 2 _ _ XX.out; have pf3 := frozen_of_row w1 _ 3 _ _ XX.out; have Q1 := Lib.hid (own_grow O1.out GN.out))
  refine rename ?_
  intro V2 hV2
  have GN2 := Lib.hid (show Grow w V2 from grow_eq hV2 (GN1.out.trans GN.out |>.set (by simp <;> omega) _))
  have X2 := Lib.hid (heap_eq hV2 (blk_set XX.out 2 _))
  have Y2 := Lib.hid (heap_eq hV2 (blk_far (blk_grow Y1.out GN.out) (p := ⟨w.heap.size, 2, none⟩) (by simp) _))
  clear Y1
  have O2 : Hid (V2.ownsRow (w.heap.size + 2) 65 7 (.slice B2 b.cps.length e2) b.cps.length (b.cps.flatMap cpyC)) := Lib.hid (hV2.out ▸ own_base (ownsRow_setCell_below HO.out (a := ⟨w.heap.size, 2, none⟩) (by have := SL.out; simp <;> omega) _) SL.out)
  replace Q1 : Hid (V2.ownsRow (w.heap.size + 2) _ _ _ _ _) := Lib.hid (hV2.out ▸ ownsRow_setCell_below Q1.out (a := ⟨w.heap.size, 2, none⟩) (by simp <;> omega) _)
  clear O1
  have O1 := Q1
  clear Q1
  replace SL := Lib.hid (show w.heap.size + 2 ≤ V2.heap.size by have := SL.out; have := GN.out.size; rw [hV2.out]; simp; omega)
  clear GN HO XX hV2 X1
  have q0 := cell_of_row V2 _ 0 _ _ _ X2.out
  have q1 := cell_of_row V2 _ 1 _ _ _ X2.out
  have q2 := cell_of_row V2 _ 2 _ _ _ X2.out
  have q3 := cell_of_row V2 _ 3 _ _ _ X2.out
  have qf0 := frozen_of_row V2 _ 0 _ _ X2.out
  have qf1 := frozen_of_row V2 _ 1 _ _ X2.out
  have qf2 := frozen_of_row V2 _ 2 _ _ X2.out
  have qf3 := frozen_of_row V2 _ 3 _ _ X2.out
  go_upto_region 4 with (at_builtin; refine wpList_append_rows rfl _ _ 32 rfl 104 i3 _ Try.underlying32 hi3 hz3 hs3 hb3 rfl (by decide) brtC_len brtC_one (.slice none 0 0) [] b.brs rfl (World.ownsRow_nil V2 V2.heap.size _ _) A3 c3 rfl (R3.out _ GN2.out) (by unfold maxLen; simp; omega) (by simp; omega) (Nat.le_refl _) ?_; intro v' w1 ho hg1; obtain ⟨B3, e3, rfl, -, -⟩ := own_rows (xs := b.brs) brtC_len rfl ho; have GN := Lib.hid (Grow.grown (Grow.refl V2) hg1 (fun k hk => by cases hk)); have HO := Lib.hid ho; clear ho hg1; have XX := Lib.hid (blk_grow X2.out GN.out); have p0 := cell_of_row w1 _ 0 _ _ _ XX.out; have p1 := cell_of_row w1 _ 1 _ _ _ XX.out; have p2 := cell_of_row w1 _ 2 _ _ _ XX.out; have p3 := cell_of_row w1 _ 3 _ _ _ XX.out; have pf0 := frozen_of_row w1 _ 0 _ _ XX.out; have pf1 := frozen_of_row w1 _ 1 _ _ XX.out; have pf2 := frozen_of_row w1 _ 2 _ _ XX.out; have pf3 := frozen_of_row w1 _ 3 _ _ XX.out; have Q1 := Lib.hid (own_grow O1.out GN.out); have Q2 := Lib.hid (own_grow O2.out GN.out))
  refine rename ?_
  intro V3 hV3
  have GN3 := Lib.hid (show Grow w V3 from grow_eq hV3 (GN2.out.trans GN.out |>.set (by simp <;> omega) _))
  have X3 := Lib.hid (heap_eq hV3 (blk_set XX.out 3 _))
  have Y3 := Lib.hid (heap_eq hV3 (blk_far (blk_grow Y2.out GN.out) (p := ⟨w.heap.size, 3, none⟩) (by simp) _))
  clear Y2
  have O3 : Hid (V3.ownsRow (w.heap.size + 2) 104 2 (.slice B3 b.brs.length e3) b.brs.length (b.brs.flatMap brtC)) := Lib.hid (hV3.out ▸ own_base (ownsRow_setCell_below HO.out (a := ⟨w.heap.size, 3, none⟩) (by have := SL.out; simp <;> omega) _) SL.out)
  replace Q1 : Hid (V3.ownsRow (w.heap.size + 2) _ _ _ _ _) := Lib.hid (hV3.out ▸ ownsRow_setCell_below Q1.out (a := ⟨w.heap.size, 3, none⟩) (by simp <;> omega) _)
  clear O1
  have O1 := Q1
  clear Q1
  replace Q2 : Hid (V3.ownsRow (w.heap.size + 2) _ _ _ _ _) := Lib.hid (hV3.out ▸ ownsRow_setCell_below Q2.out (a := ⟨w.heap.size, 3, none⟩) (by simp <;> omega) _)
  clear O2
  have O2 := Q2
  clear Q2
  replace SL := Lib.hid (show w.heap.size + 2 ≤ V3.heap.size by have := SL.out; have := GN.out.size; rw [hV3.out]; simp; omega)
  clear GN HO XX hV3 X2
  have q0 := cell_of_row V3 _ 0 _ _ _ X3.out
  have q1 := cell_of_row V3 _ 1 _ _ _ X3.out
  have q2 := cell_of_row V3 _ 2 _ _ _ X3.out
  have q3 := cell_of_row V3 _ 3 _ _ _ X3.out
  have z0 := cell_of_row V3 _ 0 _ _ _ Y3.out
  have z1 := cell_of_row V3 _ 1 _ _ _ Y3.out
  have z2 := cell_of_row V3 _ 2 _ _ _ Y3.out
  have z3 := cell_of_row V3 _ 3 _ _ _ Y3.out
  have zf0 := frozen_of_row V3 _ 0 _ _ Y3.out
  have zf1 := frozen_of_row V3 _ 1 _ _ Y3.out
  have zf2 := frozen_of_row V3 _ 2 _ _ Y3.out
  have zf3 := frozen_of_row V3 _ 3 _ _ Y3.out
  go_wp2
  refine bodyPost_ret (v := .agg #[.int .i64 b.now, .slice B1 b.svcs.length e1, .slice B2 b.cps.length e2, .slice B3 b.brs.length e3]) (by simp [results, Try.results101, go_sem, z0, z1, z2, z3]) rfl ⟨_, rfl, ⟨_, _, _, rfl, ?_, ?_, ?_⟩, ?_⟩
  · refine own_base (b := w.heap.size + 2) ?_ (by omega)
    repeat (refine ownsRow_setCell_below ?_ (by simp <;> omega) _)
    exact O1.out
  · refine own_base (b := w.heap.size + 2) ?_ (by omega)
    repeat (refine ownsRow_setCell_below ?_ (by simp <;> omega) _)
    exact O2.out
  · refine own_base (b := w.heap.size + 2) ?_ (by omega)
    repeat (refine ownsRow_setCell_below ?_ (by simp <;> omega) _)
    exact O3.out
  · repeat (refine Grow.set ?_ (by simp <;> omega) _)
    exact GN3.out
end Go.Proofs.Ytnmknkdbeccmhaa
namespace Go.Proofs.Ytnmknkdbeccmhaa
open Go.RowKit
set_option linter.unusedSimpArgs false
set_option linter.unusedVariables false

theorem flat_set {α : Type} {n r : Nat} {cs : α → List Value} {x x' : α} {u : Value} (hn : ∀ x, (cs x).length = n) (hr : r < n) (hx' : cs x' = (cs x).set r u) : ∀ (xs : List α) (j : Nat), xs[j]? = some x → (xs.flatMap cs).set (j * n + r) u = (xs.set j x').flatMap cs
  | [], _, h => by simp at h
  | y :: ys, 0, h => by
    simp only [List.getElem?_cons_zero, Option.some.injEq] at h
    subst h
    rw [List.flatMap_cons, List.set_cons_zero, List.flatMap_cons, hx', Nat.zero_mul, Nat.zero_add, List.set_append_left _ _ (by rw [hn]; exact hr)]
  | y :: ys, j + 1, h => by
    rw [List.getElem?_cons_succ] at h
    have ih := flat_set hn hr hx' ys j h
    rw [List.flatMap_cons, List.set_cons_succ, List.flatMap_cons, List.set_append_right _ _ (by rw [hn, Nat.add_mul]; omega), ← ih, hn]
    congr 2
    rw [Nat.add_mul]; omega
theorem own_flat_set {α : Type} {base T n g N cap r j : Nat} {cs : α → List Value} {xs : List α} {x x' : α} {u : Value} {w : World} (hn : ∀ x, (cs x).length = n) (hr : r < n) (hx' : cs x' = (cs x).set r u) (hx : xs[j]? = some x)
    (h : w.ownsRow base T n (.slice (some ⟨g, 0, none⟩) N cap) xs.length (xs.flatMap cs)) :
    (w.setCell ⟨g, j * n + r, none⟩ u).ownsRow base T n (.slice (some ⟨g, 0, none⟩) N cap) (xs.set j x').length ((xs.set j x').flatMap cs) ∧ w.grownBy (w.setCell ⟨g, j * n + r, none⟩ u) (some g) := by
  have hN : N = xs.length := by
    rcases h.2 with ⟨h', _⟩ | ⟨g', cap', cur, h', _⟩
    · simp at h'
    · simp only [Value.slice.injEq] at h'
      exact h'.2.1
  subst hN
  obtain ⟨h1, h2⟩ := h.stored (j * n + r) u
  rw [flat_set hn hr hx' xs j hx] at h1
  rw [List.length_set]
  exact ⟨h1, h2⟩

structure Mine (base g : Nat) (w : World) (v1 v2 v3 : Value) (b : Book) : Prop where
  box : w.heap[g]? = some (.cells #[.int .i64 b.now, v1, v2, v3] 34 (0, 0))
  low : base ≤ g
  rows : Rows3 base w v1 v2 v3 b
section
variable {base g : Nat} {w w' : World} {v1 v2 v3 : Value} {b : Book}
theorem Mine.grow (h : Mine base g w v1 v2 v3 b) (hg : Grow w w') : Mine base g w' v1 v2 v3 b := ⟨blk_grow h.box hg, h.low, h.rows.grow hg⟩
theorem Mine.other {k : Nat} (h : Mine base g w v1 v2 v3 b) (hg : w.grownBy w' (some k)) (h0 : k ≠ g) (h1 : v1.ownBlock ≠ some k) (h2 : v2.ownBlock ≠ some k) (h3 : v3.ownBlock ≠ some k) : Mine base g w' v1 v2 v3 b :=
  ⟨(hg.block g (blk_lt h.box) (by simp; omega)).trans h.box, h.low, ⟨h.rows.r1.kept hg (.inr h1), h.rows.r2.kept hg (.inr h2), h.rows.r3.kept hg (.inr h3)⟩⟩
theorem Mine.ne (h : Mine base g w v1 v2 v3 b) {k : Nat} (hk : w.heap.size ≤ k) : k ≠ g ∧ v1.ownBlock ≠ some k ∧ v2.ownBlock ≠ some k ∧ v3.ownBlock ≠ some k := by
  refine ⟨fun e => ?_, fun e => ?_, fun e => ?_, fun e => ?_⟩
  · have := blk_lt h.box; omega
  · have := (h.rows.r1.lt k e).2; omega
  · have := (h.rows.r2.lt k e).2; omega
  · have := (h.rows.r3.lt k e).2; omega
theorem Mine.make (h : Rows3 base w v1 v2 v3 b) (hb : base ≤ w.heap.size) (hX : w'.heap[w.heap.size]? = some (.cells #[.int .i64 b.now, v1, v2, v3] 34 (0, 0))) (hK : Keep w.heap.size w w') : Mine base w.heap.size w' v1 v2 v3 b :=
  ⟨hX, hb, ⟨h.r1.kept hK (.inr fun e => by have := (h.r1.lt _ e).2; omega), h.r2.kept hK (.inr fun e => by have := (h.r2.lt _ e).2; omega), h.r3.kept hK (.inr fun e => by have := (h.r3.lt _ e).2; omega)⟩⟩
theorem three_own {v : Value} (h : OwnBook base w v b) : ∃ A1 c1 A2 c2 A3 c3, v = .agg #[.int .i64 b.now, .slice A1 b.svcs.length c1, .slice A2 b.cps.length c2, .slice A3 b.brs.length c3] ∧ Rows3 base w (.slice A1 b.svcs.length c1) (.slice A2 b.cps.length c2) (.slice A3 b.brs.length c3) b := by
  obtain ⟨v1, v2, v3, rfl, h1, h2, h3⟩ := h
  obtain ⟨A1, c1, rfl, -, -⟩ := own_rows svcC_len rfl h1
  obtain ⟨A2, c2, rfl, -, -⟩ := own_rows cpyC_len rfl h2
  obtain ⟨A3, c3, rfl, -, -⟩ := own_rows brtC_len rfl h3
  exact ⟨A1, c1, A2, c2, A3, c3, rfl, ⟨h1, h2, h3⟩⟩
theorem rows_of {A1 A2 A3 : Option Addr} {n1 n2 n3 c1 c2 c3 : Nat} (h : Rows3 base w (.slice A1 n1 c1) (.slice A2 n2 c2) (.slice A3 n3 c3) b) : (n1 = b.svcs.length ∧ n2 = b.cps.length ∧ n3 = b.brs.length) ∧ Rows 13 svcC w A1 b.svcs ∧ Rows 7 cpyC w A2 b.cps ∧ Rows 2 brtC w A3 b.brs := by
  obtain ⟨A1', c1', e1, -, r1⟩ := own_rows svcC_len rfl h.r1
  obtain ⟨A2', c2', e2, -, r2⟩ := own_rows cpyC_len rfl h.r2
  obtain ⟨A3', c3', e3, -, r3⟩ := own_rows brtC_len rfl h.r3
  cases e1; cases e2; cases e3
  exact ⟨⟨rfl, rfl, rfl⟩, r1, r2, r3⟩
theorem rows_base {base' : Nat} (h : Rows3 base w v1 v2 v3 b) (hb : base' ≤ base) : Rows3 base' w v1 v2 v3 b := ⟨own_base h.r1 hb, own_base h.r2 hb, own_base h.r3 hb⟩
/-- A store into a cell of a copy. -/
theorem Mine.put2 {g2 N cap j r : Nat} {c c' : Cpy} {u : Value} (h : Mine base g w v1 (.slice (some ⟨g2, 0, none⟩) N cap) v3 b) (hc : b.cps[j]? = some c) (hr : r < 7) (hc' : cpyC c' = (cpyC c).set r u) :
    Mine base g (w.setCell ⟨g2, j * 7 + r, none⟩ u) v1 (.slice (some ⟨g2, 0, none⟩) N cap) v3 { b with cps := b.cps.set j c' } ∧ w.grownBy (w.setCell ⟨g2, j * 7 + r, none⟩ u) (some g2) := by
  obtain ⟨h1, h2⟩ := own_flat_set cpyC_len hr hc' hc h.rows.r2
  refine ⟨⟨(h2.block g (blk_lt h.box) (heap_ne h.rows.r2 h.box (by decide))).trans h.box, h.low, ⟨h.rows.r1.kept h2 (own_ne h.rows.r2 h.rows.r1 (by decide)), h1, h.rows.r3.kept h2 (own_ne h.rows.r2 h.rows.r3 (by decide))⟩⟩, h2⟩
theorem Mine.put1 {g1 N cap j r : Nat} {c c' : Svc} {u : Value} (h : Mine base g w (.slice (some ⟨g1, 0, none⟩) N cap) v2 v3 b) (hc : b.svcs[j]? = some c) (hr : r < 13) (hc' : svcC c' = (svcC c).set r u) :
    Mine base g (w.setCell ⟨g1, j * 13 + r, none⟩ u) (.slice (some ⟨g1, 0, none⟩) N cap) v2 v3 { b with svcs := b.svcs.set j c' } ∧ w.grownBy (w.setCell ⟨g1, j * 13 + r, none⟩ u) (some g1) := by
  obtain ⟨h1, h2⟩ := own_flat_set svcC_len hr hc' hc h.rows.r1
  refine ⟨⟨(h2.block g (blk_lt h.box) (heap_ne h.rows.r1 h.box (by decide))).trans h.box, h.low, ⟨h1, h.rows.r2.kept h2 (own_ne h.rows.r1 h.rows.r2 (by decide)), h.rows.r3.kept h2 (own_ne h.rows.r1 h.rows.r3 (by decide))⟩⟩, h2⟩
/-- The rows of one's own start at the head of a block. -/
theorem own_head {α : Type} {T n N : Nat} {A : Option Addr} {c : Nat} {cs : α → List Value} {xs : List α} (h : w.ownsRow base T n (.slice A N c) xs.length (xs.flatMap cs)) (hx : xs ≠ []) : ∃ g2, A = some ⟨g2, 0, none⟩ ∧ base ≤ g2 ∧ g2 < w.heap.size ∧ ∀ w' : World, Grow w w' → ∀ i, w'.frozen? ⟨g2, i, none⟩ = false := by
  rcases h.2 with ⟨h', h0⟩ | ⟨g', cap', cur, h', hb, hg, _⟩
  · exact absurd (List.length_eq_zero_iff.1 h0) hx
  · simp only [Value.slice.injEq] at h'
    obtain ⟨rfl, rfl, rfl⟩ := h'
    exact ⟨g', rfl, hb, blk_lt hg, fun w' hg' i => (own_grow h hg').frozenAt i⟩
/-- A store into the box itself. -/
theorem Mine.setBox {i : Nat} {u u1 u2 u3 : Value} {b' : Book} (h : Mine base g w v1 v2 v3 b) (he : #[Value.int .i64 b.now, v1, v2, v3].setIfInBounds i u = #[.int .i64 b'.now, u1, u2, u3]) (hr : Rows3 base w u1 u2 u3 b') : Mine base g (w.setCell ⟨g, i, none⟩ u) u1 u2 u3 b' := by
  have hK : Keep g w (w.setCell ⟨g, i, none⟩ u) := Keep.set (Keep.refl g w) rfl u
  refine ⟨?_, h.low, ⟨hr.r1.kept hK ?_, hr.r2.kept hK ?_, hr.r3.kept hK ?_⟩⟩
  · rw [← he]; exact blk_set h.box i u
  all_goals
    refine .inr fun e => ?_
  · exact heap_ne hr.r1 h.box (by decide) e.symm
  · exact heap_ne hr.r2 h.box (by decide) e.symm
  · exact heap_ne hr.r3 h.box (by decide) e.symm
end
end Go.Proofs.Ytnmknkdbeccmhaa
namespace Go.Proofs.Ytnmknkdbeccmhaa
open Go.RowKit

/-- Does the code begin with region n? -/
def headIs (n : Nat) : Code → Bool
  | .region id _ _ => id == n
  | .seq a _ => headIs n a
  | _ => false
/-- The code from region n on. -/
def fromR (n : Nat) : Code → Code
  | .seq _ b => if headIs n b then b else fromR n b
  | _ => .skip
/-- A function's code from region n on. -/
noncomputable def tailOf (f : Func) (n : Nat) : Code := match f.body with | some c => fromR n c | none => .skip
def headOf : Code → Code
  | .seq a _ => a
  | c => c
def restOf : Code → Code
  | .seq _ b => b
  | _ => .skip
theorem wp_seq' {P : Program} {Q : Exit → Act → World → Prop} {a : Act} {w : World} {c : Code} (x y : Code) (h : c = .seq x y) (hx : x.wp P (Exit.then (y.wp P Q) Q) a w) : c.wp P Q a w := by
  subst h; exact wp_seq hx
/-- The body of the first loop of a code. -/
def loop1 : Code → Option Code
  | .loop c => some c
  | .seq a b => match loop1 a with
    | some c => some c
    | none => loop1 b
  | .block _ c => loop1 c
  | .scope c => loop1 c
  | .cond _ a b => match loop1 a with
    | some c => some c
    | none => loop1 b
  | _ => none
end Go.Proofs.Ytnmknkdbeccmhaa
