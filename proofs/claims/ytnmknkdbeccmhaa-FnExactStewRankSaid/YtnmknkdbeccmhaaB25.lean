/- The walks of the laws' work on lists of numbers, and of the marks on a book. -/
import Derived.Test.YtnmknkdbeccmhaaB24
import Derived.Test.YtnmknkdbeccmhaaB9
import Derived.Test.YtnmknkdbeccmhaaB19
namespace Go.Proofs.Ytnmknkdbeccmhaa
open Go.RowKit
set_option linter.unusedSimpArgs false
set_option linter.unusedVariables false

set_option maxRecDepth 100000 in
set_option maxHeartbeats 2000000 in
theorem eqIntS_c (xs : List Int) {A B : Option Addr} {c c' : Nat} (hn : xs.length ≤ 2000000) (w : World) (h : Rows 1 intC w A xs) (h' : Rows 1 intC w B xs) :
    Calls Try.prog 34 #[.slice A xs.length c, .slice B xs.length c'] w fun e w' => e = .returned (.bool true) ∧ Grow w w' := by
  have R := Lib.hid h
  have R' := Lib.hid h'
  clear h h'
  go_enter Try.func34, Try.ntmps34
  go_wp2
  refine rebase ?_
  intro W hW
  obtain rfl := hW.out
  go_loopw [5] (fun i wr => ∃ (k : Nat) (y : Ext), k ≤ xs.length ∧ i = .int .i64 k ∧ wr = wplus W y) (fun i _ => xs.length - (intOf i).toNat)
  case atStart => exact ⟨0, _, Nat.zero_le _, rfl, rfl⟩
  case round =>
    obtain ⟨k, y, hk, rfl, rfl⟩ := hrel
    by_cases hlt : k < xs.length
    · obtain ⟨x, hx⟩ := ex_at hlt
      obtain ⟨b1, o1, rfl, -⟩ := R.out.at_ hx
      obtain ⟨b2, o2, rfl, -⟩ := R'.out.at_ hx
      have f0 := cell_p (int_at R.out hx)
      have g0 := cell_p (int_at R'.out hx)
      clear hx
      have t2 : (0 : Int) ≤ (k : Int) := Int.natCast_nonneg _
      have t3 : (k : Int) < (xs.length : Int) := by omega
      go_wp2
      refine region_quiet ⟨_, rfl⟩ (by kernel_rfl) (by kernel_rfl) ?_
      repeat (first | go_big_quiet_step (fail) | quiet_step (fail))
      refine wpQuiet_nil ?_
      rintro w2 ⟨y2, rfl⟩
      go_wp2
      go_roundw
      case rel => exact ⟨k + 1, _, by omega, by go_num, rfl⟩
      case measure => simp [intOf]; omega
    · obtain rfl : k = xs.length := by omega
      go_wp2
      go_ret
      exact ⟨rfl, Grow.wplus _ _⟩
theorem own_one {base T g N cap : Nat} {Q rest : List Value} {z : Value} {w : World} {j : Nat} (hQ : Q.length = j) (hr : 1 ≤ rest.length) (h : w.ownsRow base T 1 (.slice (some ⟨g, 0, none⟩) N cap) N (Q ++ rest)) :
    (w.setCell ⟨g, j, none⟩ z).ownsRow base T 1 (.slice (some ⟨g, 0, none⟩) N cap) N (Q ++ ([z] ++ rest.drop 1)) ∧ w.grownBy (w.setCell ⟨g, j, none⟩ z) (some g) := by
  obtain ⟨h1, h2⟩ := own_sets [z] j _ w h
  exact ⟨own_sets_all (cs := [z]) hQ hr h1, h2⟩
set_option maxRecDepth 100000 in
set_option maxHeartbeats 2000000 in
theorem markIntS_c {base N : Nat} {v : Value} {L : List Value} (k : Int) (h0 : 0 ≤ k) (h1 : k + N ≤ 100000000000) (w : World) (h : w.ownsRow base 3 1 v N L) :
    Calls Try.prog 36 #[v, .int .i64 k] w fun e w' => e = .returned (.int .i64 (k + N)) ∧ w'.ownsRow base 3 1 v N ((marks (fun z => z) 1 N k).flatMap intC) ∧ w.grownBy w' v.ownBlock := by
  rcases h.2 with ⟨rfl, rfl⟩ | ⟨g, cap, cur, rfl, hb, hg, hc, hm, hz, ht⟩
  · go_enter Try.func36, Try.ntmps36
    go_wp2
    go_loop [1, 5] (fun q i => q = .int .i64 k ∧ i = .int .i64 0) (fun _ _ => 0)
    case atStart => exact ⟨rfl, rfl⟩
    case round =>
      obtain ⟨rfl, rfl⟩ := hrel
      go_wp2
      go_ret
      exact ⟨by simp, World.ownsRow_nil _ _ _ _, World.grownBy.refl _ _⟩
  · have HO := Lib.hid h
    have capb : cap ≤ 9223372036854775807 := by unfold maxLen at hm; omega
    clear h hg hz ht hm
    go_enter Try.func36, Try.ntmps36
    go_wp2
    go_loopw [1, 5] (fun q i wr => ∃ (j : Nat) (m : Int) (rest : List Value), j ≤ N ∧ i = .int .i64 j ∧ q = .int .i64 m ∧ m = k + 1 * j ∧ Hid (wr.ownsRow base 3 1 (.slice (some ⟨g, 0, none⟩) N cap) N ((marks (fun z => z) 1 j k).flatMap intC ++ rest)) ∧ Hid (w.grownBy wr (some g))) (fun _ i _ => N - (intOf i).toNat)
    case atStart => exact ⟨0, k, _, Nat.zero_le _, rfl, rfl, by simp, HO.out, World.grownBy.refl _ _⟩
    case round =>
      obtain ⟨j, m, rest, hj, rfl, rfl, hm, ho, hgr⟩ := hrel
      by_cases hlt : j < N
      · have j0 : (0 : Int) ≤ (j : Int) := Int.natCast_nonneg _
        have j1 : (j : Int) < (N : Int) := by omega
        have m0 : 0 ≤ m := by omega
        have m1 : m ≤ 100000000000 := by omega
        have HM := Lib.hid hm
        have HP := Lib.hid (show ((marks (fun z => z) 1 j k).flatMap intC).length = j by rw [flat_len intC_len, marks_len, Nat.mul_one])
        have HR := Lib.hid (show 1 ≤ rest.length by
          have h1 := ho.out.1
          rw [List.length_append, HP.out] at h1
          omega)
        clear hm
        obtain ⟨V, hV⟩ := own_V ho.out
        have e0 : wr.cell? ⟨g, j, none⟩ = some (V j) := hV _ (by omega)
        have hf : ∀ i, wr.frozen? ⟨g, i, none⟩ = false := fun i => (ho.out).frozenAt i
        clear hV
        obtain ⟨K1, K2⟩ := own_one (z := .int .i64 m) HP.out HR.out ho.out
        have HK1 := Lib.hid K1
        have HK2 := Lib.hid (grownBy_trans hgr.out K2)
        clear K1 K2
        go_wp2
        go_roundw
        case rel => exact ⟨j + 1, _, rest.drop 1, by omega, by go_num, rfl, by have := HM.out; omega, by unfold Hid; rw [show (marks (fun z => z) 1 (j + 1) k).flatMap intC ++ rest.drop 1 = (marks (fun z => z) 1 j k).flatMap intC ++ ([.int .i64 m] ++ rest.drop 1) by rw [marks_snoc, ← HM.out, List.flatMap_append]; simp [intC]]; exact HK1.out, HK2.out⟩
        case measure => simp [intOf]; omega
      · obtain rfl : j = N := by omega
        have HR := Lib.hid (show rest = [] by
          have h1 := ho.out.1
          rw [List.length_append, flat_len intC_len, marks_len] at h1
          exact List.eq_nil_of_length_eq_zero (by omega))
        go_wp2
        go_ret
        exact ⟨ret_int (by omega), by have := ho.out; rw [HR.out, List.append_nil] at this; exact this, hgr.out⟩
set_option maxRecDepth 100000 in
set_option maxHeartbeats 2000000 in
theorem heldIntS_c {N : Nat} {A : Option Addr} {c : Nat} (k : Int) (h0 : 0 ≤ k) (h1 : k + N ≤ 100000000000) (w : World) (h : Rows 1 intC w A (marks (fun z => z) 1 N k)) :
    Calls Try.prog 37 #[.slice A N c, .int .i64 k] w fun e w' => e = .returned (.int .i64 (k + N)) ∧ Grow w w' := by
  have R := Lib.hid h
  clear h
  go_enter Try.func37, Try.ntmps37
  go_wp2
  go_loop [1, 5] (fun q i => ∃ (j : Nat) (m : Int), j ≤ N ∧ i = .int .i64 j ∧ q = .int .i64 m ∧ m = k + 1 * j) (fun _ i => N - (intOf i).toNat)
  case atStart => exact ⟨0, k, Nat.zero_le _, rfl, rfl, by simp⟩
  case round =>
    obtain ⟨j, m, hj, rfl, rfl, hm⟩ := hrel
    by_cases hlt : j < N
    · have hx : (marks (fun z => z) 1 N k)[j]? = some m := by rw [marks_at _ _ hlt, hm]
      obtain ⟨b1, o1, rfl, -⟩ := R.out.at_ hx
      have f0 := int_at R.out hx
      have j0 : (0 : Int) ≤ (j : Int) := Int.natCast_nonneg _
      have j1 : (j : Int) < (N : Int) := by omega
      have m0 : 0 ≤ m := by omega
      have m1 : m ≤ 100000000000 := by omega
      have HM := Lib.hid hm
      clear hx hm
      go_wp2
      go_round
      case rel => exact ⟨j + 1, _, by omega, by go_num, rfl, by have := HM.out; omega⟩
      case measure => simp [intOf]; omega
    · obtain rfl : j = N := by omega
      go_wp2
      go_ret
      exact ⟨ret_int (by omega), Grow.refl _⟩

/-- What marks on three rows leave: all else is as it was. -/
structure Marked (v1 v2 v3 : Value) (w w' : World) : Prop where
  os : w'.os = w.os
  tape : w'.tape = w.tape
  output : w'.output = w.output
  size : w.heap.size ≤ w'.heap.size
  block : ∀ k, k < w.heap.size → some k ≠ v1.ownBlock → some k ≠ v2.ownBlock → some k ≠ v3.ownBlock → w'.heap[k]? = w.heap[k]?
theorem own_heap {base T n N : Nat} {v : Value} {L : List Value} {w : World} {k : Nat} (h : w.ownsRow base T n v N L) (hk : some k = v.ownBlock) : ∃ cur, w.heap[k]? = some (.cells cur T (0, 0)) := by
  rcases h.2 with ⟨rfl, -⟩ | ⟨g, cap, cur, rfl, -, hg, -⟩
  · cases hk
  · cases hk
    exact ⟨cur, hg⟩
theorem heap_ne {base T T' n N : Nat} {v : Value} {L : List Value} {w : World} {k : Nat} {cs : Array Value} {fr : Nat × Nat} (h : w.ownsRow base T n v N L) (hk : w.heap[k]? = some (.cells cs T' fr)) (hT : T' ≠ T) : some k ≠ v.ownBlock := by
  intro e
  obtain ⟨cur, hc⟩ := own_heap h e
  rw [hk] at hc
  simp only [Option.some.injEq, Obj.cells.injEq] at hc
  exact hT hc.2.1
theorem own_ne {b1 b2 T T' n n' N N' : Nat} {v v' : Value} {L L' : List Value} {w : World} (h : w.ownsRow b1 T n v N L) (h' : w.ownsRow b2 T' n' v' N' L') (hT : T' ≠ T) : v'.ownBlock = none ∨ v'.ownBlock ≠ v.ownBlock := by
  cases hq : v'.ownBlock with
  | none => exact .inl rfl
  | some k =>
    refine .inr fun e => ?_
    obtain ⟨cur, hc⟩ := own_heap h' hq.symm
    exact heap_ne h hc hT e
/-- A book of the call's own, row by row. -/
structure Rows3 (base : Nat) (w : World) (v1 v2 v3 : Value) (b : Book) : Prop where
  r1 : w.ownsRow base 83 13 v1 b.svcs.length (b.svcs.flatMap svcC)
  r2 : w.ownsRow base 65 7 v2 b.cps.length (b.cps.flatMap cpyC)
  r3 : w.ownsRow base 104 2 v3 b.brs.length (b.brs.flatMap brtC)
theorem Rows3.grow {base : Nat} {w w' : World} {v1 v2 v3 : Value} {b : Book} (h : Rows3 base w v1 v2 v3 b) (hg : Grow w w') : Rows3 base w' v1 v2 v3 b := ⟨own_grow h.r1 hg, own_grow h.r2 hg, own_grow h.r3 hg⟩
theorem Marked.blk {base : Nat} {v1 v2 v3 : Value} {b : Book} {w w' : World} (h : Marked v1 v2 v3 w w') (ho : Rows3 base w v1 v2 v3 b) {k T : Nat} {cs : Array Value} {fr : Nat × Nat} (hk : w.heap[k]? = some (.cells cs T fr)) (h1 : T ≠ 83) (h2 : T ≠ 65) (h3 : T ≠ 104) : w'.heap[k]? = some (.cells cs T fr) :=
  (h.block k (blk_lt hk) (heap_ne ho.r1 hk h1) (heap_ne ho.r2 hk h2) (heap_ne ho.r3 hk h3)).trans hk
theorem Marked.own {base base' : Nat} {v1 v2 v3 : Value} {b : Book} {w w' : World} (h : Marked v1 v2 v3 w w') (ho : Rows3 base w v1 v2 v3 b) {T n N : Nat} {v : Value} {L : List Value} (hv : w.ownsRow base' T n v N L) (h1 : T ≠ 83) (h2 : T ≠ 65) (h3 : T ≠ 104) : w'.ownsRow base' T n v N L := by
  refine ⟨hv.1, ?_⟩
  rcases hv.2 with h0 | ⟨g, cap, cur, e, hb, hg, r⟩
  · exact .inl h0
  · exact .inr ⟨g, cap, cur, e, hb, h.blk ho hg h1 h2 h3, r⟩
theorem Marked.grow {base : Nat} {v1 v2 v3 : Value} {b : Book} {w0 w w' : World} (h : Marked v1 v2 v3 w w') (hw : Grow w0 w) (ho : Rows3 base w v1 v2 v3 b) (hb : w0.heap.size ≤ base) : Grow w0 w' := by
  refine ⟨h.os.trans hw.os, h.tape.trans hw.tape, h.output.trans hw.output, Nat.le_trans hw.size h.size, fun k hk => ?_⟩
  have far : ∀ {T n N : Nat} {v : Value} {L : List Value}, w.ownsRow base T n v N L → some k ≠ v.ownBlock := fun hv e => by
    have := (hv.lt k e.symm).1
    omega
  exact (h.block k (Nat.lt_of_lt_of_le hk hw.size) (far ho.r1) (far ho.r2) (far ho.r3)).trans (hw.block k hk)
set_option maxRecDepth 100000 in
set_option maxHeartbeats 2000000 in
theorem markStewBook_c {base : Nat} {v1 v2 v3 : Value} (b : Book) (k : Int) (h0 : 0 ≤ k) (h1 : k + 13 * b.svcs.length + 7 * b.cps.length + 2 * b.brs.length ≤ 100000000000) (w : World) (h : Rows3 base w v1 v2 v3 b) :
    Calls Try.prog 35 #[.agg #[.int .i64 b.now, v1, v2, v3], .int .i64 k] w fun e w' => e = .returned (.int .i64 (k + 13 * b.svcs.length + 7 * b.cps.length + 2 * b.brs.length)) ∧
      Rows3 base w' v1 v2 v3 ⟨b.now, marks markSvc 13 b.svcs.length k, marks markCpy 7 b.cps.length (k + 13 * b.svcs.length), marks markBrt 2 b.brs.length (k + 13 * b.svcs.length + 7 * b.cps.length)⟩ ∧ Marked v1 v2 v3 w w' := by
  obtain ⟨A1, d1, e1, -, -⟩ := own_rows svcC_len rfl h.r1
  obtain ⟨A2, d2, e2, -, -⟩ := own_rows cpyC_len rfl h.r2
  obtain ⟨A3, d3, e3, -, -⟩ := own_rows brtC_len rfl h.r3
  subst e1 e2 e3
  have HB := Lib.hid (h.grow ((Grow.refl w).alloc (.cells #[.int .i64 b.now, .slice A1 b.svcs.length d1, .slice A2 b.cps.length d2, .slice A3 b.brs.length d3] 34)))
  have X := Lib.hid (heap_alloc_new w (.cells #[.int .i64 b.now, .slice A1 b.svcs.length d1, .slice A2 b.cps.length d2, .slice A3 b.brs.length d3] 34))
  have HA := Lib.hid (fun (o : Obj) => (⟨rfl, rfl, rfl, by simp, fun k hk _ => Below.heap_alloc _ _ _ hk⟩ : w.grownBy (w.alloc o) none))
  clear h
  go_enter Try.func35, Try.ntmps35
  go_wp2_with fail
  refine (markStewServiceS_c k h0 (by omega) _ HB.out.r1).mono ?_
  rintro e w1 ⟨rfl, ho1, hg1⟩
  have O12 := Lib.hid (HB.out.r2.kept hg1 (own_ne HB.out.r1 HB.out.r2 (by decide)))
  have O13 := Lib.hid (HB.out.r3.kept hg1 (own_ne HB.out.r1 HB.out.r3 (by decide)))
  have X1 := Lib.hid ((hg1.block _ (blk_lt X.out) (heap_ne HB.out.r1 X.out (by decide))).trans X.out)
  have O11 := Lib.hid ho1
  have T1 := Lib.hid hg1
  clear ho1 hg1
  have x0 := cell_of_row w1 _ 0 _ _ _ X1.out
  have x1 := cell_of_row w1 _ 1 _ _ _ X1.out
  have x2 := cell_of_row w1 _ 2 _ _ _ X1.out
  have x3 := cell_of_row w1 _ 3 _ _ _ X1.out
  go_wp2_with fail
  refine (markStewCopyS_c (k + 13 * b.svcs.length) (by omega) (by omega) _ O12.out).mono ?_
  rintro e w2 ⟨rfl, ho2, hg2⟩
  have O21 := Lib.hid (O11.out.kept hg2 (own_ne O12.out O11.out (by decide)))
  have O23 := Lib.hid (O13.out.kept hg2 (own_ne O12.out O13.out (by decide)))
  have X2 := Lib.hid ((hg2.block _ (blk_lt X1.out) (heap_ne O12.out X1.out (by decide))).trans X1.out)
  have O22 := Lib.hid ho2
  have T2 := Lib.hid hg2
  clear ho2 hg2 x0 x1 x2 x3
  have x0 := cell_of_row w2 _ 0 _ _ _ X2.out
  have x1 := cell_of_row w2 _ 1 _ _ _ X2.out
  have x2 := cell_of_row w2 _ 2 _ _ _ X2.out
  have x3 := cell_of_row w2 _ 3 _ _ _ X2.out
  go_wp2_with fail
  refine (markStewBerthS_c (k + 13 * b.svcs.length + 7 * b.cps.length) (by omega) (by omega) _ O23.out).mono ?_
  rintro e w3 ⟨rfl, ho3, hg3⟩
  have O31 := Lib.hid (O21.out.kept hg3 (own_ne O23.out O21.out (by decide)))
  have O32 := Lib.hid (O22.out.kept hg3 (own_ne O23.out O22.out (by decide)))
  have O33 := Lib.hid ho3
  have T3 := Lib.hid hg3
  clear ho3 hg3 x0 x1 x2 x3
  go_wp2
  go_ret
  refine ⟨rfl, ⟨by simpa [marks_len] using O31.out, by simpa [marks_len] using O32.out, by simpa [marks_len] using O33.out⟩, ⟨?_, ?_, ?_, ?_, ?_⟩⟩
  · exact T3.out.os.trans (T2.out.os.trans T1.out.os)
  · exact T3.out.tape.trans (T2.out.tape.trans T1.out.tape)
  · exact T3.out.output.trans (T2.out.output.trans T1.out.output)
  · have q1 := T1.out.size
    have q2 := T2.out.size
    have q3 := T3.out.size
    have q0 := (HA.out (.cells #[.int .i64 b.now, .slice A1 b.svcs.length d1, .slice A2 b.cps.length d2, .slice A3 b.brs.length d3] 34)).size
    omega
  · intro i hi n1 n2 n3
    have q1 := T1.out.size
    have q2 := T2.out.size
    have q0 := (HA.out (.cells #[.int .i64 b.now, .slice A1 b.svcs.length d1, .slice A2 b.cps.length d2, .slice A3 b.brs.length d3] 34)).size
    exact (T3.out.block i (by omega) n3).trans ((T2.out.block i (by omega) n2).trans ((T1.out.block i (by omega) n1).trans ((HA.out (.cells #[.int .i64 b.now, .slice A1 b.svcs.length d1, .slice A2 b.cps.length d2, .slice A3 b.brs.length d3] 34)).block i hi (by simp))))
end Go.Proofs.Ytnmknkdbeccmhaa
