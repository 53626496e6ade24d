/- The walks of slices.Insert of one element, at services, berths, copies. -/
import Derived.Test.YtnmknkdbeccmhaaAp24
import Derived.Test.YtnmknkdbeccmhaaAp1
namespace Go.Proofs.Ytnmknkdbeccmhaa
open Go.RowKit
set_option linter.unusedSimpArgs false
set_option linter.unusedVariables false
/-- A row of one's own comes back, in the old block or in a new one. -/
def RowBack (base T n : Nat) {α : Type} (cs : α → List Value) (xs : List α) (w : World) (r : Option Nat) (e : Ending) (w' : World) : Prop :=
  ∃ v', e = .returned v' ∧ w'.ownsRow base T n v' xs.length (xs.flatMap cs) ∧ w.grownBy w' r ∧ (v'.ownBlock = r ∨ ∀ k, v'.ownBlock = some k → w.heap.size ≤ k)
set_option maxRecDepth 100000 in
set_option maxHeartbeats 2000000 in
theorem InsertCpy_end (xs : List Cpy) (x : Cpy) {A : Option Addr} {c base h : Nat} {r : Option Nat} (w : World) (hr : Hid ((Value.slice A xs.length c).ownBlock = r)) (hb : base ≤ w.heap.size) (own : w.ownsRow base 65 7 (.slice A xs.length c) xs.length (xs.flatMap cpyC)) (hl : xs.length ≤ 1000000) (hx : BlkIs w h 65 (cpyC x)) :
    Calls Try.prog 136 #[.slice A xs.length c, .int .i64 (xs.length : Nat), .slice (some ⟨h, 0, none⟩) 1 1] w (RowBack base 65 7 cpyC (xs ++ [x]) w r) := by
  obtain ⟨i0, hi0, hz0, hs0, hb0⟩ := info_parts info_Cpy
  have hc := own_cap own
  have z0 : (0 : Int) ≤ (xs.length : Nat) := by omega
  have z1 : ((xs.length : Nat) : Int) ≤ (c : Nat) := by omega
  have O := Lib.hid own
  have HX := Lib.hid (Rows.one (n := 7) (cs := cpyC) hx)
  clear own hx
  go_enter Try.func136, Try.ntmps136
  go_wp2_with (at_builtin; refine wpList_append_at rfl _ _ 31 rfl 65 i0 _ Try.underlying31 hi0 hz0 hs0 hb0 rfl (by decide) cpyC_len cpyC_one (.slice A xs.length c) xs [x] rfl O.out _ 1 1 rfl rfl HX.out (by unfold maxLen; simp; omega) (by simp; omega) hb ?_; intro v' w1 ho hg1 hw1; rw [hr.out] at hg1 hw1; have HO := Lib.hid ho; have HG := Lib.hid hg1; have HW := Lib.hid hw1; clear ho hg1 hw1)
  all_goals
    go_ret
    exact ⟨_, rfl, HO.out, HG.out, HW.out.imp id fun e k hk => by rw [show v'.ownBlock = some k from hk] at e; cases e; exact Nat.le_refl _⟩
set_option maxRecDepth 100000 in
set_option maxHeartbeats 2000000 in
theorem InsertCpy_put (xs : List Cpy) (x : Cpy) {g c base h k N : Nat} (w : World) (hb : base ≤ w.heap.size) (own : w.ownsRow base 65 7 (.slice (some ⟨g, 0, none⟩) N c) N (xs.flatMap cpyC)) (hN : Hid (N = xs.length)) (hl : N ≤ 1000000) (hk : k < N) (hc : N + 1 ≤ c) (hx : BlkIs w h 65 (cpyC x)) (hne : h ≠ g) :
    Calls Try.prog 136 #[.slice (some ⟨g, 0, none⟩) N c, .int .i64 (k : Nat), .slice (some ⟨h, 0, none⟩) 1 1] w (RowBack base 65 7 cpyC (putIn k [x] xs) w (some g)) := by
  obtain ⟨i0, hi0, hz0, hs0, hb0⟩ := info_parts info_Cpy
  obtain ⟨-, hlen, hbg, -, hcm, L, hB, hL, hxs⟩ := own_open own
  have z0 : (0 : Int) ≤ (k : Nat) := by omega
  have z1 : ((k : Nat) : Int) ≤ (c : Nat) := by omega
  have z2 : ((k : Nat) : Int) ≤ (N : Nat) := by omega
  have z3 : ((k : Nat) : Int) < (N : Nat) := by omega
  have z4 : ¬ c = k := by omega
  have z5 : ((N : Nat) : Int) + 1 ≤ (c : Nat) := by omega
  have z6 : ¬ (k : Int) = (N : Nat) := by omega
  have HB := Lib.hid hB
  have HX := Lib.hid hx
  have hsz : ∀ w, (Go.sizeOf 65).run Try.prog w = .ok 7 w := fun w => by simp [sizeOf, typeInfo, hi0, hs0]
  have hov : (callFunc 174 #[.slice (some ⟨h, 0, none⟩) 1 1, .slice (some ⟨g, (k + 1) * 7, none⟩) (N - k) (c - (k + 1))]).run Try.prog w = .ok (.value (.bool false)) w := by
    rw [run_callFunc_extern (P := Try.prog) (f := 174) (fn := Try.f174) (by kernel_rfl) (by kernel_rfl) (by kernel_rfl) (by kernel_rfl) (e := Extern.SlicesOverlaps.overlaps #[31, 31] #[4]) (by kernel_rfl),
      Lib.run_overlaps_apart w 31 4 65 Try.underlying31 7 hsz ⟨h, 0, none⟩ ⟨g, (k + 1) * 7, none⟩ 1 1 (N - k) (c - (k + 1)) (by simpa using hne) 65 65 7 (c * 7) (by simp [World.shape?, show w.heap[h]? = _ from hx]; rfl) (by simp [World.shape?, show w.heap[g]? = _ from hB, hL]) (by omega) (hx.frozen _) (hx.frozen _)]
    rfl
  have hq : (N - k) * 7 = N * 7 - k * 7 := Nat.sub_mul ..
  have hkN : k * 7 ≤ N * 7 := Nat.mul_le_mul_right _ (by omega)
  have hcN : (N + 1) * 7 ≤ c * 7 := Nat.mul_le_mul_right _ hc
  have a1 : (k + 1) * 7 = k * 7 + 7 := Nat.succ_mul k 7
  have a2 : (N + 1) * 7 = N * 7 + 7 := Nat.succ_mul N 7
  obtain ⟨M1, hM1⟩ : ∃ M1, M1 = L.take (k * 7 + 7) ++ (L.drop (k * 7)).take ((N - k) * 7) ++ L.drop (k * 7 + 7 + (N - k) * 7) := ⟨_, rfl⟩
  obtain ⟨M2, hM2⟩ : ∃ M2, M2 = M1.take (k * 7) ++ cpyC x ++ M1.drop (k * 7 + 7) := ⟨_, rfl⟩
  obtain ⟨p1, p2, p3⟩ := put_lists L (xs.flatMap cpyC) (cpyC x) (k * 7) ((N - k) * 7) 7 (by omega) (by rw [← hxs]; congr 1; omega) (cpyC_len x) M1 M2 hM1 hM2
  rw [flat_put cpyC_len] at p3
  have hcut : ((L.drop (k * 7)).take ((N - k) * 7)).length = (N - k) * 7 := by rw [List.length_take, List.length_drop]; omega
  have c1 : ∀ y, (Builtin.copy_ #[31, 31] 3 #[.slice (some ⟨g, (k + 1) * 7, none⟩) (N - k) (c - (k + 1)), .slice (some ⟨g, k * 7, none⟩) (N + 1 - k) (c - k)]).run Try.prog (wplus w y) = .ok (goInt ((N - k : Nat) : Int)) ((wplus w y).setRow g M1.toArray) := fun y => by
    have hB' : BlkIs (wplus w y) g 65 L := blk_grow hB (Grow.wplus w y)
    have hmin : Nat.min (N + 1 - k) (N - k) = N - k := Nat.min_eq_right (by omega)
    have := run_copy_row (P := Try.prog) (cs := (L.drop (k * 7)).take ((N - k) * 7)) 31 3 65 i0 7 ((k + 1) * 7) (N - k) (c - (k + 1)) (N + 1 - k) (c - k) ⟨g, k * 7, none⟩ Try.underlying31 hi0 hs0 hB' (by rw [hcut, hmin]) (fun j v hv => by
      rw [add_lit, hB'.cell]
      rw [List.getElem?_take] at hv
      split at hv
      · rwa [List.getElem?_drop] at hv
      · cases hv) (by rw [hcut]; omega) (fun v hv => own_cells_one hxs cpyC_one (by omega) hv)
    rw [hmin, hcut, a1, ← hM1] at this
    rw [a1]
    exact this
  have c2 : ∀ y, (Builtin.copy_ #[31, 31] 3 #[.slice (some ⟨g, k * 7, none⟩) (N + 1 - k) (c - k), .slice (some ⟨h, 0, none⟩) 1 1]).run Try.prog ((wplus w y).setRow g M1.toArray) = .ok (goInt 1) (((wplus w y).setRow g M1.toArray).setRow g M2.toArray) := fun y => by
    have hB' : BlkIs ((wplus w y).setRow g M1.toArray) g 65 M1 := (show BlkIs (wplus w y) g 65 L from blk_grow hB (Grow.wplus w y)).setRow M1
    have hX' : BlkIs ((wplus w y).setRow g M1.toArray) h 65 (cpyC x) := (setRow_other _ g h _ hne).trans (blk_grow hx (Grow.wplus w y))
    have hmin : Nat.min 1 (N + 1 - k) = 1 := Nat.min_eq_left (by omega)
    have := run_copy_row (P := Try.prog) (cs := cpyC x) 31 3 65 i0 7 (k * 7) (N + 1 - k) (c - k) 1 1 ⟨h, 0, none⟩ Try.underlying31 hi0 hs0 hB' (by rw [cpyC_len, hmin]) (fun j v hv => by
      rw [add_lit, hX'.cell, Nat.zero_add]
      exact hv) (by rw [cpyC_len, p1, hL]; omega) (cpyC_one x)
    rw [hmin, cpyC_len, ← hM2] at this
    exact this
  have HE : ∀ y, Hid (RowBack base 65 7 cpyC (putIn k [x] xs) w (some g) (.returned (.slice (some ⟨g, 0, none⟩) (N + 1) c)) (((wplus w y).setRow g M1.toArray).setRow g M2.toArray)) := fun y => Lib.hid (by
    have hlen' : (putIn k [x] xs).length = N + 1 := by rw [putIn_len, ← hN.out]; rfl
    have hB' : BlkIs (((wplus w y).setRow g M1.toArray).setRow g M2.toArray) g 65 M2 := ((show BlkIs (wplus w y) g 65 L from blk_grow hB (Grow.wplus w y)).setRow M1).setRow M2
    refine ⟨_, rfl, ?_, ?_, .inl rfl⟩
    · rw [hlen']
      refine own_shut hB' hbg hc hcm (by rw [p2, hL]) ?_
      rw [← p3]; congr 1; omega
    · exact grownBy_trans (Keep.of (Grow.wplus w y)) (grownBy_trans (grown_setRow _ g _) (grown_setRow _ g _)))
  clear own hB hx hlen hxs hM1 hM2 p1 p2 p3 hcut hq hkN hcN a1 a2
  have z7 : IntKind.i64.wrap ((k : Int) + 1) = (k : Int) + 1 := IntWalk.i64_in _ (by omega)
  have z8 : (0 : Int) ≤ (k : Int) + 1 := by omega
  have z9 : (k : Int) + 1 ≤ (N : Int) + 1 := by omega
  have z10 : ¬ c = k + 1 := by omega
  have z11 : (k : Int) ≤ (N : Int) + 1 := by omega
  have e1 : ((k : Int) + 1).toNat = k + 1 := by omega
  have e2 : ((N : Int) + 1).toNat = N + 1 := by omega
  go_enter Try.func136, Try.ntmps136
  go_wp2
  refine at_plus ?_
  refine region_quiet_tail 8 ⟨_, rfl⟩ (by kernel_rfl) (by kernel_rfl) ?_
  repeat (first | go_big_quiet_step (fail) | quiet_step (fail))
  refine wpQuiet_nil ?_
  rintro w2 ⟨y, rfl⟩
  have c1 := c1 y
  have c2 := c2 y
  go_wp2
  go_ret
  exact (HE y).out
set_option maxRecDepth 100000 in
set_option maxHeartbeats 2000000 in
theorem InsertCpy_new (xs : List Cpy) (x : Cpy) {g base h k N : Nat} (w : World) (hb : base ≤ w.heap.size) (own : w.ownsRow base 65 7 (.slice (some ⟨g, 0, none⟩) N N) N (xs.flatMap cpyC)) (hN : Hid (N = xs.length)) (hl : N ≤ 1000000) (hk : k < N) (hx : BlkIs w h 65 (cpyC x)) (hne : h ≠ g) :
    Calls Try.prog 136 #[.slice (some ⟨g, 0, none⟩) N N, .int .i64 (k : Nat), .slice (some ⟨h, 0, none⟩) 1 1] w (RowBack base 65 7 cpyC (putIn k [x] xs) w (some g)) := by
  obtain ⟨i0, hi0, hz0, hs0, hb0⟩ := info_parts info_Cpy
  obtain ⟨-, hlen, hbg, -, hcm, L, hB, hL, hxs⟩ := own_open own
  have hLx : L = xs.flatMap cpyC := by rw [← hxs, List.take_of_length_le (by omega)]
  have hgl := hB.lt
  have hhl := hx.lt
  have z0 : (0 : Int) ≤ (k : Nat) := by omega
  have z2 : ((k : Nat) : Int) ≤ (N : Nat) := by omega
  have z3 : ((k : Nat) : Int) < (N : Nat) := by omega
  have z4 : ¬ N = k := by omega
  have z6 : ¬ (k : Int) = (N : Nat) := by omega
  have hq : (N - k) * 7 = N * 7 - k * 7 := Nat.sub_mul ..
  have hq2 : (N + 1 - k) * 7 = N * 7 + 7 - k * 7 := by rw [Nat.sub_mul, Nat.succ_mul]
  have hkN : k * 7 ≤ N * 7 := Nat.mul_le_mul_right _ (by omega)
  have a1 : (k + 1) * 7 = k * 7 + 7 := Nat.succ_mul k 7
  have a2 : (N + 1) * 7 = N * 7 + 7 := Nat.succ_mul N 7
  have hold : (Builtin.firstCells i0.size k (.slice (some ⟨g, 0, none⟩) k N)).run Try.prog w.drew = .ok (L.take (k * 7)).toArray w.drew := by
    have hl' : (L.take (k * 7)).length = k * 7 := by rw [List.length_take]; omega
    have := run_loadCells_list (P := Try.prog) w.drew ⟨g, 0, none⟩ (L.take (k * 7)) (fun j v hv => by
      rw [add_lit, Nat.zero_add]
      rw [List.getElem?_take] at hv
      split at hv
      · exact (hB.cell j).trans hv
      · cases hv)
    rw [hl'] at this
    rw [hs0]
    exact this
  have hkk : (N : Int) + 1 - (k : Int) = ((N + 1 - k : Nat) : Int) := by omega
  have hik : k + (N + 1 - k) = N + 1 := by omega
  obtain ⟨z, hz1, hzs⟩ : ∃ z, i0.zero = some z ∧ (z.cells.size = 7 ∧ ∀ k, k < z.cells.size → (z.cells[k]!).oneCell' = true) := ⟨_, hz0, rfl, by decide⟩
  obtain ⟨G, hG⟩ : ∃ G, G = grownCap w (N + 1) N 65 := ⟨_, rfl⟩
  have hGn : N + 1 ≤ G := by rw [hG]; exact grownCap_ge w _ _ _
  have hGm : G ≤ maxLen := by rw [hG]; exact grownCap_le_maxLen w (N + 1) N 65 (by unfold maxLen; omega)
  have hGc : (N + 1) * 7 ≤ G * 7 := Nat.mul_le_mul_right _ hGn
  obtain ⟨Z, hZ⟩ : ∃ Z, Z = (Builtin.zeroCells z.cells (N + 1 - k)).toList ++ (Builtin.zeroCells z.cells (G - (N + 1))).toList := ⟨_, rfl⟩
  have hZl : Z.length = (N + 1 - k) * 7 + (G - (N + 1)) * 7 := by rw [hZ, List.length_append, zero_len, zero_len, hzs.1]
  have hG2 : (G - (N + 1)) * 7 = G * 7 - (N + 1) * 7 := Nat.sub_mul ..
  have hGp : G ≤ 9223372036854775807 := by unfold maxLen at hGm; omega
  obtain ⟨W1, hW1⟩ : ∃ W1, W1 = w.drew.alloc (.cells (L.take (k * 7) ++ Z).toArray 65) := ⟨_, rfl⟩
  have hrz : ∀ ty, (Builtin.append_ #[31, 3] ty #[.slice (some ⟨g, 0, none⟩) k N, .int .i64 ((N : Int) + 1 - (k : Int))]).run Try.prog w = .ok (.slice (some ⟨w.heap.size, 0, none⟩) (N + 1) G) W1 := fun ty => by
    have h := Lib.run_append_grow_zeros (P := Try.prog) w 31 3 ty 65 i0 z .i64 .i64 Try.underlying31 Try.underlying3 hi0 hz1 (some ⟨g, 0, none⟩) k N (L.take (k * 7)) hold (N + 1 - k) (by omega) (by rw [hs0]; omega) (by omega) (by omega) (by rw [hb0]; omega) (by rw [hb0, hik]; exact growslice_fits (by omega) (by omega))
    rw [hik, ← hG] at h
    rw [hkk, hW1]
    refine h.trans ?_
    congr 4
    rw [hZ]
    apply Array.ext'
    simp
  have hrow : BlkIs W1 w.heap.size 65 (L.take (k * 7) ++ Z) := by rw [hW1]; exact heap_alloc_new w.drew _
  have GW1 : Grow w W1 := by rw [hW1]; exact ((Grow.refl w).drew).alloc _
  obtain ⟨M1, hM1⟩ : ∃ M1, M1 = (L.take (k * 7) ++ Z).take (k * 7) ++ cpyC x ++ (L.take (k * 7) ++ Z).drop (k * 7 + 7) := ⟨_, rfl⟩
  obtain ⟨M2, hM2⟩ : ∃ M2, M2 = M1.take (k * 7 + 7) ++ L.drop (k * 7) ++ M1.drop (k * 7 + 7 + (N - k) * 7) := ⟨_, rfl⟩
  obtain ⟨p1, p2, p3⟩ := put_new L (cpyC x) Z (k * 7) ((N - k) * 7) 7 (by rw [hL]; omega) (cpyC_len x) (by rw [hZl]; omega) M1 M2 hM1 hM2
  rw [hLx, flat_put cpyC_len] at p3
  have hrl : (L.take (k * 7) ++ Z).length = G * 7 := by rw [List.length_append, List.length_take, hZl]; omega
  have m1l : M1.length = G * 7 := by rw [p1, hZl]; omega
  have m2l : M2.length = G * 7 := by rw [p2, hZl]; omega
  have hcut : (L.drop (k * 7)).length = (N - k) * 7 := by rw [List.length_drop, hL]; omega
  have c1 : (Builtin.copy_ #[31, 31] 3 #[.slice (some ⟨w.heap.size, k * 7, none⟩) (N + 1 - k) (G - k), .slice (some ⟨h, 0, none⟩) 1 1]).run Try.prog W1 = .ok (goInt 1) (W1.setRow w.heap.size M1.toArray) := by
    have hX' : BlkIs W1 h 65 (cpyC x) := blk_grow hx GW1
    have hmin : Nat.min 1 (N + 1 - k) = 1 := Nat.min_eq_left (by omega)
    have := run_copy_row (P := Try.prog) (cs := cpyC x) 31 3 65 i0 7 (k * 7) (N + 1 - k) (G - k) 1 1 ⟨h, 0, none⟩ Try.underlying31 hi0 hs0 hrow (by rw [cpyC_len, hmin]) (fun j v hv => by
      rw [add_lit, hX'.cell, Nat.zero_add]
      exact hv) (by rw [cpyC_len, hrl]; omega) (cpyC_one x)
    rw [hmin, cpyC_len, ← hM1] at this
    exact this
  obtain ⟨W2, hW2⟩ : ∃ W2, W2 = W1.setRow w.heap.size M1.toArray := ⟨_, rfl⟩
  rw [← hW2] at c1
  have hB2 : BlkIs W2 w.heap.size 65 M1 := by rw [hW2]; exact hrow.setRow M1
  have GW2 : Grow w W2 := by rw [hW2]; exact Grow.grown GW1 (grown_setRow _ _ _) fun q hq => by cases hq; exact Nat.le_refl _
  have hL2 : BlkIs W2 g 65 L := blk_grow hB GW2
  have c2 : ∀ y, (Builtin.copy_ #[31, 31] 3 #[.slice (some ⟨w.heap.size, (k + 1) * 7, none⟩) (N - k) (G - (k + 1)), .slice (some ⟨g, k * 7, none⟩) (N - k) (N - k)]).run Try.prog (wplus W2 y) = .ok (goInt ((N - k : Nat) : Int)) ((wplus W2 y).setRow w.heap.size M2.toArray) := fun y => by
    have hB' : BlkIs (wplus W2 y) w.heap.size 65 M1 := blk_grow hB2 (Grow.wplus W2 y)
    have hL' : BlkIs (wplus W2 y) g 65 L := blk_grow hL2 (Grow.wplus W2 y)
    have hmin : Nat.min (N - k) (N - k) = N - k := Nat.min_self _
    have := run_copy_row (P := Try.prog) (cs := L.drop (k * 7)) 31 3 65 i0 7 ((k + 1) * 7) (N - k) (G - (k + 1)) (N - k) (N - k) ⟨g, k * 7, none⟩ Try.underlying31 hi0 hs0 hB' (by rw [hcut, hmin]) (fun j v hv => by
      rw [add_lit, hL'.cell]
      rwa [List.getElem?_drop] at hv) (by rw [hcut, m1l]; omega) (fun v hv => own_cells_one (p := k * 7) (q := (N - k) * 7) hxs cpyC_one (by omega) (by rw [List.take_of_length_le (by omega)]; exact hv))
    rw [hmin, hcut, a1, ← hM2] at this
    rw [a1]
    exact this
  have HE : ∀ y, Hid (RowBack base 65 7 cpyC (putIn k [x] xs) w (some g) (.returned (.slice (some ⟨w.heap.size, 0, none⟩) (N + 1) G)) ((wplus W2 y).setRow w.heap.size M2.toArray)) := fun y => Lib.hid (by
    have hlen' : (putIn k [x] xs).length = N + 1 := by rw [putIn_len, ← hN.out]; rfl
    have hB' : BlkIs ((wplus W2 y).setRow w.heap.size M2.toArray) w.heap.size 65 M2 := (show BlkIs (wplus W2 y) w.heap.size 65 M1 from blk_grow hB2 (Grow.wplus W2 y)).setRow M2
    refine ⟨_, rfl, ?_, ?_, .inr fun q hq => by cases hq; exact Nat.le_refl _⟩
    · rw [hlen']
      refine own_shut hB' hb hGn hGm m2l ?_
      rw [← p3]; congr 1; omega
    · exact Keep.of (Grow.grown (GW2.trans (Grow.wplus W2 y)) (grown_setRow _ _ _) fun q hq => by cases hq; exact Nat.le_refl _))
  have z5 : ¬ G = k := by omega
  have z7 : IntKind.i64.wrap ((k : Int) + 1) = (k : Int) + 1 := IntWalk.i64_in _ (by omega)
  have z8 : (0 : Int) ≤ (k : Int) + 1 := by omega
  have z9 : (k : Int) + 1 ≤ (N : Int) + 1 := by omega
  have z10 : ¬ G = k + 1 := by omega
  have z11 : (k : Int) ≤ (N : Int) + 1 := by omega
  have e1 : ((k : Int) + 1).toNat = k + 1 := by omega
  have e2 : ((N : Int) + 1).toNat = N + 1 := by omega
  clear own hB hx hlen hxs hM1 hM2 p1 p2 p3 hcut hq hq2 hkN a1 a2 hLx hG hGn hGm hGc hZ hZl hG2 hW1 hW2 hrow GW1 hB2 GW2 hL2 hrl m1l m2l hold hkk hik hz1 hzs
  go_enter Try.func136, Try.ntmps136
  go_wp2_with (at_builtin; refine wpList_append_run rfl _ _ _ rfl rfl rfl (hrz _) ?_)
  refine at_plus ?_
  refine region_quiet_tail 8 ⟨_, rfl⟩ (by kernel_rfl) (by kernel_rfl) ?_
  repeat (first | go_big_quiet_step (fail) | quiet_step (fail))
  refine wpQuiet_nil ?_
  rintro w2 ⟨y, rfl⟩
  have c2 := c2 y
  go_wp2
  go_ret
  exact (HE y).out
theorem InsertCpy_c (xs : List Cpy) (x : Cpy) (v : Value) {base h k : Nat} (w : World) (hb : base ≤ w.heap.size) (own : w.ownsRow base 65 7 v xs.length (xs.flatMap cpyC)) (hl : xs.length ≤ 1000000) (hk : k ≤ xs.length) (hx : BlkIs w h 65 (cpyC x)) (hne : v.ownBlock ≠ some h) :
    Calls Try.prog 136 #[v, .int .i64 (k : Nat), .slice (some ⟨h, 0, none⟩) 1 1] w (RowBack base 65 7 cpyC (putIn k [x] xs) w v.ownBlock) := by
  obtain ⟨A, c, rfl, -, -⟩ := own_rows cpyC_len rfl own
  by_cases he : k = xs.length
  · subst he
    have := InsertCpy_end xs x w (Lib.hid rfl) hb own hl hx
    simpa [putIn] using this
  · obtain ⟨g, rfl, -, -, -⟩ := own_head own (by rintro rfl; simp at hk he; omega)
    have hc := own_cap own
    have hne' : h ≠ g := fun e => hne (by simp [Value.ownBlock, e])
    by_cases hcc : xs.length = c
    · have hc' := Lib.hid hcc
      rw [← hcc] at own ⊢
      exact InsertCpy_new xs x w hb own (Lib.hid rfl) hl (by omega) hx hne'
    · exact InsertCpy_put xs x w hb own (Lib.hid rfl) hl (by omega) (by omega) hx hne'
set_option maxRecDepth 100000 in
set_option maxHeartbeats 2000000 in
theorem InsertSvc_end (xs : List Svc) (x : Svc) {A : Option Addr} {c base h : Nat} {r : Option Nat} (w : World) (hr : Hid ((Value.slice A xs.length c).ownBlock = r)) (hb : base ≤ w.heap.size) (own : w.ownsRow base 83 13 (.slice A xs.length c) xs.length (xs.flatMap svcC)) (hl : xs.length ≤ 1000000) (hx : BlkIs w h 83 (svcC x)) :
    Calls Try.prog 144 #[.slice A xs.length c, .int .i64 (xs.length : Nat), .slice (some ⟨h, 0, none⟩) 1 1] w (RowBack base 83 13 svcC (xs ++ [x]) w r) := by
  obtain ⟨i0, hi0, hz0, hs0, hb0⟩ := info_parts info_Svc
  have hc := own_cap own
  have z0 : (0 : Int) ≤ (xs.length : Nat) := by omega
  have z1 : ((xs.length : Nat) : Int) ≤ (c : Nat) := by omega
  have O := Lib.hid own
  have HX := Lib.hid (Rows.one (n := 13) (cs := svcC) hx)
  clear own hx
  go_enter Try.func144, Try.ntmps144
  go_wp2_with (at_builtin; refine wpList_append_at rfl _ _ 30 rfl 83 i0 _ Try.underlying30 hi0 hz0 hs0 hb0 rfl (by decide) svcC_len svcC_one (.slice A xs.length c) xs [x] rfl O.out _ 1 1 rfl rfl HX.out (by unfold maxLen; simp; omega) (by simp; omega) hb ?_; intro v' w1 ho hg1 hw1; rw [hr.out] at hg1 hw1; have HO := Lib.hid ho; have HG := Lib.hid hg1; have HW := Lib.hid hw1; clear ho hg1 hw1)
  all_goals
    go_ret
    exact ⟨_, rfl, HO.out, HG.out, HW.out.imp id fun e k hk => by rw [show v'.ownBlock = some k from hk] at e; cases e; exact Nat.le_refl _⟩
set_option maxRecDepth 100000 in
set_option maxHeartbeats 2000000 in
theorem InsertSvc_put (xs : List Svc) (x : Svc) {g c base h k N : Nat} (w : World) (hb : base ≤ w.heap.size) (own : w.ownsRow base 83 13 (.slice (some ⟨g, 0, none⟩) N c) N (xs.flatMap svcC)) (hN : Hid (N = xs.length)) (hl : N ≤ 1000000) (hk : k < N) (hc : N + 1 ≤ c) (hx : BlkIs w h 83 (svcC x)) (hne : h ≠ g) :
    Calls Try.prog 144 #[.slice (some ⟨g, 0, none⟩) N c, .int .i64 (k : Nat), .slice (some ⟨h, 0, none⟩) 1 1] w (RowBack base 83 13 svcC (putIn k [x] xs) w (some g)) := by
  obtain ⟨i0, hi0, hz0, hs0, hb0⟩ := info_parts info_Svc
  obtain ⟨-, hlen, hbg, -, hcm, L, hB, hL, hxs⟩ := own_open own
  have z0 : (0 : Int) ≤ (k : Nat) := by omega
  have z1 : ((k : Nat) : Int) ≤ (c : Nat) := by omega
  have z2 : ((k : Nat) : Int) ≤ (N : Nat) := by omega
  have z3 : ((k : Nat) : Int) < (N : Nat) := by omega
  have z4 : ¬ c = k := by omega
  have z5 : ((N : Nat) : Int) + 1 ≤ (c : Nat) := by omega
  have z6 : ¬ (k : Int) = (N : Nat) := by omega
  have HB := Lib.hid hB
  have HX := Lib.hid hx
  have hsz : ∀ w, (Go.sizeOf 83).run Try.prog w = .ok 13 w := fun w => by simp [sizeOf, typeInfo, hi0, hs0]
  have hov : (callFunc 177 #[.slice (some ⟨h, 0, none⟩) 1 1, .slice (some ⟨g, (k + 1) * 13, none⟩) (N - k) (c - (k + 1))]).run Try.prog w = .ok (.value (.bool false)) w := by
    rw [run_callFunc_extern (P := Try.prog) (f := 177) (fn := Try.f177) (by kernel_rfl) (by kernel_rfl) (by kernel_rfl) (by kernel_rfl) (e := Extern.SlicesOverlaps.overlaps #[30, 30] #[4]) (by kernel_rfl),
      Lib.run_overlaps_apart w 30 4 83 Try.underlying30 13 hsz ⟨h, 0, none⟩ ⟨g, (k + 1) * 13, none⟩ 1 1 (N - k) (c - (k + 1)) (by simpa using hne) 83 83 13 (c * 13) (by simp [World.shape?, show w.heap[h]? = _ from hx]; rfl) (by simp [World.shape?, show w.heap[g]? = _ from hB, hL]) (by omega) (hx.frozen _) (hx.frozen _)]
    rfl
  have hq : (N - k) * 13 = N * 13 - k * 13 := Nat.sub_mul ..
  have hkN : k * 13 ≤ N * 13 := Nat.mul_le_mul_right _ (by omega)
  have hcN : (N + 1) * 13 ≤ c * 13 := Nat.mul_le_mul_right _ hc
  have a1 : (k + 1) * 13 = k * 13 + 13 := Nat.succ_mul k 13
  have a2 : (N + 1) * 13 = N * 13 + 13 := Nat.succ_mul N 13
  obtain ⟨M1, hM1⟩ : ∃ M1, M1 = L.take (k * 13 + 13) ++ (L.drop (k * 13)).take ((N - k) * 13) ++ L.drop (k * 13 + 13 + (N - k) * 13) := ⟨_, rfl⟩
  obtain ⟨M2, hM2⟩ : ∃ M2, M2 = M1.take (k * 13) ++ svcC x ++ M1.drop (k * 13 + 13) := ⟨_, rfl⟩
  obtain ⟨p1, p2, p3⟩ := put_lists L (xs.flatMap svcC) (svcC x) (k * 13) ((N - k) * 13) 13 (by omega) (by rw [← hxs]; congr 1; omega) (svcC_len x) M1 M2 hM1 hM2
  rw [flat_put svcC_len] at p3
  have hcut : ((L.drop (k * 13)).take ((N - k) * 13)).length = (N - k) * 13 := by rw [List.length_take, List.length_drop]; omega
  have c1 : ∀ y, (Builtin.copy_ #[30, 30] 3 #[.slice (some ⟨g, (k + 1) * 13, none⟩) (N - k) (c - (k + 1)), .slice (some ⟨g, k * 13, none⟩) (N + 1 - k) (c - k)]).run Try.prog (wplus w y) = .ok (goInt ((N - k : Nat) : Int)) ((wplus w y).setRow g M1.toArray) := fun y => by
    have hB' : BlkIs (wplus w y) g 83 L := blk_grow hB (Grow.wplus w y)
    have hmin : Nat.min (N + 1 - k) (N - k) = N - k := Nat.min_eq_right (by omega)
    have := run_copy_row (P := Try.prog) (cs := (L.drop (k * 13)).take ((N - k) * 13)) 30 3 83 i0 13 ((k + 1) * 13) (N - k) (c - (k + 1)) (N + 1 - k) (c - k) ⟨g, k * 13, none⟩ Try.underlying30 hi0 hs0 hB' (by rw [hcut, hmin]) (fun j v hv => by
      rw [add_lit, hB'.cell]
      rw [List.getElem?_take] at hv
      split at hv
      · rwa [List.getElem?_drop] at hv
      · cases hv) (by rw [hcut]; omega) (fun v hv => own_cells_one hxs svcC_one (by omega) hv)
    rw [hmin, hcut, a1, ← hM1] at this
    rw [a1]
    exact this
  have c2 : ∀ y, (Builtin.copy_ #[30, 30] 3 #[.slice (some ⟨g, k * 13, none⟩) (N + 1 - k) (c - k), .slice (some ⟨h, 0, none⟩) 1 1]).run Try.prog ((wplus w y).setRow g M1.toArray) = .ok (goInt 1) (((wplus w y).setRow g M1.toArray).setRow g M2.toArray) := fun y => by
    have hB' : BlkIs ((wplus w y).setRow g M1.toArray) g 83 M1 := (show BlkIs (wplus w y) g 83 L from blk_grow hB (Grow.wplus w y)).setRow M1
    have hX' : BlkIs ((wplus w y).setRow g M1.toArray) h 83 (svcC x) := (setRow_other _ g h _ hne).trans (blk_grow hx (Grow.wplus w y))
    have hmin : Nat.min 1 (N + 1 - k) = 1 := Nat.min_eq_left (by omega)
    have := run_copy_row (P := Try.prog) (cs := svcC x) 30 3 83 i0 13 (k * 13) (N + 1 - k) (c - k) 1 1 ⟨h, 0, none⟩ Try.underlying30 hi0 hs0 hB' (by rw [svcC_len, hmin]) (fun j v hv => by
      rw [add_lit, hX'.cell, Nat.zero_add]
      exact hv) (by rw [svcC_len, p1, hL]; omega) (svcC_one x)
    rw [hmin, svcC_len, ← hM2] at this
    exact this
  have HE : ∀ y, Hid (RowBack base 83 13 svcC (putIn k [x] xs) w (some g) (.returned (.slice (some ⟨g, 0, none⟩) (N + 1) c)) (((wplus w y).setRow g M1.toArray).setRow g M2.toArray)) := fun y => Lib.hid (by
    have hlen' : (putIn k [x] xs).length = N + 1 := by rw [putIn_len, ← hN.out]; rfl
    have hB' : BlkIs (((wplus w y).setRow g M1.toArray).setRow g M2.toArray) g 83 M2 := ((show BlkIs (wplus w y) g 83 L from blk_grow hB (Grow.wplus w y)).setRow M1).setRow M2
    refine ⟨_, rfl, ?_, ?_, .inl rfl⟩
    · rw [hlen']
      refine own_shut hB' hbg hc hcm (by rw [p2, hL]) ?_
      rw [← p3]; congr 1; omega
    · exact grownBy_trans (Keep.of (Grow.wplus w y)) (grownBy_trans (grown_setRow _ g _) (grown_setRow _ g _)))
  clear own hB hx hlen hxs hM1 hM2 p1 p2 p3 hcut hq hkN hcN a1 a2
  have z7 : IntKind.i64.wrap ((k : Int) + 1) = (k : Int) + 1 := IntWalk.i64_in _ (by omega)
  have z8 : (0 : Int) ≤ (k : Int) + 1 := by omega
  have z9 : (k : Int) + 1 ≤ (N : Int) + 1 := by omega
  have z10 : ¬ c = k + 1 := by omega
  have z11 : (k : Int) ≤ (N : Int) + 1 := by omega
  have e1 : ((k : Int) + 1).toNat = k + 1 := by omega
  have e2 : ((N : Int) + 1).toNat = N + 1 := by omega
  go_enter Try.func144, Try.ntmps144
  go_wp2
  refine at_plus ?_
  refine region_quiet_tail 8 ⟨_, rfl⟩ (by kernel_rfl) (by kernel_rfl) ?_
  repeat (first | go_big_quiet_step (fail) | quiet_step (fail))
  refine wpQuiet_nil ?_
  rintro w2 ⟨y, rfl⟩
  have c1 := c1 y
  have c2 := c2 y
  go_wp2
  go_ret
  exact (HE y).out
set_option maxRecDepth 100000 in
set_option maxHeartbeats 2000000 in
theorem InsertSvc_new (xs : List Svc) (x : Svc) {g base h k N : Nat} (w : World) (hb : base ≤ w.heap.size) (own : w.ownsRow base 83 13 (.slice (some ⟨g, 0, none⟩) N N) N (xs.flatMap svcC)) (hN : Hid (N = xs.length)) (hl : N ≤ 1000000) (hk : k < N) (hx : BlkIs w h 83 (svcC x)) (hne : h ≠ g) :
    Calls Try.prog 144 #[.slice (some ⟨g, 0, none⟩) N N, .int .i64 (k : Nat), .slice (some ⟨h, 0, none⟩) 1 1] w (RowBack base 83 13 svcC (putIn k [x] xs) w (some g)) := by
  obtain ⟨i0, hi0, hz0, hs0, hb0⟩ := info_parts info_Svc
  obtain ⟨-, hlen, hbg, -, hcm, L, hB, hL, hxs⟩ := own_open own
  have hLx : L = xs.flatMap svcC := by rw [← hxs, List.take_of_length_le (by omega)]
  have hgl := hB.lt
  have hhl := hx.lt
  have z0 : (0 : Int) ≤ (k : Nat) := by omega
  have z2 : ((k : Nat) : Int) ≤ (N : Nat) := by omega
  have z3 : ((k : Nat) : Int) < (N : Nat) := by omega
  have z4 : ¬ N = k := by omega
  have z6 : ¬ (k : Int) = (N : Nat) := by omega
  have hq : (N - k) * 13 = N * 13 - k * 13 := Nat.sub_mul ..
  have hq2 : (N + 1 - k) * 13 = N * 13 + 13 - k * 13 := by rw [Nat.sub_mul, Nat.succ_mul]
  have hkN : k * 13 ≤ N * 13 := Nat.mul_le_mul_right _ (by omega)
  have a1 : (k + 1) * 13 = k * 13 + 13 := Nat.succ_mul k 13
  have a2 : (N + 1) * 13 = N * 13 + 13 := Nat.succ_mul N 13
  have hold : (Builtin.firstCells i0.size k (.slice (some ⟨g, 0, none⟩) k N)).run Try.prog w.drew = .ok (L.take (k * 13)).toArray w.drew := by
    have hl' : (L.take (k * 13)).length = k * 13 := by rw [List.length_take]; omega
    have := run_loadCells_list (P := Try.prog) w.drew ⟨g, 0, none⟩ (L.take (k * 13)) (fun j v hv => by
      rw [add_lit, Nat.zero_add]
      rw [List.getElem?_take] at hv
      split at hv
      · exact (hB.cell j).trans hv
      · cases hv)
    rw [hl'] at this
    rw [hs0]
    exact this
  have hkk : (N : Int) + 1 - (k : Int) = ((N + 1 - k : Nat) : Int) := by omega
  have hik : k + (N + 1 - k) = N + 1 := by omega
  obtain ⟨z, hz1, hzs⟩ : ∃ z, i0.zero = some z ∧ (z.cells.size = 13 ∧ ∀ k, k < z.cells.size → (z.cells[k]!).oneCell' = true) := ⟨_, hz0, rfl, by decide⟩
  obtain ⟨G, hG⟩ : ∃ G, G = grownCap w (N + 1) N 83 := ⟨_, rfl⟩
  have hGn : N + 1 ≤ G := by rw [hG]; exact grownCap_ge w _ _ _
  have hGm : G ≤ maxLen := by rw [hG]; exact grownCap_le_maxLen w (N + 1) N 83 (by unfold maxLen; omega)
  have hGc : (N + 1) * 13 ≤ G * 13 := Nat.mul_le_mul_right _ hGn
  obtain ⟨Z, hZ⟩ : ∃ Z, Z = (Builtin.zeroCells z.cells (N + 1 - k)).toList ++ (Builtin.zeroCells z.cells (G - (N + 1))).toList := ⟨_, rfl⟩
  have hZl : Z.length = (N + 1 - k) * 13 + (G - (N + 1)) * 13 := by rw [hZ, List.length_append, zero_len, zero_len, hzs.1]
  have hG2 : (G - (N + 1)) * 13 = G * 13 - (N + 1) * 13 := Nat.sub_mul ..
  have hGp : G ≤ 9223372036854775807 := by unfold maxLen at hGm; omega
  obtain ⟨W1, hW1⟩ : ∃ W1, W1 = w.drew.alloc (.cells (L.take (k * 13) ++ Z).toArray 83) := ⟨_, rfl⟩
  have hrz : ∀ ty, (Builtin.append_ #[30, 3] ty #[.slice (some ⟨g, 0, none⟩) k N, .int .i64 ((N : Int) + 1 - (k : Int))]).run Try.prog w = .ok (.slice (some ⟨w.heap.size, 0, none⟩) (N + 1) G) W1 := fun ty => by
    have h := Lib.run_append_grow_zeros (P := Try.prog) w 30 3 ty 83 i0 z .i64 .i64 Try.underlying30 Try.underlying3 hi0 hz1 (some ⟨g, 0, none⟩) k N (L.take (k * 13)) hold (N + 1 - k) (by omega) (by rw [hs0]; omega) (by omega) (by omega) (by rw [hb0]; omega) (by rw [hb0, hik]; exact growslice_fits (by omega) (by omega))
    rw [hik, ← hG] at h
    rw [hkk, hW1]
    refine h.trans ?_
    congr 4
    rw [hZ]
    apply Array.ext'
    simp
  have hrow : BlkIs W1 w.heap.size 83 (L.take (k * 13) ++ Z) := by rw [hW1]; exact heap_alloc_new w.drew _
  have GW1 : Grow w W1 := by rw [hW1]; exact ((Grow.refl w).drew).alloc _
  obtain ⟨M1, hM1⟩ : ∃ M1, M1 = (L.take (k * 13) ++ Z).take (k * 13) ++ svcC x ++ (L.take (k * 13) ++ Z).drop (k * 13 + 13) := ⟨_, rfl⟩
  obtain ⟨M2, hM2⟩ : ∃ M2, M2 = M1.take (k * 13 + 13) ++ L.drop (k * 13) ++ M1.drop (k * 13 + 13 + (N - k) * 13) := ⟨_, rfl⟩
  obtain ⟨p1, p2, p3⟩ := put_new L (svcC x) Z (k * 13) ((N - k) * 13) 13 (by rw [hL]; omega) (svcC_len x) (by rw [hZl]; omega) M1 M2 hM1 hM2
  rw [hLx, flat_put svcC_len] at p3
  have hrl : (L.take (k * 13) ++ Z).length = G * 13 := by rw [List.length_append, List.length_take, hZl]; omega
  have m1l : M1.length = G * 13 := by rw [p1, hZl]; omega
  have m2l : M2.length = G * 13 := by rw [p2, hZl]; omega
  have hcut : (L.drop (k * 13)).length = (N - k) * 13 := by rw [List.length_drop, hL]; omega
  have c1 : (Builtin.copy_ #[30, 30] 3 #[.slice (some ⟨w.heap.size, k * 13, none⟩) (N + 1 - k) (G - k), .slice (some ⟨h, 0, none⟩) 1 1]).run Try.prog W1 = .ok (goInt 1) (W1.setRow w.heap.size M1.toArray) := by
    have hX' : BlkIs W1 h 83 (svcC x) := blk_grow hx GW1
    have hmin : Nat.min 1 (N + 1 - k) = 1 := Nat.min_eq_left (by omega)
    have := run_copy_row (P := Try.prog) (cs := svcC x) 30 3 83 i0 13 (k * 13) (N + 1 - k) (G - k) 1 1 ⟨h, 0, none⟩ Try.underlying30 hi0 hs0 hrow (by rw [svcC_len, hmin]) (fun j v hv => by
      rw [add_lit, hX'.cell, Nat.zero_add]
      exact hv) (by rw [svcC_len, hrl]; omega) (svcC_one x)
    rw [hmin, svcC_len, ← hM1] at this
    exact this
  obtain ⟨W2, hW2⟩ : ∃ W2, W2 = W1.setRow w.heap.size M1.toArray := ⟨_, rfl⟩
  rw [← hW2] at c1
  have hB2 : BlkIs W2 w.heap.size 83 M1 := by rw [hW2]; exact hrow.setRow M1
  have GW2 : Grow w W2 := by rw [hW2]; exact Grow.grown GW1 (grown_setRow _ _ _) fun q hq => by cases hq; exact Nat.le_refl _
  have hL2 : BlkIs W2 g 83 L := blk_grow hB GW2
  have c2 : ∀ y, (Builtin.copy_ #[30, 30] 3 #[.slice (some ⟨w.heap.size, (k + 1) * 13, none⟩) (N - k) (G - (k + 1)), .slice (some ⟨g, k * 13, none⟩) (N - k) (N - k)]).run Try.prog (wplus W2 y) = .ok (goInt ((N - k : Nat) : Int)) ((wplus W2 y).setRow w.heap.size M2.toArray) := fun y => by
    have hB' : BlkIs (wplus W2 y) w.heap.size 83 M1 := blk_grow hB2 (Grow.wplus W2 y)
    have hL' : BlkIs (wplus W2 y) g 83 L := blk_grow hL2 (Grow.wplus W2 y)
    have hmin : Nat.min (N - k) (N - k) = N - k := Nat.min_self _
    have := run_copy_row (P := Try.prog) (cs := L.drop (k * 13)) 30 3 83 i0 13 ((k + 1) * 13) (N - k) (G - (k + 1)) (N - k) (N - k) ⟨g, k * 13, none⟩ Try.underlying30 hi0 hs0 hB' (by rw [hcut, hmin]) (fun j v hv => by
      rw [add_lit, hL'.cell]
      rwa [List.getElem?_drop] at hv) (by rw [hcut, m1l]; omega) (fun v hv => own_cells_one (p := k * 13) (q := (N - k) * 13) hxs svcC_one (by omega) (by rw [List.take_of_length_le (by omega)]; exact hv))
    rw [hmin, hcut, a1, ← hM2] at this
    rw [a1]
    exact this
  have HE : ∀ y, Hid (RowBack base 83 13 svcC (putIn k [x] xs) w (some g) (.returned (.slice (some ⟨w.heap.size, 0, none⟩) (N + 1) G)) ((wplus W2 y).setRow w.heap.size M2.toArray)) := fun y => Lib.hid (by
    have hlen' : (putIn k [x] xs).length = N + 1 := by rw [putIn_len, ← hN.out]; rfl
    have hB' : BlkIs ((wplus W2 y).setRow w.heap.size M2.toArray) w.heap.size 83 M2 := (show BlkIs (wplus W2 y) w.heap.size 83 M1 from blk_grow hB2 (Grow.wplus W2 y)).setRow M2
    refine ⟨_, rfl, ?_, ?_, .inr fun q hq => by cases hq; exact Nat.le_refl _⟩
    · rw [hlen']
      refine own_shut hB' hb hGn hGm m2l ?_
      rw [← p3]; congr 1; omega
    · exact Keep.of (Grow.grown (GW2.trans (Grow.wplus W2 y)) (grown_setRow _ _ _) fun q hq => by cases hq; exact Nat.le_refl _))
  have z5 : ¬ G = k := by omega
  have z7 : IntKind.i64.wrap ((k : Int) + 1) = (k : Int) + 1 := IntWalk.i64_in _ (by omega)
  have z8 : (0 : Int) ≤ (k : Int) + 1 := by omega
  have z9 : (k : Int) + 1 ≤ (N : Int) + 1 := by omega
  have z10 : ¬ G = k + 1 := by omega
  have z11 : (k : Int) ≤ (N : Int) + 1 := by omega
  have e1 : ((k : Int) + 1).toNat = k + 1 := by omega
  have e2 : ((N : Int) + 1).toNat = N + 1 := by omega
  clear own hB hx hlen hxs hM1 hM2 p1 p2 p3 hcut hq hq2 hkN a1 a2 hLx hG hGn hGm hGc hZ hZl hG2 hW1 hW2 hrow GW1 hB2 GW2 hL2 hrl m1l m2l hold hkk hik hz1 hzs
  go_enter Try.func144, Try.ntmps144
  go_wp2_with (at_builtin; refine wpList_append_run rfl _ _ _ rfl rfl rfl (hrz _) ?_)
  refine at_plus ?_
  refine region_quiet_tail 8 ⟨_, rfl⟩ (by kernel_rfl) (by kernel_rfl) ?_
  repeat (first | go_big_quiet_step (fail) | quiet_step (fail))
  refine wpQuiet_nil ?_
  rintro w2 ⟨y, rfl⟩
  have c2 := c2 y
  go_wp2
  go_ret
  exact (HE y).out
theorem InsertSvc_c (xs : List Svc) (x : Svc) (v : Value) {base h k : Nat} (w : World) (hb : base ≤ w.heap.size) (own : w.ownsRow base 83 13 v xs.length (xs.flatMap svcC)) (hl : xs.length ≤ 1000000) (hk : k ≤ xs.length) (hx : BlkIs w h 83 (svcC x)) (hne : v.ownBlock ≠ some h) :
    Calls Try.prog 144 #[v, .int .i64 (k : Nat), .slice (some ⟨h, 0, none⟩) 1 1] w (RowBack base 83 13 svcC (putIn k [x] xs) w v.ownBlock) := by
  obtain ⟨A, c, rfl, -, -⟩ := own_rows svcC_len rfl own
  by_cases he : k = xs.length
  · subst he
    have := InsertSvc_end xs x w (Lib.hid rfl) hb own hl hx
    simpa [putIn] using this
  · obtain ⟨g, rfl, -, -, -⟩ := own_head own (by rintro rfl; simp at hk he; omega)
    have hc := own_cap own
    have hne' : h ≠ g := fun e => hne (by simp [Value.ownBlock, e])
    by_cases hcc : xs.length = c
    · have hc' := Lib.hid hcc
      rw [← hcc] at own ⊢
      exact InsertSvc_new xs x w hb own (Lib.hid rfl) hl (by omega) hx hne'
    · exact InsertSvc_put xs x w hb own (Lib.hid rfl) hl (by omega) (by omega) hx hne'
set_option maxRecDepth 100000 in
set_option maxHeartbeats 2000000 in
theorem InsertBrt_end (xs : List Brt) (x : Brt) {A : Option Addr} {c base h : Nat} {r : Option Nat} (w : World) (hr : Hid ((Value.slice A xs.length c).ownBlock = r)) (hb : base ≤ w.heap.size) (own : w.ownsRow base 104 2 (.slice A xs.length c) xs.length (xs.flatMap brtC)) (hl : xs.length ≤ 1000000) (hx : BlkIs w h 104 (brtC x)) :
    Calls Try.prog 151 #[.slice A xs.length c, .int .i64 (xs.length : Nat), .slice (some ⟨h, 0, none⟩) 1 1] w (RowBack base 104 2 brtC (xs ++ [x]) w r) := by
  obtain ⟨i0, hi0, hz0, hs0, hb0⟩ := info_parts info_Brt
  have hc := own_cap own
  have z0 : (0 : Int) ≤ (xs.length : Nat) := by omega
  have z1 : ((xs.length : Nat) : Int) ≤ (c : Nat) := by omega
  have O := Lib.hid own
  have HX := Lib.hid (Rows.one (n := 2) (cs := brtC) hx)
  clear own hx
  go_enter Try.func151, Try.ntmps151
  go_wp2_with (at_builtin; refine wpList_append_at rfl _ _ 32 rfl 104 i0 _ Try.underlying32 hi0 hz0 hs0 hb0 rfl (by decide) brtC_len brtC_one (.slice A xs.length c) xs [x] rfl O.out _ 1 1 rfl rfl HX.out (by unfold maxLen; simp; omega) (by simp; omega) hb ?_; intro v' w1 ho hg1 hw1; rw [hr.out] at hg1 hw1; have HO := Lib.hid ho; have HG := Lib.hid hg1; have HW := Lib.hid hw1; clear ho hg1 hw1)
  all_goals
    go_ret
    exact ⟨_, rfl, HO.out, HG.out, HW.out.imp id fun e k hk => by rw [show v'.ownBlock = some k from hk] at e; cases e; exact Nat.le_refl _⟩
set_option maxRecDepth 100000 in
set_option maxHeartbeats 2000000 in
theorem InsertBrt_put (xs : List Brt) (x : Brt) {g c base h k N : Nat} (w : World) (hb : base ≤ w.heap.size) (own : w.ownsRow base 104 2 (.slice (some ⟨g, 0, none⟩) N c) N (xs.flatMap brtC)) (hN : Hid (N = xs.length)) (hl : N ≤ 1000000) (hk : k < N) (hc : N + 1 ≤ c) (hx : BlkIs w h 104 (brtC x)) (hne : h ≠ g) :
    Calls Try.prog 151 #[.slice (some ⟨g, 0, none⟩) N c, .int .i64 (k : Nat), .slice (some ⟨h, 0, none⟩) 1 1] w (RowBack base 104 2 brtC (putIn k [x] xs) w (some g)) := by
  obtain ⟨i0, hi0, hz0, hs0, hb0⟩ := info_parts info_Brt
  obtain ⟨-, hlen, hbg, -, hcm, L, hB, hL, hxs⟩ := own_open own
  have z0 : (0 : Int) ≤ (k : Nat) := by omega
  have z1 : ((k : Nat) : Int) ≤ (c : Nat) := by omega
  have z2 : ((k : Nat) : Int) ≤ (N : Nat) := by omega
  have z3 : ((k : Nat) : Int) < (N : Nat) := by omega
  have z4 : ¬ c = k := by omega
  have z5 : ((N : Nat) : Int) + 1 ≤ (c : Nat) := by omega
  have z6 : ¬ (k : Int) = (N : Nat) := by omega
  have HB := Lib.hid hB
  have HX := Lib.hid hx
  have hsz : ∀ w, (Go.sizeOf 104).run Try.prog w = .ok 2 w := fun w => by simp [sizeOf, typeInfo, hi0, hs0]
  have hov : (callFunc 180 #[.slice (some ⟨h, 0, none⟩) 1 1, .slice (some ⟨g, (k + 1) * 2, none⟩) (N - k) (c - (k + 1))]).run Try.prog w = .ok (.value (.bool false)) w := by
    rw [run_callFunc_extern (P := Try.prog) (f := 180) (fn := Try.f180) (by kernel_rfl) (by kernel_rfl) (by kernel_rfl) (by kernel_rfl) (e := Extern.SlicesOverlaps.overlaps #[32, 32] #[4]) (by kernel_rfl),
      Lib.run_overlaps_apart w 32 4 104 Try.underlying32 2 hsz ⟨h, 0, none⟩ ⟨g, (k + 1) * 2, none⟩ 1 1 (N - k) (c - (k + 1)) (by simpa using hne) 104 104 2 (c * 2) (by simp [World.shape?, show w.heap[h]? = _ from hx]; rfl) (by simp [World.shape?, show w.heap[g]? = _ from hB, hL]) (by omega) (hx.frozen _) (hx.frozen _)]
    rfl
  have hq : (N - k) * 2 = N * 2 - k * 2 := Nat.sub_mul ..
  have hkN : k * 2 ≤ N * 2 := Nat.mul_le_mul_right _ (by omega)
  have hcN : (N + 1) * 2 ≤ c * 2 := Nat.mul_le_mul_right _ hc
  have a1 : (k + 1) * 2 = k * 2 + 2 := Nat.succ_mul k 2
  have a2 : (N + 1) * 2 = N * 2 + 2 := Nat.succ_mul N 2
  obtain ⟨M1, hM1⟩ : ∃ M1, M1 = L.take (k * 2 + 2) ++ (L.drop (k * 2)).take ((N - k) * 2) ++ L.drop (k * 2 + 2 + (N - k) * 2) := ⟨_, rfl⟩
  obtain ⟨M2, hM2⟩ : ∃ M2, M2 = M1.take (k * 2) ++ brtC x ++ M1.drop (k * 2 + 2) := ⟨_, rfl⟩
  obtain ⟨p1, p2, p3⟩ := put_lists L (xs.flatMap brtC) (brtC x) (k * 2) ((N - k) * 2) 2 (by omega) (by rw [← hxs]; congr 1; omega) (brtC_len x) M1 M2 hM1 hM2
  rw [flat_put brtC_len] at p3
  have hcut : ((L.drop (k * 2)).take ((N - k) * 2)).length = (N - k) * 2 := by rw [List.length_take, List.length_drop]; omega
  have c1 : ∀ y, (Builtin.copy_ #[32, 32] 3 #[.slice (some ⟨g, (k + 1) * 2, none⟩) (N - k) (c - (k + 1)), .slice (some ⟨g, k * 2, none⟩) (N + 1 - k) (c - k)]).run Try.prog (wplus w y) = .ok (goInt ((N - k : Nat) : Int)) ((wplus w y).setRow g M1.toArray) := fun y => by
    have hB' : BlkIs (wplus w y) g 104 L := blk_grow hB (Grow.wplus w y)
    have hmin : Nat.min (N + 1 - k) (N - k) = N - k := Nat.min_eq_right (by omega)
    have := run_copy_row (P := Try.prog) (cs := (L.drop (k * 2)).take ((N - k) * 2)) 32 3 104 i0 2 ((k + 1) * 2) (N - k) (c - (k + 1)) (N + 1 - k) (c - k) ⟨g, k * 2, none⟩ Try.underlying32 hi0 hs0 hB' (by rw [hcut, hmin]) (fun j v hv => by
      rw [add_lit, hB'.cell]
      rw [List.getElem?_take] at hv
      split at hv
      · rwa [List.getElem?_drop] at hv
      · cases hv) (by rw [hcut]; omega) (fun v hv => own_cells_one hxs brtC_one (by omega) hv)
    rw [hmin, hcut, a1, ← hM1] at this
    rw [a1]
    exact this
  have c2 : ∀ y, (Builtin.copy_ #[32, 32] 3 #[.slice (some ⟨g, k * 2, none⟩) (N + 1 - k) (c - k), .slice (some ⟨h, 0, none⟩) 1 1]).run Try.prog ((wplus w y).setRow g M1.toArray) = .ok (goInt 1) (((wplus w y).setRow g M1.toArray).setRow g M2.toArray) := fun y => by
    have hB' : BlkIs ((wplus w y).setRow g M1.toArray) g 104 M1 := (show BlkIs (wplus w y) g 104 L from blk_grow hB (Grow.wplus w y)).setRow M1
    have hX' : BlkIs ((wplus w y).setRow g M1.toArray) h 104 (brtC x) := (setRow_other _ g h _ hne).trans (blk_grow hx (Grow.wplus w y))
    have hmin : Nat.min 1 (N + 1 - k) = 1 := Nat.min_eq_left (by omega)
    have := run_copy_row (P := Try.prog) (cs := brtC x) 32 3 104 i0 2 (k * 2) (N + 1 - k) (c - k) 1 1 ⟨h, 0, none⟩ Try.underlying32 hi0 hs0 hB' (by rw [brtC_len, hmin]) (fun j v hv => by
      rw [add_lit, hX'.cell, Nat.zero_add]
      exact hv) (by rw [brtC_len, p1, hL]; omega) (brtC_one x)
    rw [hmin, brtC_len, ← hM2] at this
    exact this
  have HE : ∀ y, Hid (RowBack base 104 2 brtC (putIn k [x] xs) w (some g) (.returned (.slice (some ⟨g, 0, none⟩) (N + 1) c)) (((wplus w y).setRow g M1.toArray).setRow g M2.toArray)) := fun y => Lib.hid (by
    have hlen' : (putIn k [x] xs).length = N + 1 := by rw [putIn_len, ← hN.out]; rfl
    have hB' : BlkIs (((wplus w y).setRow g M1.toArray).setRow g M2.toArray) g 104 M2 := ((show BlkIs (wplus w y) g 104 L from blk_grow hB (Grow.wplus w y)).setRow M1).setRow M2
    refine ⟨_, rfl, ?_, ?_, .inl rfl⟩
    · rw [hlen']
      refine own_shut hB' hbg hc hcm (by rw [p2, hL]) ?_
      rw [← p3]; congr 1; omega
    · exact grownBy_trans (Keep.of (Grow.wplus w y)) (grownBy_trans (grown_setRow _ g _) (grown_setRow _ g _)))
  clear own hB hx hlen hxs hM1 hM2 p1 p2 p3 hcut hq hkN hcN a1 a2
  have z7 : IntKind.i64.wrap ((k : Int) + 1) = (k : Int) + 1 := IntWalk.i64_in _ (by omega)
  have z8 : (0 : Int) ≤ (k : Int) + 1 := by omega
  have z9 : (k : Int) + 1 ≤ (N : Int) + 1 := by omega
  have z10 : ¬ c = k + 1 := by omega
  have z11 : (k : Int) ≤ (N : Int) + 1 := by omega
  have e1 : ((k : Int) + 1).toNat = k + 1 := by omega
  have e2 : ((N : Int) + 1).toNat = N + 1 := by omega
  go_enter Try.func151, Try.ntmps151
  go_wp2
  refine at_plus ?_
  refine region_quiet_tail 8 ⟨_, rfl⟩ (by kernel_rfl) (by kernel_rfl) ?_
  repeat (first | go_big_quiet_step (fail) | quiet_step (fail))
  refine wpQuiet_nil ?_
  rintro w2 ⟨y, rfl⟩
  have c1 := c1 y
  have c2 := c2 y
  go_wp2
  go_ret
  exact (HE y).out
set_option maxRecDepth 100000 in
set_option maxHeartbeats 2000000 in
theorem InsertBrt_new (xs : List Brt) (x : Brt) {g base h k N : Nat} (w : World) (hb : base ≤ w.heap.size) (own : w.ownsRow base 104 2 (.slice (some ⟨g, 0, none⟩) N N) N (xs.flatMap brtC)) (hN : Hid (N = xs.length)) (hl : N ≤ 1000000) (hk : k < N) (hx : BlkIs w h 104 (brtC x)) (hne : h ≠ g) :
    Calls Try.prog 151 #[.slice (some ⟨g, 0, none⟩) N N, .int .i64 (k : Nat), .slice (some ⟨h, 0, none⟩) 1 1] w (RowBack base 104 2 brtC (putIn k [x] xs) w (some g)) := by
  obtain ⟨i0, hi0, hz0, hs0, hb0⟩ := info_parts info_Brt
  obtain ⟨-, hlen, hbg, -, hcm, L, hB, hL, hxs⟩ := own_open own
  have hLx : L = xs.flatMap brtC := by rw [← hxs, List.take_of_length_le (by omega)]
  have hgl := hB.lt
  have hhl := hx.lt
  have z0 : (0 : Int) ≤ (k : Nat) := by omega
  have z2 : ((k : Nat) : Int) ≤ (N : Nat) := by omega
  have z3 : ((k : Nat) : Int) < (N : Nat) := by omega
  have z4 : ¬ N = k := by omega
  have z6 : ¬ (k : Int) = (N : Nat) := by omega
  have hq : (N - k) * 2 = N * 2 - k * 2 := Nat.sub_mul ..
  have hq2 : (N + 1 - k) * 2 = N * 2 + 2 - k * 2 := by rw [Nat.sub_mul, Nat.succ_mul]
  have hkN : k * 2 ≤ N * 2 := Nat.mul_le_mul_right _ (by omega)
  have a1 : (k + 1) * 2 = k * 2 + 2 := Nat.succ_mul k 2
  have a2 : (N + 1) * 2 = N * 2 + 2 := Nat.succ_mul N 2
  have hold : (Builtin.firstCells i0.size k (.slice (some ⟨g, 0, none⟩) k N)).run Try.prog w.drew = .ok (L.take (k * 2)).toArray w.drew := by
    have hl' : (L.take (k * 2)).length = k * 2 := by rw [List.length_take]; omega
    have := run_loadCells_list (P := Try.prog) w.drew ⟨g, 0, none⟩ (L.take (k * 2)) (fun j v hv => by
      rw [add_lit, Nat.zero_add]
      rw [List.getElem?_take] at hv
      split at hv
      · exact (hB.cell j).trans hv
      · cases hv)
    rw [hl'] at this
    rw [hs0]
    exact this
  have hkk : (N : Int) + 1 - (k : Int) = ((N + 1 - k : Nat) : Int) := by omega
  have hik : k + (N + 1 - k) = N + 1 := by omega
  obtain ⟨z, hz1, hzs⟩ : ∃ z, i0.zero = some z ∧ (z.cells.size = 2 ∧ ∀ k, k < z.cells.size → (z.cells[k]!).oneCell' = true) := ⟨_, hz0, rfl, by decide⟩
  obtain ⟨G, hG⟩ : ∃ G, G = grownCap w (N + 1) N 104 := ⟨_, rfl⟩
  have hGn : N + 1 ≤ G := by rw [hG]; exact grownCap_ge w _ _ _
  have hGm : G ≤ maxLen := by rw [hG]; exact grownCap_le_maxLen w (N + 1) N 104 (by unfold maxLen; omega)
  have hGc : (N + 1) * 2 ≤ G * 2 := Nat.mul_le_mul_right _ hGn
  obtain ⟨Z, hZ⟩ : ∃ Z, Z = (Builtin.zeroCells z.cells (N + 1 - k)).toList ++ (Builtin.zeroCells z.cells (G - (N + 1))).toList := ⟨_, rfl⟩
  have hZl : Z.length = (N + 1 - k) * 2 + (G - (N + 1)) * 2 := by rw [hZ, List.length_append, zero_len, zero_len, hzs.1]
  have hG2 : (G - (N + 1)) * 2 = G * 2 - (N + 1) * 2 := Nat.sub_mul ..
  have hGp : G ≤ 9223372036854775807 := by unfold maxLen at hGm; omega
  obtain ⟨W1, hW1⟩ : ∃ W1, W1 = w.drew.alloc (.cells (L.take (k * 2) ++ Z).toArray 104) := ⟨_, rfl⟩
  have hrz : ∀ ty, (Builtin.append_ #[32, 3] ty #[.slice (some ⟨g, 0, none⟩) k N, .int .i64 ((N : Int) + 1 - (k : Int))]).run Try.prog w = .ok (.slice (some ⟨w.heap.size, 0, none⟩) (N + 1) G) W1 := fun ty => by
    have h := Lib.run_append_grow_zeros (P := Try.prog) w 32 3 ty 104 i0 z .i64 .i64 Try.underlying32 Try.underlying3 hi0 hz1 (some ⟨g, 0, none⟩) k N (L.take (k * 2)) hold (N + 1 - k) (by omega) (by rw [hs0]; omega) (by omega) (by omega) (by rw [hb0]; omega) (by rw [hb0, hik]; exact growslice_fits (by omega) (by omega))
    rw [hik, ← hG] at h
    rw [hkk, hW1]
    refine h.trans ?_
    congr 4
    rw [hZ]
    apply Array.ext'
    simp
  have hrow : BlkIs W1 w.heap.size 104 (L.take (k * 2) ++ Z) := by rw [hW1]; exact heap_alloc_new w.drew _
  have GW1 : Grow w W1 := by rw [hW1]; exact ((Grow.refl w).drew).alloc _
  obtain ⟨M1, hM1⟩ : ∃ M1, M1 = (L.take (k * 2) ++ Z).take (k * 2) ++ brtC x ++ (L.take (k * 2) ++ Z).drop (k * 2 + 2) := ⟨_, rfl⟩
  obtain ⟨M2, hM2⟩ : ∃ M2, M2 = M1.take (k * 2 + 2) ++ L.drop (k * 2) ++ M1.drop (k * 2 + 2 + (N - k) * 2) := ⟨_, rfl⟩
  obtain ⟨p1, p2, p3⟩ := put_new L (brtC x) Z (k * 2) ((N - k) * 2) 2 (by rw [hL]; omega) (brtC_len x) (by rw [hZl]; omega) M1 M2 hM1 hM2
  rw [hLx, flat_put brtC_len] at p3
  have hrl : (L.take (k * 2) ++ Z).length = G * 2 := by rw [List.length_append, List.length_take, hZl]; omega
  have m1l : M1.length = G * 2 := by rw [p1, hZl]; omega
  have m2l : M2.length = G * 2 := by rw [p2, hZl]; omega
  have hcut : (L.drop (k * 2)).length = (N - k) * 2 := by rw [List.length_drop, hL]; omega
  have c1 : (Builtin.copy_ #[32, 32] 3 #[.slice (some ⟨w.heap.size, k * 2, none⟩) (N + 1 - k) (G - k), .slice (some ⟨h, 0, none⟩) 1 1]).run Try.prog W1 = .ok (goInt 1) (W1.setRow w.heap.size M1.toArray) := by
    have hX' : BlkIs W1 h 104 (brtC x) := blk_grow hx GW1
    have hmin : Nat.min 1 (N + 1 - k) = 1 := Nat.min_eq_left (by omega)
    have := run_copy_row (P := Try.prog) (cs := brtC x) 32 3 104 i0 2 (k * 2) (N + 1 - k) (G - k) 1 1 ⟨h, 0, none⟩ Try.underlying32 hi0 hs0 hrow (by rw [brtC_len, hmin]) (fun j v hv => by
      rw [add_lit, hX'.cell, Nat.zero_add]
      exact hv) (by rw [brtC_len, hrl]; omega) (brtC_one x)
    rw [hmin, brtC_len, ← hM1] at this
    exact this
  obtain ⟨W2, hW2⟩ : ∃ W2, W2 = W1.setRow w.heap.size M1.toArray := ⟨_, rfl⟩
  rw [← hW2] at c1
  have hB2 : BlkIs W2 w.heap.size 104 M1 := by rw [hW2]; exact hrow.setRow M1
  have GW2 : Grow w W2 := by rw [hW2]; exact Grow.grown GW1 (grown_setRow _ _ _) fun q hq => by cases hq; exact Nat.le_refl _
  have hL2 : BlkIs W2 g 104 L := blk_grow hB GW2
  have c2 : ∀ y, (Builtin.copy_ #[32, 32] 3 #[.slice (some ⟨w.heap.size, (k + 1) * 2, none⟩) (N - k) (G - (k + 1)), .slice (some ⟨g, k * 2, none⟩) (N - k) (N - k)]).run Try.prog (wplus W2 y) = .ok (goInt ((N - k : Nat) : Int)) ((wplus W2 y).setRow w.heap.size M2.toArray) := fun y => by
    have hB' : BlkIs (wplus W2 y) w.heap.size 104 M1 := blk_grow hB2 (Grow.wplus W2 y)
    have hL' : BlkIs (wplus W2 y) g 104 L := blk_grow hL2 (Grow.wplus W2 y)
    have hmin : Nat.min (N - k) (N - k) = N - k := Nat.min_self _
    have := run_copy_row (P := Try.prog) (cs := L.drop (k * 2)) 32 3 104 i0 2 ((k + 1) * 2) (N - k) (G - (k + 1)) (N - k) (N - k) ⟨g, k * 2, none⟩ Try.underlying32 hi0 hs0 hB' (by rw [hcut, hmin]) (fun j v hv => by
      rw [add_lit, hL'.cell]
      rwa [List.getElem?_drop] at hv) (by rw [hcut, m1l]; omega) (fun v hv => own_cells_one (p := k * 2) (q := (N - k) * 2) hxs brtC_one (by omega) (by rw [List.take_of_length_le (by omega)]; exact hv))
    rw [hmin, hcut, a1, ← hM2] at this
    rw [a1]
    exact this
  have HE : ∀ y, Hid (RowBack base 104 2 brtC (putIn k [x] xs) w (some g) (.returned (.slice (some ⟨w.heap.size, 0, none⟩) (N + 1) G)) ((wplus W2 y).setRow w.heap.size M2.toArray)) := fun y => Lib.hid (by
    have hlen' : (putIn k [x] xs).length = N + 1 := by rw [putIn_len, ← hN.out]; rfl
    have hB' : BlkIs ((wplus W2 y).setRow w.heap.size M2.toArray) w.heap.size 104 M2 := (show BlkIs (wplus W2 y) w.heap.size 104 M1 from blk_grow hB2 (Grow.wplus W2 y)).setRow M2
    refine ⟨_, rfl, ?_, ?_, .inr fun q hq => by cases hq; exact Nat.le_refl _⟩
    · rw [hlen']
      refine own_shut hB' hb hGn hGm m2l ?_
      rw [← p3]; congr 1; omega
    · exact Keep.of (Grow.grown (GW2.trans (Grow.wplus W2 y)) (grown_setRow _ _ _) fun q hq => by cases hq; exact Nat.le_refl _))
  have z5 : ¬ G = k := by omega
  have z7 : IntKind.i64.wrap ((k : Int) + 1) = (k : Int) + 1 := IntWalk.i64_in _ (by omega)
  have z8 : (0 : Int) ≤ (k : Int) + 1 := by omega
  have z9 : (k : Int) + 1 ≤ (N : Int) + 1 := by omega
  have z10 : ¬ G = k + 1 := by omega
  have z11 : (k : Int) ≤ (N : Int) + 1 := by omega
  have e1 : ((k : Int) + 1).toNat = k + 1 := by omega
  have e2 : ((N : Int) + 1).toNat = N + 1 := by omega
  clear own hB hx hlen hxs hM1 hM2 p1 p2 p3 hcut hq hq2 hkN a1 a2 hLx hG hGn hGm hGc hZ hZl hG2 hW1 hW2 hrow GW1 hB2 GW2 hL2 hrl m1l m2l hold hkk hik hz1 hzs
  go_enter Try.func151, Try.ntmps151
  go_wp2_with (at_builtin; refine wpList_append_run rfl _ _ _ rfl rfl rfl (hrz _) ?_)
  refine at_plus ?_
  refine region_quiet_tail 8 ⟨_, rfl⟩ (by kernel_rfl) (by kernel_rfl) ?_
  repeat (first | go_big_quiet_step (fail) | quiet_step (fail))
  refine wpQuiet_nil ?_
  rintro w2 ⟨y, rfl⟩
  have c2 := c2 y
  go_wp2
  go_ret
  exact (HE y).out
theorem InsertBrt_c (xs : List Brt) (x : Brt) (v : Value) {base h k : Nat} (w : World) (hb : base ≤ w.heap.size) (own : w.ownsRow base 104 2 v xs.length (xs.flatMap brtC)) (hl : xs.length ≤ 1000000) (hk : k ≤ xs.length) (hx : BlkIs w h 104 (brtC x)) (hne : v.ownBlock ≠ some h) :
    Calls Try.prog 151 #[v, .int .i64 (k : Nat), .slice (some ⟨h, 0, none⟩) 1 1] w (RowBack base 104 2 brtC (putIn k [x] xs) w v.ownBlock) := by
  obtain ⟨A, c, rfl, -, -⟩ := own_rows brtC_len rfl own
  by_cases he : k = xs.length
  · subst he
    have := InsertBrt_end xs x w (Lib.hid rfl) hb own hl hx
    simpa [putIn] using this
  · obtain ⟨g, rfl, -, -, -⟩ := own_head own (by rintro rfl; simp at hk he; omega)
    have hc := own_cap own
    have hne' : h ≠ g := fun e => hne (by simp [Value.ownBlock, e])
    by_cases hcc : xs.length = c
    · have hc' := Lib.hid hcc
      rw [← hcc] at own ⊢
      exact InsertBrt_new xs x w hb own (Lib.hid rfl) hl (by omega) hx hne'
    · exact InsertBrt_put xs x w hb own (Lib.hid rfl) hl (by omega) (by omega) hx hne'
end Go.Proofs.Ytnmknkdbeccmhaa
