/- The walks of the laws' copying of slices: a row of the call's own, filled element by element. The walk of the laws' copying of a book. -/
import Derived.Test.YtnmknkdbeccmhaaAp3
import Derived.Laws.OwnMore
namespace Go.Proofs.Ytnmknkdbeccmhaa
open Go.RowKit
set_option linter.unusedSimpArgs false

/-- Values set one behind the other. -/
def setsAt : List Value → Nat → List Value → List Value
  | L, _, [] => L
  | L, o, c :: cs => setsAt (L.set o c) (o + 1) cs
def wsets (g : Nat) : World → Nat → List Value → World
  | w, _, [] => w
  | w, o, c :: cs => wsets g (w.setCell ⟨g, o, none⟩ c) (o + 1) cs
theorem setsAt_mid : ∀ (P M S cs : List Value), M.length = cs.length → setsAt (P ++ (M ++ S)) P.length cs = P ++ (cs ++ S)
  | P, [], S, [], _ => rfl
  | P, m :: M, S, c :: cs, h => by
    have ih := setsAt_mid (P ++ [c]) M S cs (by simpa using h)
    simp only [setsAt]
    rw [show (P ++ (m :: M ++ S)).set P.length c = (P ++ [c]) ++ (M ++ S) by simp [List.set_append]]
    rw [show P.length + 1 = (P ++ [c]).length by simp, ih]
    simp
  | _, [], _, _ :: _, h => by simp at h
  | _, _ :: _, _, [], h => by simp at h
theorem grownBy_trans {a b c : World} {r : Option Nat} (h : a.grownBy b r) (k : b.grownBy c r) : a.grownBy c r :=
  ⟨k.os.trans h.os, k.tape.trans h.tape, k.output.trans h.output, Nat.le_trans h.size k.size, fun i hi hr => (k.block i (Nat.lt_of_lt_of_le hi h.size) hr).trans (h.block i hi hr)⟩
theorem own_sets {base T n g N cap : Nat} : ∀ (cs : List Value) (o : Nat) (L : List Value) (w : World), w.ownsRow base T n (.slice (some ⟨g, 0, none⟩) N cap) N L →
    (wsets g w o cs).ownsRow base T n (.slice (some ⟨g, 0, none⟩) N cap) N (setsAt L o cs) ∧ w.grownBy (wsets g w o cs) (some g)
  | [], _, _, w, h => ⟨h, World.grownBy.refl w _⟩
  | c :: cs, o, L, w, h => by
    obtain ⟨h1, h2⟩ := h.stored o c
    obtain ⟨h3, h4⟩ := own_sets cs (o + 1) _ _ h1
    exact ⟨h3, grownBy_trans h2 h4⟩
theorem own_V {base T n g N cap : Nat} {L : List Value} {w : World} (h : w.ownsRow base T n (.slice (some ⟨g, 0, none⟩) N cap) N L) : ∃ V : Nat → Value, ∀ j, j < N * n → w.cell? ⟨g, j, none⟩ = some (V j) :=
  ⟨fun j => L.getD j undef, fun j hj => by
    have hl : j < L.length := by rw [h.1]; exact hj
    rw [h.cellAt j hj, List.getElem?_eq_getElem hl]
    simp [List.getD, List.getElem?_eq_getElem hl]⟩
theorem own_grow {base T n N : Nat} {v : Value} {L : List Value} {w w' : World} (h : w.ownsRow base T n v N L) (hg : Grow w w') : w'.ownsRow base T n v N L :=
  h.kept (row := none) ⟨hg.os, hg.tape, hg.output, hg.size, fun k hk _ => hg.block k hk⟩ (by cases v.ownBlock <;> simp)
theorem Grow.grown {a b c : World} {r : Option Nat} (h : Grow a b) (hg : b.grownBy c r) (hr : ∀ k, r = some k → a.heap.size ≤ k) : Grow a c := Below.grown h hg h.size hr
/-- A row of the call's own, as a slice that reads. -/
theorem own_rows {α : Type} {base T n N : Nat} {cs : α → List Value} {v : Value} {xs : List α} {w : World} (hn : ∀ x, (cs x).length = n) (hN : N = xs.length) (h : w.ownsRow base T n v N (xs.flatMap cs)) :
    ∃ A c, v = .slice A xs.length c ∧ N ≤ c ∧ Rows n cs w A xs := by
  subst hN
  rcases h.2 with ⟨rfl, h0⟩ | ⟨g, cap, cur, rfl, hb, hg, hc, -⟩
  · exact ⟨none, 0, by rw [h0], by omega, by rw [List.length_eq_zero_iff.1 h0]; exact Rows.nil _⟩
  · refine ⟨some ⟨g, 0, none⟩, cap, rfl, hc, fun _ => ⟨g, 0, rfl, fun i x hx j u hu => ?_⟩⟩
    have hi : i < xs.length := (List.getElem?_eq_some_iff.1 hx).1
    have hj : j < n := by rw [← hn x]; exact (List.getElem?_eq_some_iff.1 hu).1
    have hlt : i * n + j < xs.length * n := by
      have : (i + 1) * n ≤ xs.length * n := Nat.mul_le_mul_right _ hi
      rw [Nat.add_mul] at this
      omega
    rw [Nat.zero_add, h.cellAt (i * n + j) hlt]
    have e : xs = xs.take i ++ x :: xs.drop (i + 1) := by
      rw [← drop_at hx, List.take_append_drop]
    have hl : ∀ ys : List α, (ys.flatMap cs).length = ys.length * n := fun ys => by
      induction ys with
      | nil => simp
      | cons y ys ih => simp [List.flatMap_cons, hn, ih, Nat.add_mul]; omega
    rw [e, List.flatMap_append, List.flatMap_cons, List.getElem?_append_right (by rw [hl, List.length_take, Nat.min_eq_left (by omega)]; omega), hl, List.length_take, Nat.min_eq_left (by omega), Nat.add_sub_cancel_left,
      List.getElem?_append_left (by rw [hn]; exact hj)]
    exact hu
theorem svcC_len (s : Svc) : (svcC s).length = 13 := rfl
theorem cpyC_len (s : Cpy) : (cpyC s).length = 7 := rfl
theorem brtC_len (s : Brt) : (brtC s).length = 2 := rfl
theorem take_succ_flat {α : Type} {cs : α → List Value} {xs : List α} {k : Nat} {x : α} (h : xs[k]? = some x) : (xs.take (k + 1)).flatMap cs = (xs.take k).flatMap cs ++ cs x := by
  obtain ⟨hl, rfl⟩ := List.getElem?_eq_some_iff.1 h
  rw [List.take_succ_eq_append_getElem hl, List.flatMap_append]
  simp
/-- One element is stored behind those that are there. -/
theorem own_put {α : Type} {base T n g N cap k : Nat} {cs : α → List Value} {xs : List α} {x : α} {rest : List Value} {w : World} (hn : ∀ x, (cs x).length = n) (hx : xs[k]? = some x) (hN : N = xs.length)
    (h : w.ownsRow base T n (.slice (some ⟨g, 0, none⟩) N cap) N ((xs.take k).flatMap cs ++ rest)) :
    ∃ rest', (wsets g w (k * n) (cs x)).ownsRow base T n (.slice (some ⟨g, 0, none⟩) N cap) N ((xs.take (k + 1)).flatMap cs ++ rest') ∧ w.grownBy (wsets g w (k * n) (cs x)) (some g) := by
  subst hN
  have hk : k < xs.length := (List.getElem?_eq_some_iff.1 hx).1
  have hl : ∀ ys : List α, (ys.flatMap cs).length = ys.length * n := fun ys => by
    induction ys with
    | nil => simp
    | cons y ys ih => simp [List.flatMap_cons, hn, ih, Nat.add_mul]; omega
  have hP : ((xs.take k).flatMap cs).length = k * n := by rw [hl, List.length_take, Nat.min_eq_left (by omega)]
  have hr : n ≤ rest.length := by
    have h1 := h.1
    rw [List.length_append, hP] at h1
    have : (k + 1) * n ≤ xs.length * n := Nat.mul_le_mul_right _ hk
    rw [Nat.add_mul] at this
    omega
  obtain ⟨h1, h2⟩ := own_sets (cs x) (k * n) _ w h
  refine ⟨rest.drop n, ?_, h2⟩
  rw [take_succ_flat hx, List.append_assoc]
  have := setsAt_mid ((xs.take k).flatMap cs) (rest.take n) (rest.drop n) (cs x) (by rw [hn, List.length_take, Nat.min_eq_left hr])
  rw [List.take_append_drop, hP] at this
  rw [this] at h1
  exact h1
theorem flat_len {α : Type} {n : Nat} {cs : α → List Value} (hn : ∀ x, (cs x).length = n) (ys : List α) : (ys.flatMap cs).length = ys.length * n := by
  induction ys with
  | nil => simp
  | cons y ys ih => simp [List.flatMap_cons, hn, ih, Nat.add_mul]; omega
theorem own_full {α : Type} {base T n N : Nat} {v : Value} {cs : α → List Value} {xs : List α} {rest : List Value} {w : World} (hn : ∀ x, (cs x).length = n) (hN : N = xs.length) (h : w.ownsRow base T n v N ((xs.take xs.length).flatMap cs ++ rest)) :
    w.ownsRow base T n v N (xs.flatMap cs) := by
  have hlen := h.1
  rw [List.take_length, List.length_append, flat_len hn] at hlen
  subst hN
  have hr : rest = [] := List.eq_nil_of_length_eq_zero (by omega)
  rw [List.take_length, hr, List.append_nil] at h
  exact h
/-- A slice of the call's own that holds xs. -/
def MadeRow {α : Type} (T n : Nat) (cs : α → List Value) (xs : List α) (w : World) (e : Ending) (w' : World) : Prop := ∃ v, e = .returned v ∧ w'.ownsRow w.heap.size T n v xs.length (xs.flatMap cs) ∧ Grow w w'

theorem info_Svc : (Try.prog.info? 83).map (fun i => (i.zero, i.size, i.bytes)) = some (some (.agg #[.string ⟨#[]⟩, .int .i64 0, .bool false, .int .i64 0, .int .i64 0, .int .i64 0, .int .i64 0, .int .i64 0, .int .i64 0, .int .i64 0, .int .i64 0, .int .i64 0, .int .i64 0]), 13, 112) := by kernel_rfl
set_option maxRecDepth 100000 in
set_option maxHeartbeats 4000000 in
theorem toStewServiceS_c (xs : List Svc) {A : Option Addr} {c : Nat} (hn : xs.length ≤ 2000000) (w : World) (h : Rows 13 svcC w A xs) :
    Calls Try.prog 65 #[.slice A xs.length c] w (MadeRow 83 13 svcC xs w) := by
  obtain ⟨i0, hi, hz0, hz1, hz2⟩ := info_parts info_Svc
  have R := Lib.hid (fun (w' : World) (hg : Grow w w') => h.below hg)
  clear h
  go_enter Try.func65, Try.ntmps65
  go_wp2_with (refine wpList_make_full _ rfl _ _ _ rfl w.heap.size 83 i0 _ 13 Try.underlying30 hi hz0 hz1 .i64 .i64 xs.length xs.length xs.length rfl rfl rfl rfl (by rw [hz2]; omega) (by unfold maxLen; omega) (Nat.le_refl _) ?_; intro w1 hown hgr; have HO := Lib.hid hown; have HG := Lib.hid hgr; clear hown hgr)
  go_loopw [4] (fun i wr => ∃ (k : Nat) (rest : List Value), k ≤ xs.length ∧ i = .int .i64 k ∧ Hid (Grow w wr) ∧ Hid (wr.ownsRow w.heap.size 83 13 (.slice (some ⟨w.heap.size, 0, none⟩) xs.length xs.length) xs.length ((xs.take k).flatMap svcC ++ rest))) (fun i _ => xs.length - (intOf i).toNat)
  case atStart => exact ⟨0, _, Nat.zero_le _, rfl, (Grow.refl _).grown HG.out (by simp), HO.out⟩
  case round =>
    obtain ⟨k, rest, hk, rfl, hgr, ho⟩ := hrel
    by_cases hlt : k < xs.length
    · obtain ⟨x, hx⟩ := ex_at hlt
      obtain ⟨bb, o, rfl, hbb, f0, f1, f2, f3, f4, f5, f6, f7, f8, f9, f10, f11, f12⟩ := svc_at (R.out _ hgr.out) hx
      have HX := Lib.hid hx
      clear hx
      go_wp2_with (go_at_call 123; refine (toStewService_c x _).mono ?_; rintro e w' ⟨rfl, hg⟩; have HG2 := Lib.hid hg; have HO2 := Lib.hid (own_grow ho.out hg); obtain ⟨V, hV⟩ := own_V HO2.out; have e0 : w'.cell? ⟨w.heap.size, k * 13, none⟩ = some (V (k * 13 + 0)) := hV _ (by omega); have e1 : w'.cell? ⟨w.heap.size, k * 13 + 1, none⟩ = some (V (k * 13 + 1)) := hV _ (by omega); have e2 : w'.cell? ⟨w.heap.size, k * 13 + 2, none⟩ = some (V (k * 13 + 2)) := hV _ (by omega); have e3 : w'.cell? ⟨w.heap.size, k * 13 + 3, none⟩ = some (V (k * 13 + 3)) := hV _ (by omega); have e4 : w'.cell? ⟨w.heap.size, k * 13 + 4, none⟩ = some (V (k * 13 + 4)) := hV _ (by omega); have e5 : w'.cell? ⟨w.heap.size, k * 13 + 5, none⟩ = some (V (k * 13 + 5)) := hV _ (by omega); have e6 : w'.cell? ⟨w.heap.size, k * 13 + 6, none⟩ = some (V (k * 13 + 6)) := hV _ (by omega); have e7 : w'.cell? ⟨w.heap.size, k * 13 + 7, none⟩ = some (V (k * 13 + 7)) := hV _ (by omega); have e8 : w'.cell? ⟨w.heap.size, k * 13 + 8, none⟩ = some (V (k * 13 + 8)) := hV _ (by omega); have e9 : w'.cell? ⟨w.heap.size, k * 13 + 9, none⟩ = some (V (k * 13 + 9)) := hV _ (by omega); have e10 : w'.cell? ⟨w.heap.size, k * 13 + 10, none⟩ = some (V (k * 13 + 10)) := hV _ (by omega); have e11 : w'.cell? ⟨w.heap.size, k * 13 + 11, none⟩ = some (V (k * 13 + 11)) := hV _ (by omega); have e12 : w'.cell? ⟨w.heap.size, k * 13 + 12, none⟩ = some (V (k * 13 + 12)) := hV _ (by omega); have hf : ∀ j, w'.frozen? ⟨w.heap.size, j, none⟩ = false := fun j => HO2.out.frozenAt j; clear hg hV)
      obtain ⟨rest', h1, h2⟩ := own_put (cs := svcC) (fun _ => rfl) HX.out rfl HO2.out
      go_roundw
      case rel => exact ⟨k + 1, rest', by omega, by go_num, (hgr.out.trans HG2.out).grown h2 (fun q hq => by simp at hq; omega), h1⟩
      case measure => simp [intOf]; omega
    · obtain rfl : k = xs.length := by omega
      have h1 := ho.out
      have HO3 := Lib.hid (own_full svcC_len rfl h1)
      clear h1
      go_wp2
      go_ret
      exact ⟨_, rfl, HO3.out, hgr.out⟩

theorem info_Cpy : (Try.prog.info? 65).map (fun i => (i.zero, i.size, i.bytes)) = some (some (.agg #[.string ⟨#[]⟩, .int .i64 0, .int .i64 0, .int .i64 0, .int .i64 0, .bool false, .string ⟨#[]⟩]), 7, 72) := by kernel_rfl
set_option maxRecDepth 100000 in
set_option maxHeartbeats 4000000 in
theorem toStewCopyS_c (xs : List Cpy) {A : Option Addr} {c : Nat} (hn : xs.length ≤ 2000000) (w : World) (h : Rows 7 cpyC w A xs) :
    Calls Try.prog 66 #[.slice A xs.length c] w (MadeRow 65 7 cpyC xs w) := by
  obtain ⟨i0, hi, hz0, hz1, hz2⟩ := info_parts info_Cpy
  have R := Lib.hid (fun (w' : World) (hg : Grow w w') => h.below hg)
  clear h
  go_enter Try.func66, Try.ntmps66
  go_wp2_with (refine wpList_make_full _ rfl _ _ _ rfl w.heap.size 65 i0 _ 7 Try.underlying31 hi hz0 hz1 .i64 .i64 xs.length xs.length xs.length rfl rfl rfl rfl (by rw [hz2]; omega) (by unfold maxLen; omega) (Nat.le_refl _) ?_; intro w1 hown hgr; have HO := Lib.hid hown; have HG := Lib.hid hgr; clear hown hgr)
  go_loopw [4] (fun i wr => ∃ (k : Nat) (rest : List Value), k ≤ xs.length ∧ i = .int .i64 k ∧ Hid (Grow w wr) ∧ Hid (wr.ownsRow w.heap.size 65 7 (.slice (some ⟨w.heap.size, 0, none⟩) xs.length xs.length) xs.length ((xs.take k).flatMap cpyC ++ rest))) (fun i _ => xs.length - (intOf i).toNat)
  case atStart => exact ⟨0, _, Nat.zero_le _, rfl, (Grow.refl _).grown HG.out (by simp), HO.out⟩
  case round =>
    obtain ⟨k, rest, hk, rfl, hgr, ho⟩ := hrel
    by_cases hlt : k < xs.length
    · obtain ⟨x, hx⟩ := ex_at hlt
      obtain ⟨bb, o, rfl, hbb, f0, f1, f2, f3, f4, f5, f6⟩ := cpy_at (R.out _ hgr.out) hx
      have HX := Lib.hid hx
      clear hx
      go_wp2_with (go_at_call 124; refine (toStewCopy_c x _).mono ?_; rintro e w' ⟨rfl, hg⟩; have HG2 := Lib.hid hg; have HO2 := Lib.hid (own_grow ho.out hg); obtain ⟨V, hV⟩ := own_V HO2.out; have e0 : w'.cell? ⟨w.heap.size, k * 7, none⟩ = some (V (k * 7 + 0)) := hV _ (by omega); have e1 : w'.cell? ⟨w.heap.size, k * 7 + 1, none⟩ = some (V (k * 7 + 1)) := hV _ (by omega); have e2 : w'.cell? ⟨w.heap.size, k * 7 + 2, none⟩ = some (V (k * 7 + 2)) := hV _ (by omega); have e3 : w'.cell? ⟨w.heap.size, k * 7 + 3, none⟩ = some (V (k * 7 + 3)) := hV _ (by omega); have e4 : w'.cell? ⟨w.heap.size, k * 7 + 4, none⟩ = some (V (k * 7 + 4)) := hV _ (by omega); have e5 : w'.cell? ⟨w.heap.size, k * 7 + 5, none⟩ = some (V (k * 7 + 5)) := hV _ (by omega); have e6 : w'.cell? ⟨w.heap.size, k * 7 + 6, none⟩ = some (V (k * 7 + 6)) := hV _ (by omega); have hf : ∀ j, w'.frozen? ⟨w.heap.size, j, none⟩ = false := fun j => HO2.out.frozenAt j; clear hg hV)
      obtain ⟨rest', h1, h2⟩ := own_put (cs := cpyC) (fun _ => rfl) HX.out rfl HO2.out
      go_roundw
      case rel => exact ⟨k + 1, rest', by omega, by go_num, (hgr.out.trans HG2.out).grown h2 (fun q hq => by simp at hq; omega), h1⟩
      case measure => simp [intOf]; omega
    · obtain rfl : k = xs.length := by omega
      have h1 := ho.out
      have HO3 := Lib.hid (own_full cpyC_len rfl h1)
      clear h1
      go_wp2
      go_ret
      exact ⟨_, rfl, HO3.out, hgr.out⟩

theorem info_Brt : (Try.prog.info? 104).map (fun i => (i.zero, i.size, i.bytes)) = some (some (.agg #[.string ⟨#[]⟩, .bool false]), 2, 24) := by kernel_rfl
set_option maxRecDepth 100000 in
set_option maxHeartbeats 4000000 in
theorem toStewBerthS_c (xs : List Brt) {A : Option Addr} {c : Nat} (hn : xs.length ≤ 2000000) (w : World) (h : Rows 2 brtC w A xs) :
    Calls Try.prog 67 #[.slice A xs.length c] w (MadeRow 104 2 brtC xs w) := by
  obtain ⟨i0, hi, hz0, hz1, hz2⟩ := info_parts info_Brt
  have R := Lib.hid (fun (w' : World) (hg : Grow w w') => h.below hg)
  clear h
  go_enter Try.func67, Try.ntmps67
  go_wp2_with (refine wpList_make_full _ rfl _ _ _ rfl w.heap.size 104 i0 _ 2 Try.underlying32 hi hz0 hz1 .i64 .i64 xs.length xs.length xs.length rfl rfl rfl rfl (by rw [hz2]; omega) (by unfold maxLen; omega) (Nat.le_refl _) ?_; intro w1 hown hgr; have HO := Lib.hid hown; have HG := Lib.hid hgr; clear hown hgr)
  go_loopw [4] (fun i wr => ∃ (k : Nat) (rest : List Value), k ≤ xs.length ∧ i = .int .i64 k ∧ Hid (Grow w wr) ∧ Hid (wr.ownsRow w.heap.size 104 2 (.slice (some ⟨w.heap.size, 0, none⟩) xs.length xs.length) xs.length ((xs.take k).flatMap brtC ++ rest))) (fun i _ => xs.length - (intOf i).toNat)
  case atStart => exact ⟨0, _, Nat.zero_le _, rfl, (Grow.refl _).grown HG.out (by simp), HO.out⟩
  case round =>
    obtain ⟨k, rest, hk, rfl, hgr, ho⟩ := hrel
    by_cases hlt : k < xs.length
    · obtain ⟨x, hx⟩ := ex_at hlt
      obtain ⟨bb, o, rfl, hbb, f0, f1⟩ := brt_at (R.out _ hgr.out) hx
      have HX := Lib.hid hx
      clear hx
      go_wp2_with (go_at_call 125; refine (toStewBerth_c x _).mono ?_; rintro e w' ⟨rfl, hg⟩; have HG2 := Lib.hid hg; have HO2 := Lib.hid (own_grow ho.out hg); obtain ⟨V, hV⟩ := own_V HO2.out; have e0 : w'.cell? ⟨w.heap.size, k * 2, none⟩ = some (V (k * 2 + 0)) := hV _ (by omega); have e1 : w'.cell? ⟨w.heap.size, k * 2 + 1, none⟩ = some (V (k * 2 + 1)) := hV _ (by omega); have hf : ∀ j, w'.frozen? ⟨w.heap.size, j, none⟩ = false := fun j => HO2.out.frozenAt j; clear hg hV)
      obtain ⟨rest', h1, h2⟩ := own_put (cs := brtC) (fun _ => rfl) HX.out rfl HO2.out
      go_roundw
      case rel => exact ⟨k + 1, rest', by omega, by go_num, (hgr.out.trans HG2.out).grown h2 (fun q hq => by simp at hq; omega), h1⟩
      case measure => simp [intOf]; omega
    · obtain rfl : k = xs.length := by omega
      have h1 := ho.out
      have HO3 := Lib.hid (own_full brtC_len rfl h1)
      clear h1
      go_wp2
      go_ret
      exact ⟨_, rfl, HO3.out, hgr.out⟩
end Go.Proofs.Ytnmknkdbeccmhaa
namespace Go.Proofs.Ytnmknkdbeccmhaa
open Go.RowKit
set_option linter.unusedSimpArgs false

/-- A value that reads as the book b, each of its rows the call's own. -/
def OwnBook (base : Nat) (w : World) (v : Value) (b : Book) : Prop := ∃ v1 v2 v3, v = .agg #[.int .i64 b.now, v1, v2, v3] ∧ w.ownsRow base 83 13 v1 b.svcs.length (b.svcs.flatMap svcC) ∧ w.ownsRow base 65 7 v2 b.cps.length (b.cps.flatMap cpyC) ∧ w.ownsRow base 104 2 v3 b.brs.length (b.brs.flatMap brtC)
def MadeBook (b : Book) (w : World) (e : Ending) (w' : World) : Prop := ∃ v, e = .returned v ∧ OwnBook w.heap.size w' v b ∧ Grow w w'
theorem OwnBook.rows {base : Nat} {w : World} {v : Value} {b : Book} (h : OwnBook base w v b) : ∃ A1 c1 A2 c2 A3 c3, v = .agg #[.int .i64 b.now, .slice A1 b.svcs.length c1, .slice A2 b.cps.length c2, .slice A3 b.brs.length c3] ∧ Rows 13 svcC w A1 b.svcs ∧ Rows 7 cpyC w A2 b.cps ∧ Rows 2 brtC w A3 b.brs := by
  obtain ⟨v1, v2, v3, rfl, h1, h2, h3⟩ := h
  obtain ⟨A1, c1, rfl, -, r1⟩ := own_rows svcC_len rfl h1
  obtain ⟨A2, c2, rfl, -, r2⟩ := own_rows cpyC_len rfl h2
  obtain ⟨A3, c3, rfl, -, r3⟩ := own_rows brtC_len rfl h3
  exact ⟨A1, c1, A2, c2, A3, c3, rfl, r1, r2, r3⟩
theorem own_base {b b' T n N : Nat} {v : Value} {L : List Value} {w : World} (h : w.ownsRow b T n v N L) (hb : b' ≤ b) : w.ownsRow b' T n v N L := by
  refine ⟨h.1, ?_⟩
  rcases h.2 with h0 | ⟨g, cap, cur, e, hg, r⟩
  · exact .inl h0
  · exact .inr ⟨g, cap, cur, e, Nat.le_trans hb hg, r⟩
theorem OwnBook.grow {base : Nat} {w w' : World} {v : Value} {b : Book} (h : OwnBook base w v b) (hg : Grow w w') : OwnBook base w' v b := by
  obtain ⟨v1, v2, v3, e, h1, h2, h3⟩ := h
  exact ⟨v1, v2, v3, e, own_grow h1 hg, own_grow h2 hg, own_grow h3 hg⟩
theorem OwnBook.base {base base' : Nat} {w : World} {v : Value} {b : Book} (h : OwnBook base w v b) (hb : base' ≤ base) : OwnBook base' w v b := by
  obtain ⟨v1, v2, v3, e, h1, h2, h3⟩ := h
  exact ⟨v1, v2, v3, e, own_base h1 hb, own_base h2 hb, own_base h3 hb⟩
theorem heap_alloc3 (w : World) (o1 o2 o3 : Obj) : (((w.alloc o1).alloc o2).alloc o3).heap[w.heap.size]? = some o1 ∧ (((w.alloc o1).alloc o2).alloc o3).heap[w.heap.size + 1]? = some o2 ∧ (((w.alloc o1).alloc o2).alloc o3).heap[w.heap.size + 1 + 1]? = some o3 :=
  ⟨(Below.heap_alloc _ _ _ (by simp; omega)).trans (heap_alloc2 w o1 o2), (Below.heap_alloc _ _ _ (by simp)).trans (heap_alloc2_new w o1 o2), by have := heap_alloc_new ((w.alloc o1).alloc o2) o3; simpa using this⟩
theorem Grow.set {a b : World} (h : Grow a b) {p : Addr} (hp : a.heap.size ≤ p.block) (u : Value) : Grow a (b.setCell p u) := Below.setCell h hp u
theorem blk_set {w : World} {g : Nat} {cs : Array Value} {T : TypeId} (h : w.heap[g]? = some (.cells cs T (0, 0))) (i : Nat) (u : Value) : (w.setCell ⟨g, i, none⟩ u).heap[g]? = some (.cells (cs.setIfInBounds i u) T (0, 0)) := heap_setCell_same w g i cs T u h
theorem blk_far {w : World} {g : Nat} {o : Obj} (h : w.heap[g]? = some o) {p : Addr} (hp : g ≠ p.block) (u : Value) : (w.setCell p u).heap[g]? = some o := (heap_setCell_other w p g u hp).trans h
theorem blk_grow {w w' : World} {g : Nat} {o : Obj} (h : w.heap[g]? = some o) (hg : Grow w w') : w'.heap[g]? = some o := (hg.block g (Array.getElem?_eq_some_iff.1 h).1).trans h
theorem blk_lt {w : World} {g : Nat} {o : Obj} (h : w.heap[g]? = some o) : g < w.heap.size := (Array.getElem?_eq_some_iff.1 h).1
set_option maxRecDepth 100000 in
set_option maxHeartbeats 4000000 in
theorem toStewBook_c (b : Book) {A1 A2 A3 : Option Addr} {c1 c2 c3 : Nat} (w : World) (h1 : Rows 13 svcC w A1 b.svcs) (h2 : Rows 7 cpyC w A2 b.cps) (h3 : Rows 2 brtC w A3 b.brs) (l1 : b.svcs.length ≤ 2000000) (l2 : b.cps.length ≤ 2000000) (l3 : b.brs.length ≤ 2000000) :
    Calls Try.prog 17 #[.agg #[.int .i64 b.now, .slice A1 b.svcs.length c1, .slice A2 b.cps.length c2, .slice A3 b.brs.length c3]] w (MadeBook b w) := by
  have H1 := Lib.hid (fun (w' : World) (hg : Grow w w') => h1.below hg)
  have H2 := Lib.hid (fun (w' : World) (hg : Grow w w') => h2.below hg)
  have H3 := Lib.hid (fun (w' : World) (hg : Grow w w') => h3.below hg)
  clear h1 h2 h3
  go_enter Try.func17, Try.ntmps17
  go_wp2_with fail
  refine (toStewServiceS_c b.svcs l1 _ (H1.out _ ((((Grow.refl w).alloc _).alloc _).alloc _))).mono ?_
  rintro e w1 ⟨v1, rfl, ho1, hg1⟩
  obtain ⟨B1, d1, rfl, -, -⟩ := own_rows svcC_len rfl ho1
  obtain ⟨a1, a2, a3⟩ := heap_alloc3 w _ _ _
  replace a1 := blk_grow a1 hg1
  replace a2 := blk_grow a2 hg1
  replace a3 := blk_grow a3 hg1
  have G1 := Lib.hid (((((Grow.refl w).alloc _).alloc _).alloc _).trans hg1)
  have O1 := Lib.hid (own_base (b' := w.heap.size + 3) ho1 (by simp))
  clear ho1 hg1
  have A1' := Lib.hid a1
  have A2' := Lib.hid a2
  have A3' := Lib.hid a3
  have q1 := cell_of_row w1 _ 1 _ _ _ a3
  have q2 := frozen_of_row w1 _ 1 _ _ a3
  have q3 := cell_of_row w1 _ 2 _ _ _ a1
  clear a1 a2 a3
  go_wp2_with fail
  refine (toStewCopyS_c b.cps l2 _ (H2.out _ (G1.out.set (by simp; omega) _))).mono ?_
  rintro e w2 ⟨v2, rfl, ho2, hg2⟩
  obtain ⟨B2, d2, rfl, -, -⟩ := own_rows cpyC_len rfl ho2
  have G2 := Lib.hid ((G1.out.set (p := ⟨w.heap.size + 1 + 1, 1, none⟩) (by simp; omega) _).trans hg2)
  have O12 := Lib.hid (own_grow (ownsRow_setCell_below O1.out (a := ⟨w.heap.size + 1 + 1, 1, none⟩) (by simp) _) hg2)
  have O2 := Lib.hid (own_base (b' := w.heap.size + 3) ho2 (by have := blk_lt A3'.out; simp; omega))
  have a1 := blk_grow (blk_far A1'.out (p := ⟨w.heap.size + 1 + 1, 1, none⟩) (by simp <;> omega) _) hg2
  have a2 := blk_grow (blk_far A2'.out (p := ⟨w.heap.size + 1 + 1, 1, none⟩) (by simp <;> omega) _) hg2
  have a3 := blk_grow (blk_set A3'.out 1 _) hg2
  clear ho2 hg2 q1 q2 q3 O1 A1' A2' A3' G1
  have A1' := Lib.hid a1
  have A2' := Lib.hid a2
  have A3' := Lib.hid a3
  have q1 := cell_of_row w2 _ 2 _ _ _ a3
  have q2 := frozen_of_row w2 _ 2 _ _ a3
  have q3 := cell_of_row w2 _ 3 _ _ _ a1
  clear a1 a2 a3
  go_wp2_with fail
  refine (toStewBerthS_c b.brs l3 _ (H3.out _ (G2.out.set (by simp; omega) _))).mono ?_
  rintro e w3 ⟨v3, rfl, ho3, hg3⟩
  obtain ⟨B3, d3, rfl, -, -⟩ := own_rows brtC_len rfl ho3
  have G3 := Lib.hid ((G2.out.set (p := ⟨w.heap.size + 1 + 1, 2, none⟩) (by simp; omega) _).trans hg3)
  have O13 := Lib.hid (own_grow (ownsRow_setCell_below O12.out (a := ⟨w.heap.size + 1 + 1, 2, none⟩) (by simp) _) hg3)
  have O23 := Lib.hid (own_grow (ownsRow_setCell_below O2.out (a := ⟨w.heap.size + 1 + 1, 2, none⟩) (by simp) _) hg3)
  have O3 := Lib.hid (own_base (b' := w.heap.size + 3) ho3 (by have := blk_lt A3'.out; simp; omega))
  have a2 := blk_grow (blk_far A2'.out (p := ⟨w.heap.size + 1 + 1, 2, none⟩) (by simp) _) hg3
  have a3 := blk_grow (blk_set A3'.out 2 _) hg3
  clear ho3 hg3 q1 q2 q3 O12 O2 A1' A2' A3' G2
  have p0 := cell_of_row w3 _ 0 _ _ _ a3
  have p1 := cell_of_row w3 _ 1 _ _ _ a3
  have p2 := cell_of_row w3 _ 2 _ _ _ a3
  have p3 := cell_of_row w3 _ 3 _ _ _ a3
  have q3 := frozen_of_row w3 _ 3 _ _ a3
  have r0 := cell_of_row w3 _ 0 _ _ _ a2
  have r1 := cell_of_row w3 _ 1 _ _ _ a2
  have r2 := cell_of_row w3 _ 2 _ _ _ a2
  have r3 := cell_of_row w3 _ 3 _ _ _ a2
  have z0 := frozen_of_row w3 _ 0 _ _ a2
  have z1 := frozen_of_row w3 _ 1 _ _ a2
  have z2 := frozen_of_row w3 _ 2 _ _ a2
  have z3 := frozen_of_row w3 _ 3 _ _ a2
  clear a2 a3
  go_wp2
  refine bodyPost_ret (v := .agg #[.int .i64 b.now, .slice B1 b.svcs.length d1, .slice B2 b.cps.length d2, .slice B3 b.brs.length d3]) (by simp [results, Try.results17, go_sem, r0, r1, r2, r3, p0, p1, p2, p3]) rfl ⟨_, rfl, ⟨_, _, _, rfl, ?_, ?_, ?_⟩, ?_⟩
  · refine own_base (b := w.heap.size + 3) ?_ (by omega)
    repeat (refine ownsRow_setCell_below ?_ (by simp <;> omega) _)
    exact O13.out
  · refine own_base (b := w.heap.size + 3) ?_ (by omega)
    repeat (refine ownsRow_setCell_below ?_ (by simp <;> omega) _)
    exact O23.out
  · refine own_base (b := w.heap.size + 3) ?_ (by omega)
    repeat (refine ownsRow_setCell_below ?_ (by simp <;> omega) _)
    exact O3.out
  · repeat (refine Grow.set ?_ (by simp <;> omega) _)
    exact G3.out
end Go.Proofs.Ytnmknkdbeccmhaa
