/- The walks of the laws' marks: texts, and rows that are marked and held. The walks of the laws' marks on rows of services, copies and berths, and of what is held of them. -/
import Derived.Test.YtnmknkdbeccmhaaAp12
import Derived.Test.YtnmknkdbeccmhaaAp11
import Derived.Laws.BytesString
namespace Go.Proofs.Ytnmknkdbeccmhaa
open Go.RowKit
set_option linter.unusedSimpArgs false
set_option linter.unusedVariables false

theorem ret_str {a b : ByteArray} (h : a = b) : Ending.returned (.string a) = .returned (.string b) := by rw [h]
/-- The decimal text of a number, ahead of what is there. -/
def decT : Nat → Int → ByteArray → ByteArray
  | 0, _, s => s
  | f + 1, n, s => if 0 < n then decT f (n / 10) (ByteArray.empty.push (UInt8.ofNat (48 + n % 10).toNat) ++ s) else s
def markT (k : Int) : ByteArray := if k ≤ 0 then ⟨#[109, 48]⟩ else ⟨#[109]⟩ ++ decT k.toNat k ⟨#[]⟩
theorem decT_more : ∀ (f g : Nat) (n : Int) (s : ByteArray), n.toNat ≤ f → n.toNat ≤ g → decT f n s = decT g n s
  | 0, 0, _, _, _, _ => rfl
  | 0, g + 1, n, s, h, _ => by unfold decT; rw [if_neg (by omega)]
  | f + 1, 0, n, s, _, h => by unfold decT; rw [if_neg (by omega)]
  | f + 1, g + 1, n, s, h, k => by
    unfold decT
    split
    · exact decT_more f g _ _ (by omega) (by omega)
    · rfl
theorem decT_step {n : Int} {s : ByteArray} (h : 0 < n) : decT n.toNat n s = decT (n / 10).toNat (n / 10) (ByteArray.empty.push (UInt8.ofNat (48 + n % 10).toNat) ++ s) := by
  obtain ⟨f, hf⟩ : ∃ f, n.toNat = f + 1 := ⟨n.toNat - 1, by omega⟩
  rw [hf, decT, if_pos h]
  exact decT_more _ _ _ _ (by omega) (by omega)
theorem decT_zero {n : Int} {s : ByteArray} (h : ¬ 0 < n) : decT n.toNat n s = s := by
  have : n.toNat = 0 := by omega
  rw [this]; rfl
theorem conv1 (w : World) (z : Int) : (convert 61 9 (.slice (some ⟨w.heap.size, 0, none⟩) 1 1)).run Try.prog (w.alloc (.cells #[.int .u8 z] 5)) = .ok (.string (ByteArray.empty.push (UInt8.ofNat z.toNat))) (w.alloc (.cells #[.int .u8 z] 5)) := by
  rw [run_convert_bytes_string _ _ _ _ _ _ _ Try.underlying61 Try.underlying5 Try.underlying9]
  have hl := run_loadCells_list (P := Try.prog) (w.alloc (.cells #[.int .u8 z] 5)) ⟨w.heap.size, 0, none⟩ [.int .u8 z] (fun j v hj => by
    have := new_cells w [.int .u8 z] 5 j v hj
    exact this)
  exact run_bytesToString _ _ 1 1 [z] hl
set_option maxRecDepth 100000 in
set_option maxHeartbeats 1000000 in
theorem markText_c (k : Int) (h0 : 0 ≤ k) (h1 : k ≤ 1000000000000) (w : World) : Calls Try.prog 130 #[.int .i64 k] w fun e w' => e = .returned (.string (markT k)) ∧ Grow w w' := by
  by_cases hk : k ≤ 0
  · have HR := Lib.hid (show markT k = ⟨#[109, 48]⟩ by unfold markT; rw [if_pos hk])
    go_enter Try.func130, Try.ntmps130
    go_wp2
    go_ret
    exact ⟨ret_str HR.out.symm, Grow.refl _⟩
  · have HR := Lib.hid (show markT k = ⟨#[109]⟩ ++ decT k.toNat k ⟨#[]⟩ by unfold markT; rw [if_neg hk])
    have hcv := conv1
    go_enter Try.func130, Try.ntmps130
    go_wp2
    go_loopw [0, 3] (fun q o wr => ∃ (n : Int) (s : ByteArray), q = .int .i64 n ∧ o = .string s ∧ 0 ≤ n ∧ n ≤ 1000000000000 ∧ (s.size : Int) + n ≤ 1000000000000 ∧ Hid (decT k.toNat k ⟨#[]⟩ = decT n.toNat n s) ∧ Hid (Grow w wr)) (fun q _ _ => (intOf q).toNat)
    case atStart => exact ⟨k, _, rfl, rfl, by omega, by omega, by show ((0 : Nat) : Int) + k ≤ _; omega, rfl, Grow.refl _⟩
    case round =>
      obtain ⟨n, s, rfl, rfl, hn0, hn1, hsz, hd, hgr⟩ := hrel
      by_cases hn : 0 < n
      · have HS := Lib.hid (hd.out.trans (decT_step hn))
        have hs1 : (ByteArray.empty.push (UInt8.ofNat (48 + n % 10).toNat) ++ s).size = s.size + 1 := by rw [ByteArray.size_append]; simp; omega
        have HS1 := Lib.hid hs1
        clear hs1
        go_wp2
        go_roundw
        case rel => exact ⟨n / 10, _, rfl, rfl, by omega, by omega, by rw [HS1.out]; omega, HS.out, by unfold Hid; have hh := hgr.out; (repeat (first | with_reducible exact Grow.refl _ | with_reducible assumption | with_reducible refine Grow.drew ?_ | with_reducible refine Grow.alloc ?_ _ | (with_reducible refine Grow.set ?_ ?_ _; rotate_left; (first | (dsimp only; omega) | (simp <;> omega)))))⟩
        case measure => simp [intOf]; omega
      · have HS := Lib.hid (hd.out.trans (decT_zero hn))
        go_wp2
        go_ret
        exact ⟨ret_str (by rw [HR.out, HS.out]), hgr.out⟩
end Go.Proofs.Ytnmknkdbeccmhaa
namespace Go.Proofs.Ytnmknkdbeccmhaa
open Go.RowKit
set_option linter.unusedSimpArgs false
set_option linter.unusedVariables false

/-- n marked elements, the first from k on, each of which takes d numbers. -/
def marks {α : Type} (f : Int → α) (d : Int) : Nat → Int → List α
  | 0, _ => []
  | n + 1, k => f k :: marks f d n (k + d)
theorem marks_len {α : Type} (f : Int → α) (d : Int) : ∀ (n : Nat) (k : Int), (marks f d n k).length = n
  | 0, _ => rfl
  | n + 1, k => by rw [marks, List.length_cons, marks_len f d n]
theorem marks_snoc {α : Type} (f : Int → α) (d : Int) : ∀ (n : Nat) (k : Int), marks f d (n + 1) k = marks f d n k ++ [f (k + d * n)]
  | 0, k => by simp [marks]
  | n + 1, k => by
    rw [marks, marks_snoc f d n (k + d), marks, List.cons_append]
    congr 3
    rw [Int.natCast_add, Int.natCast_one, Int.mul_add, Int.mul_one]
    congr 1
    omega
theorem marks_at {α : Type} (f : Int → α) (d : Int) : ∀ {n j : Nat} {k : Int}, j < n → (marks f d n k)[j]? = some (f (k + d * j))
  | 0, _, _, h => absurd h (Nat.not_lt_zero _)
  | n + 1, 0, k, _ => by simp [marks]
  | n + 1, j + 1, k, h => by
    rw [marks, List.getElem?_cons_succ, marks_at f d (by omega)]
    congr 2
    rw [Int.natCast_add, Int.natCast_one, Int.mul_add, Int.mul_one]
    omega
theorem setsAt_append : ∀ (a b : List Value) (L : List Value) (o : Nat), setsAt L o (a ++ b) = setsAt (setsAt L o a) (o + a.length) b
  | [], b, L, o => by simp [setsAt]
  | x :: a, b, L, o => by
    rw [List.cons_append, setsAt, setsAt_append a b, setsAt, List.length_cons, show o + 1 + a.length = o + (a.length + 1) by omega]
theorem own_sets_all {base T g N cap n : Nat} {Q cs rest : List Value} {w : World} (hQ : Q.length = n) (hr : cs.length ≤ rest.length) (h : w.ownsRow base T cs.length (.slice (some ⟨g, 0, none⟩) N cap) N (setsAt (Q ++ rest) n cs)) :
    w.ownsRow base T cs.length (.slice (some ⟨g, 0, none⟩) N cap) N (Q ++ (cs ++ rest.drop cs.length)) := by
  have := setsAt_mid Q (rest.take cs.length) (rest.drop cs.length) cs (by rw [List.length_take, Nat.min_eq_left hr])
  rw [List.take_append_drop, hQ] at this
  rw [← this]; exact h

def markSvc (k : Int) : Svc := ⟨markT (k), k + 1, ((k + 1 + 1) % 3 == 0), k + 1 + 1 + 1, k + 1 + 1 + 1 + 1, k + 1 + 1 + 1 + 1 + 1, k + 1 + 1 + 1 + 1 + 1 + 1, k + 1 + 1 + 1 + 1 + 1 + 1 + 1, k + 1 + 1 + 1 + 1 + 1 + 1 + 1 + 1, k + 1 + 1 + 1 + 1 + 1 + 1 + 1 + 1 + 1, k + 1 + 1 + 1 + 1 + 1 + 1 + 1 + 1 + 1 + 1, k + 1 + 1 + 1 + 1 + 1 + 1 + 1 + 1 + 1 + 1 + 1, k + 1 + 1 + 1 + 1 + 1 + 1 + 1 + 1 + 1 + 1 + 1 + 1⟩
set_option maxRecDepth 100000 in
set_option maxHeartbeats 4000000 in
theorem markStewServiceS_c {base N : Nat} {v : Value} {L : List Value} (k : Int) (h0 : 0 ≤ k) (h1 : k + 13 * N ≤ 100000000000) (w : World) (h : w.ownsRow base 83 13 v N L) :
    Calls Try.prog 90 #[v, .int .i64 k] w fun e w' => e = .returned (.int .i64 (k + 13 * N)) ∧ w'.ownsRow base 83 13 v N ((marks markSvc 13 N k).flatMap svcC) ∧ w.grownBy w' v.ownBlock := by
  rcases h.2 with ⟨rfl, rfl⟩ | ⟨g, cap, cur, rfl, hb, hg, hc, hm, hz, ht⟩
  · go_enter Try.func90, Try.ntmps90
    go_wp2
    go_loop [1, 5] (fun q i => q = .int .i64 k ∧ i = .int .i64 0) (fun _ _ => 0)
    case atStart => exact ⟨rfl, rfl⟩
    case round =>
      obtain ⟨rfl, rfl⟩ := hrel
      go_wp2
      go_ret
      exact ⟨by simp, World.ownsRow_nil _ _ _ _, World.grownBy.refl _ _⟩
  · have HO := Lib.hid h
    have capb : cap ≤ 9223372036854775807 := by unfold maxLen at hm; omega
    clear h hg hz ht hm
    go_enter Try.func90, Try.ntmps90
    go_wp2
    go_loopw [1, 5] (fun q i wr => ∃ (j : Nat) (m : Int) (rest : List Value), j ≤ N ∧ i = .int .i64 j ∧ q = .int .i64 m ∧ m = k + 13 * j ∧ Hid (wr.ownsRow base 83 13 (.slice (some ⟨g, 0, none⟩) N cap) N ((marks markSvc 13 j k).flatMap svcC ++ rest)) ∧ Hid (w.grownBy wr (some g))) (fun _ i _ => N - (intOf i).toNat)
    case atStart => exact ⟨0, k, _, Nat.zero_le _, rfl, rfl, by simp, HO.out, World.grownBy.refl _ _⟩
    case round =>
      obtain ⟨j, m, rest, hj, rfl, rfl, hm, ho, hgr⟩ := hrel
      by_cases hlt : j < N
      · have j0 : (0 : Int) ≤ (j : Int) := Int.natCast_nonneg _
        have j1 : (j : Int) < (N : Int) := by omega
        have m0 : 0 ≤ m := by omega
        have m1 : m ≤ 100000000000 - 13 := by omega
        have HM := Lib.hid hm
        have HP := Lib.hid (show ((marks markSvc 13 j k).flatMap svcC).length = j * 13 by rw [flat_len svcC_len, marks_len])
        have HR := Lib.hid (show 13 ≤ rest.length by
          have h1 := ho.out.1
          rw [List.length_append, HP.out] at h1
          omega)
        clear hm
        go_wp2_with fail
        refine (markText_c m m0 (by omega) _).mono ?_
        rintro e w2 ⟨rfl, hg2⟩
        have HO2 := Lib.hid (own_grow ho.out hg2)
        have HG2 := Lib.hid (grownBy_trans hgr.out (⟨hg2.os, hg2.tape, hg2.output, hg2.size, fun k hk _ => hg2.block k hk⟩ : wr.grownBy w2 (some g)))
        clear hg2
        obtain ⟨V, hV⟩ := own_V HO2.out
        have e0 : w2.cell? ⟨g, j * 13, none⟩ = some (V (j * 13 + 0)) := hV _ (by omega)
        have e1 : w2.cell? ⟨g, j * 13 + 1, none⟩ = some (V (j * 13 + 1)) := hV _ (by omega)
        have e2 : w2.cell? ⟨g, j * 13 + 2, none⟩ = some (V (j * 13 + 2)) := hV _ (by omega)
        have e3 : w2.cell? ⟨g, j * 13 + 3, none⟩ = some (V (j * 13 + 3)) := hV _ (by omega)
        have e4 : w2.cell? ⟨g, j * 13 + 4, none⟩ = some (V (j * 13 + 4)) := hV _ (by omega)
        have e5 : w2.cell? ⟨g, j * 13 + 5, none⟩ = some (V (j * 13 + 5)) := hV _ (by omega)
        have e6 : w2.cell? ⟨g, j * 13 + 6, none⟩ = some (V (j * 13 + 6)) := hV _ (by omega)
        have e7 : w2.cell? ⟨g, j * 13 + 7, none⟩ = some (V (j * 13 + 7)) := hV _ (by omega)
        have e8 : w2.cell? ⟨g, j * 13 + 8, none⟩ = some (V (j * 13 + 8)) := hV _ (by omega)
        have e9 : w2.cell? ⟨g, j * 13 + 9, none⟩ = some (V (j * 13 + 9)) := hV _ (by omega)
        have e10 : w2.cell? ⟨g, j * 13 + 10, none⟩ = some (V (j * 13 + 10)) := hV _ (by omega)
        have e11 : w2.cell? ⟨g, j * 13 + 11, none⟩ = some (V (j * 13 + 11)) := hV _ (by omega)
        have e12 : w2.cell? ⟨g, j * 13 + 12, none⟩ = some (V (j * 13 + 12)) := hV _ (by omega)
        have hf : ∀ i, w2.frozen? ⟨g, i, none⟩ = false := fun i => (HO2.out).frozenAt i
        clear hV
        obtain ⟨K1, K2⟩ := own_sets (svcC (markSvc m)) (j * 13) _ w2 HO2.out
        have HK1 := Lib.hid (own_sets_all (cs := svcC (markSvc m)) HP.out HR.out K1)
        have HK2 := Lib.hid (grownBy_trans HG2.out K2)
        clear K1 K2
        go_wp2
        go_roundw
        case rel => exact ⟨j + 1, _, rest.drop 13, by omega, by go_num, rfl, by have := HM.out; omega, by unfold Hid; rw [show (marks markSvc 13 (j + 1) k).flatMap svcC ++ rest.drop 13 = (marks markSvc 13 j k).flatMap svcC ++ (svcC (markSvc m) ++ rest.drop 13) by rw [marks_snoc, ← HM.out, List.flatMap_append]; simp]; exact HK1.out, HK2.out⟩
        case measure => first | (simp [intOf]; omega) | (simp [intOf]; done)
      · obtain rfl : j = N := by omega
        have HR := Lib.hid (show rest = [] by
          have h1 := ho.out.1
          rw [List.length_append, flat_len svcC_len, marks_len] at h1
          exact List.eq_nil_of_length_eq_zero (by omega))
        go_wp2
        go_ret
        exact ⟨ret_int hm, by have := ho.out; rw [HR.out, List.append_nil] at this; exact this, hgr.out⟩

def markCpy (k : Int) : Cpy := ⟨markT (k), k + 1, k + 1 + 1, k + 1 + 1 + 1, k + 1 + 1 + 1 + 1, ((k + 1 + 1 + 1 + 1 + 1) % 3 == 0), markT (k + 1 + 1 + 1 + 1 + 1 + 1)⟩
set_option maxRecDepth 100000 in
set_option maxHeartbeats 4000000 in
theorem markStewCopyS_c {base N : Nat} {v : Value} {L : List Value} (k : Int) (h0 : 0 ≤ k) (h1 : k + 7 * N ≤ 100000000000) (w : World) (h : w.ownsRow base 65 7 v N L) :
    Calls Try.prog 91 #[v, .int .i64 k] w fun e w' => e = .returned (.int .i64 (k + 7 * N)) ∧ w'.ownsRow base 65 7 v N ((marks markCpy 7 N k).flatMap cpyC) ∧ w.grownBy w' v.ownBlock := by
  rcases h.2 with ⟨rfl, rfl⟩ | ⟨g, cap, cur, rfl, hb, hg, hc, hm, hz, ht⟩
  · go_enter Try.func91, Try.ntmps91
    go_wp2
    go_loop [1, 5] (fun q i => q = .int .i64 k ∧ i = .int .i64 0) (fun _ _ => 0)
    case atStart => exact ⟨rfl, rfl⟩
    case round =>
      obtain ⟨rfl, rfl⟩ := hrel
      go_wp2
      go_ret
      exact ⟨by simp, World.ownsRow_nil _ _ _ _, World.grownBy.refl _ _⟩
  · have HO := Lib.hid h
    have capb : cap ≤ 9223372036854775807 := by unfold maxLen at hm; omega
    clear h hg hz ht hm
    go_enter Try.func91, Try.ntmps91
    go_wp2
    go_loopw [1, 5] (fun q i wr => ∃ (j : Nat) (m : Int) (rest : List Value), j ≤ N ∧ i = .int .i64 j ∧ q = .int .i64 m ∧ m = k + 7 * j ∧ Hid (wr.ownsRow base 65 7 (.slice (some ⟨g, 0, none⟩) N cap) N ((marks markCpy 7 j k).flatMap cpyC ++ rest)) ∧ Hid (w.grownBy wr (some g))) (fun _ i _ => N - (intOf i).toNat)
    case atStart => exact ⟨0, k, _, Nat.zero_le _, rfl, rfl, by simp, HO.out, World.grownBy.refl _ _⟩
    case round =>
      obtain ⟨j, m, rest, hj, rfl, rfl, hm, ho, hgr⟩ := hrel
      by_cases hlt : j < N
      · have j0 : (0 : Int) ≤ (j : Int) := Int.natCast_nonneg _
        have j1 : (j : Int) < (N : Int) := by omega
        have m0 : 0 ≤ m := by omega
        have m1 : m ≤ 100000000000 - 7 := by omega
        have HM := Lib.hid hm
        have HP := Lib.hid (show ((marks markCpy 7 j k).flatMap cpyC).length = j * 7 by rw [flat_len cpyC_len, marks_len])
        have HR := Lib.hid (show 7 ≤ rest.length by
          have h1 := ho.out.1
          rw [List.length_append, HP.out] at h1
          omega)
        clear hm
        go_wp2_with fail
        refine (markText_c m m0 (by omega) _).mono ?_
        rintro e w2 ⟨rfl, hg2⟩
        have HO2 := Lib.hid (own_grow ho.out hg2)
        have HG2 := Lib.hid (grownBy_trans hgr.out (⟨hg2.os, hg2.tape, hg2.output, hg2.size, fun k hk _ => hg2.block k hk⟩ : wr.grownBy w2 (some g)))
        clear hg2
        obtain ⟨V, hV⟩ := own_V HO2.out
        have e0 : w2.cell? ⟨g, j * 7, none⟩ = some (V (j * 7 + 0)) := hV _ (by omega)
        have e1 : w2.cell? ⟨g, j * 7 + 1, none⟩ = some (V (j * 7 + 1)) := hV _ (by omega)
        have e2 : w2.cell? ⟨g, j * 7 + 2, none⟩ = some (V (j * 7 + 2)) := hV _ (by omega)
        have e3 : w2.cell? ⟨g, j * 7 + 3, none⟩ = some (V (j * 7 + 3)) := hV _ (by omega)
        have e4 : w2.cell? ⟨g, j * 7 + 4, none⟩ = some (V (j * 7 + 4)) := hV _ (by omega)
        have e5 : w2.cell? ⟨g, j * 7 + 5, none⟩ = some (V (j * 7 + 5)) := hV _ (by omega)
        have e6 : w2.cell? ⟨g, j * 7 + 6, none⟩ = some (V (j * 7 + 6)) := hV _ (by omega)
        have hf : ∀ i, w2.frozen? ⟨g, i, none⟩ = false := fun i => (HO2.out).frozenAt i
        clear hV
        obtain ⟨K1, K2⟩ := own_sets [.string (markT (m)), .int .i64 (m + 1), .int .i64 (m + 1 + 1), .int .i64 (m + 1 + 1 + 1), .int .i64 (m + 1 + 1 + 1 + 1), .bool ((m + 1 + 1 + 1 + 1 + 1) % 3 == 0)] (j * 7) _ w2 HO2.out
        have HK1 := Lib.hid K1
        have HK2 := Lib.hid (grownBy_trans HG2.out K2)
        clear K1 K2
        go_wp2_with fail
        refine (markText_c (m + 1 + 1 + 1 + 1 + 1 + 1) (by omega) (by omega) _).mono ?_
        rintro e w3 ⟨rfl, hg3⟩
        have HO3 := Lib.hid (own_grow HK1.out hg3)
        have HG3 := Lib.hid (grownBy_trans HK2.out (⟨hg3.os, hg3.tape, hg3.output, hg3.size, fun k hk _ => hg3.block k hk⟩ : World.grownBy _ w3 (some g)))
        clear hg3 e0 e1 e2 e3 e4 e5 e6 hf
        obtain ⟨V, hV⟩ := own_V HO3.out
        have e0 : w3.cell? ⟨g, j * 7, none⟩ = some (V (j * 7 + 0)) := hV _ (by omega)
        have e1 : w3.cell? ⟨g, j * 7 + 1, none⟩ = some (V (j * 7 + 1)) := hV _ (by omega)
        have e2 : w3.cell? ⟨g, j * 7 + 2, none⟩ = some (V (j * 7 + 2)) := hV _ (by omega)
        have e3 : w3.cell? ⟨g, j * 7 + 3, none⟩ = some (V (j * 7 + 3)) := hV _ (by omega)
        have e4 : w3.cell? ⟨g, j * 7 + 4, none⟩ = some (V (j * 7 + 4)) := hV _ (by omega)
        have e5 : w3.cell? ⟨g, j * 7 + 5, none⟩ = some (V (j * 7 + 5)) := hV _ (by omega)
        have e6 : w3.cell? ⟨g, j * 7 + 6, none⟩ = some (V (j * 7 + 6)) := hV _ (by omega)
        have hf : ∀ i, w3.frozen? ⟨g, i, none⟩ = false := fun i => (HO3.out).frozenAt i
        clear hV
        obtain ⟨K1, K2⟩ := own_sets [.string (markT (m + 1 + 1 + 1 + 1 + 1 + 1))] (j * 7 + 6) _ w3 HO3.out
        have HK3 := Lib.hid (own_sets_all (cs := cpyC (markCpy m)) HP.out HR.out (show World.ownsRow _ base 65 7 _ N (setsAt _ (j * 7) ([.string (markT (m)), .int .i64 (m + 1), .int .i64 (m + 1 + 1), .int .i64 (m + 1 + 1 + 1), .int .i64 (m + 1 + 1 + 1 + 1), .bool ((m + 1 + 1 + 1 + 1 + 1) % 3 == 0)] ++ [.string (markT (m + 1 + 1 + 1 + 1 + 1 + 1))])) by rw [setsAt_append]; exact K1))
        have HK4 := Lib.hid (grownBy_trans HG3.out K2)
        clear K1 K2
        go_wp2
        go_roundw
        case rel => exact ⟨j + 1, _, rest.drop 7, by omega, by go_num, rfl, by have := HM.out; omega, by unfold Hid; rw [show (marks markCpy 7 (j + 1) k).flatMap cpyC ++ rest.drop 7 = (marks markCpy 7 j k).flatMap cpyC ++ (cpyC (markCpy m) ++ rest.drop 7) by rw [marks_snoc, ← HM.out, List.flatMap_append]; simp]; exact HK3.out, HK4.out⟩
        case measure => first | (simp [intOf]; omega) | (simp [intOf]; done)
      · obtain rfl : j = N := by omega
        have HR := Lib.hid (show rest = [] by
          have h1 := ho.out.1
          rw [List.length_append, flat_len cpyC_len, marks_len] at h1
          exact List.eq_nil_of_length_eq_zero (by omega))
        go_wp2
        go_ret
        exact ⟨ret_int hm, by have := ho.out; rw [HR.out, List.append_nil] at this; exact this, hgr.out⟩

def markBrt (k : Int) : Brt := ⟨markT (k), ((k + 1) % 3 == 0)⟩
set_option maxRecDepth 100000 in
set_option maxHeartbeats 4000000 in
theorem markStewBerthS_c {base N : Nat} {v : Value} {L : List Value} (k : Int) (h0 : 0 ≤ k) (h1 : k + 2 * N ≤ 100000000000) (w : World) (h : w.ownsRow base 104 2 v N L) :
    Calls Try.prog 92 #[v, .int .i64 k] w fun e w' => e = .returned (.int .i64 (k + 2 * N)) ∧ w'.ownsRow base 104 2 v N ((marks markBrt 2 N k).flatMap brtC) ∧ w.grownBy w' v.ownBlock := by
  rcases h.2 with ⟨rfl, rfl⟩ | ⟨g, cap, cur, rfl, hb, hg, hc, hm, hz, ht⟩
  · go_enter Try.func92, Try.ntmps92
    go_wp2
    go_loop [1, 5] (fun q i => q = .int .i64 k ∧ i = .int .i64 0) (fun _ _ => 0)
    case atStart => exact ⟨rfl, rfl⟩
    case round =>
      obtain ⟨rfl, rfl⟩ := hrel
      go_wp2
      go_ret
      exact ⟨by simp, World.ownsRow_nil _ _ _ _, World.grownBy.refl _ _⟩
  · have HO := Lib.hid h
    have capb : cap ≤ 9223372036854775807 := by unfold maxLen at hm; omega
    clear h hg hz ht hm
    go_enter Try.func92, Try.ntmps92
    go_wp2
    go_loopw [1, 5] (fun q i wr => ∃ (j : Nat) (m : Int) (rest : List Value), j ≤ N ∧ i = .int .i64 j ∧ q = .int .i64 m ∧ m = k + 2 * j ∧ Hid (wr.ownsRow base 104 2 (.slice (some ⟨g, 0, none⟩) N cap) N ((marks markBrt 2 j k).flatMap brtC ++ rest)) ∧ Hid (w.grownBy wr (some g))) (fun _ i _ => N - (intOf i).toNat)
    case atStart => exact ⟨0, k, _, Nat.zero_le _, rfl, rfl, by simp, HO.out, World.grownBy.refl _ _⟩
    case round =>
      obtain ⟨j, m, rest, hj, rfl, rfl, hm, ho, hgr⟩ := hrel
      by_cases hlt : j < N
      · have j0 : (0 : Int) ≤ (j : Int) := Int.natCast_nonneg _
        have j1 : (j : Int) < (N : Int) := by omega
        have m0 : 0 ≤ m := by omega
        have m1 : m ≤ 100000000000 - 2 := by omega
        have HM := Lib.hid hm
        have HP := Lib.hid (show ((marks markBrt 2 j k).flatMap brtC).length = j * 2 by rw [flat_len brtC_len, marks_len])
        have HR := Lib.hid (show 2 ≤ rest.length by
          have h1 := ho.out.1
          rw [List.length_append, HP.out] at h1
          omega)
        clear hm
        go_wp2_with fail
        refine (markText_c m m0 (by omega) _).mono ?_
        rintro e w2 ⟨rfl, hg2⟩
        have HO2 := Lib.hid (own_grow ho.out hg2)
        have HG2 := Lib.hid (grownBy_trans hgr.out (⟨hg2.os, hg2.tape, hg2.output, hg2.size, fun k hk _ => hg2.block k hk⟩ : wr.grownBy w2 (some g)))
        clear hg2
        obtain ⟨V, hV⟩ := own_V HO2.out
        have e0 : w2.cell? ⟨g, j * 2, none⟩ = some (V (j * 2 + 0)) := hV _ (by omega)
        have e1 : w2.cell? ⟨g, j * 2 + 1, none⟩ = some (V (j * 2 + 1)) := hV _ (by omega)
        have hf : ∀ i, w2.frozen? ⟨g, i, none⟩ = false := fun i => (HO2.out).frozenAt i
        clear hV
        obtain ⟨K1, K2⟩ := own_sets (brtC (markBrt m)) (j * 2) _ w2 HO2.out
        have HK1 := Lib.hid (own_sets_all (cs := brtC (markBrt m)) HP.out HR.out K1)
        have HK2 := Lib.hid (grownBy_trans HG2.out K2)
        clear K1 K2
        go_wp2
        go_roundw
        case rel => exact ⟨j + 1, _, rest.drop 2, by omega, by go_num, rfl, by have := HM.out; omega, by unfold Hid; rw [show (marks markBrt 2 (j + 1) k).flatMap brtC ++ rest.drop 2 = (marks markBrt 2 j k).flatMap brtC ++ (brtC (markBrt m) ++ rest.drop 2) by rw [marks_snoc, ← HM.out, List.flatMap_append]; simp]; exact HK1.out, HK2.out⟩
        case measure => first | (simp [intOf]; omega) | (simp [intOf]; done)
      · obtain rfl : j = N := by omega
        have HR := Lib.hid (show rest = [] by
          have h1 := ho.out.1
          rw [List.length_append, flat_len brtC_len, marks_len] at h1
          exact List.eq_nil_of_length_eq_zero (by omega))
        go_wp2
        go_ret
        exact ⟨ret_int hm, by have := ho.out; rw [HR.out, List.append_nil] at this; exact this, hgr.out⟩

end Go.Proofs.Ytnmknkdbeccmhaa
