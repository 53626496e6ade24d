/- The walks of the look-ups (service, berth) and of the tests on copies. -/
import Derived.Test.YtnmknkdbeccmhaaB1
namespace Go.Proofs.Ytnmknkdbeccmhaa
open Go.RowKit
set_option linter.unusedSimpArgs false

set_option maxHeartbeats 1000000 in
theorem l1Service_c (b : Book) {A1 A2 A3 : Option Addr} {n2 n3 c1 c2 c3 : Nat} (nm : ByteArray) (w : World) (h : Rows 13 svcC w A1 b.svcs) (hl : b.svcs.length ≤ 2000000) :
    Calls Try.prog 121 #[.agg #[.int .i64 b.now, .slice A1 b.svcs.length c1, .slice A2 n2 c2, .slice A3 n3 c3], .string nm] w fun e w' => e = .returned (.int .i64 (idxI (svcAt b.svcs nm))) ∧ Grow w w' := by
  have H := Lib.hid h
  clear h
  go_enter Try.func121, Try.ntmps121
  go_wp2
  go_loop [5] (fun i => ∃ k : Nat, k ≤ b.svcs.length ∧ i = .int .i64 k ∧ Hid (svcAt b.svcs nm = fIdx (fun s => eqN s.name nm) (b.svcs.drop k) k)) (fun i => b.svcs.length - (intOf i).toNat)
  case atStart => exact ⟨0, Nat.zero_le _, rfl, rfl⟩
  case round =>
    obtain ⟨k, hk, rfl, hi⟩ := hrel
    by_cases hlt : k < b.svcs.length
    · obtain ⟨x, hx⟩ := ex_at hlt
      obtain ⟨bb, o, rfl, hbb, f0, -⟩ := svc_at H.out hx
      have hd := Lib.hid (drop_at hx)
      clear hx
      go_wp2
      · go_ret
        exact ⟨ret_int (by rw [hi.out, hd.out, fIdx, if_pos (by simpa [eqN] using ‹(x.name.toList == nm.toList) = true›)]; rfl), (Grow.refl _).alloc _⟩
      · go_round
        case rel => exact ⟨k + 1, by omega, by go_num, by unfold Hid; rw [hi.out, hd.out, fIdx, if_neg (by go_light; simp_all [eqN])]⟩
        case measure => simp [intOf]; omega
    · obtain rfl : k = b.svcs.length := by omega
      go_wp2
      go_ret
      exact ⟨ret_int (by rw [hi.out, List.drop_length]; rfl), (Grow.refl _).alloc _⟩
set_option maxHeartbeats 1000000 in
theorem l1Berth_c (b : Book) {A1 A2 A3 : Option Addr} {n1 n2 c1 c2 c3 : Nat} (nm : ByteArray) (w : World) (h : Rows 2 brtC w A3 b.brs) (hl : b.brs.length ≤ 2000000) :
    Calls Try.prog 122 #[.agg #[.int .i64 b.now, .slice A1 n1 c1, .slice A2 n2 c2, .slice A3 b.brs.length c3], .string nm] w fun e w' => e = .returned (.int .i64 (idxI (brtAt b.brs nm))) ∧ Grow w w' := by
  have H := Lib.hid h
  clear h
  go_enter Try.func122, Try.ntmps122
  go_wp2
  go_loop [5] (fun i => ∃ k : Nat, k ≤ b.brs.length ∧ i = .int .i64 k ∧ Hid (brtAt b.brs nm = fIdx (fun s => eqN s.name nm) (b.brs.drop k) k)) (fun i => b.brs.length - (intOf i).toNat)
  case atStart => exact ⟨0, Nat.zero_le _, rfl, rfl⟩
  case round =>
    obtain ⟨k, hk, rfl, hi⟩ := hrel
    by_cases hlt : k < b.brs.length
    · obtain ⟨x, hx⟩ := ex_at hlt
      obtain ⟨bb, o, rfl, hbb, f0, -⟩ := brt_at H.out hx
      have hd := Lib.hid (drop_at hx)
      clear hx
      go_wp2
      · go_ret
        exact ⟨ret_int (by rw [hi.out, hd.out, fIdx, if_pos (by simpa [eqN] using ‹(x.name.toList == nm.toList) = true›)]; rfl), (Grow.refl _).alloc _⟩
      · go_round
        case rel => exact ⟨k + 1, by omega, by go_num, by unfold Hid; rw [hi.out, hd.out, fIdx, if_neg (by go_light; simp_all [eqN])]⟩
        case measure => simp [intOf]; omega
    · obtain rfl : k = b.brs.length := by omega
      go_wp2
      go_ret
      exact ⟨ret_int (by rw [hi.out, List.drop_length]; rfl), (Grow.refl _).alloc _⟩

theorem l1Service_r (b : Book) {A1 A2 A3 : Option Addr} {n2 n3 c1 c2 c3 : Nat} (nm : ByteArray) (w : World) (r : Int) (h : Rows 13 svcC w A1 b.svcs) (hl : b.svcs.length ≤ 2000000) (hr : idxI (svcAt b.svcs nm) = r) :
    Calls Try.prog 121 #[.agg #[.int .i64 b.now, .slice A1 b.svcs.length c1, .slice A2 n2 c2, .slice A3 n3 c3], .string nm] w fun e w' => e = .returned (.int .i64 r) ∧ Grow w w' := by
  rw [← hr]; exact l1Service_c b nm w h hl
theorem l1Berth_r (b : Book) {A1 A2 A3 : Option Addr} {n1 n2 c1 c2 c3 : Nat} (nm : ByteArray) (w : World) (r : Int) (h : Rows 2 brtC w A3 b.brs) (hl : b.brs.length ≤ 2000000) (hr : idxI (brtAt b.brs nm) = r) :
    Calls Try.prog 122 #[.agg #[.int .i64 b.now, .slice A1 n1 c1, .slice A2 n2 c2, .slice A3 b.brs.length c3], .string nm] w fun e w' => e = .returned (.int .i64 r) ∧ Grow w w' := by
  rw [← hr]; exact l1Berth_c b nm w h hl
/-- Where element i of n cells lies. -/
def elemPtr (n : Nat) (A : Option Addr) (i : Option Nat) : Option Addr := i.bind fun i => A.map fun a => ⟨a.block, a.off + i * n, none⟩
theorem ret_ptr {a b : Option Addr} (h : a = b) : Ending.returned (.pointer a) = .returned (.pointer b) := by rw [h]
/-- A book behind a pointer: its block. -/
def BookBlk (w : World) (g : Nat) (b : Book) (A1 A2 A3 : Option Addr) (c1 c2 c3 : Nat) : Prop :=
  w.heap[g]? = some (.cells #[.int .i64 b.now, .slice A1 b.svcs.length c1, .slice A2 b.cps.length c2, .slice A3 b.brs.length c3] 34 (0, 0))
theorem BookBlk.at_ {w : World} {g : Nat} {b : Book} {A1 A2 A3 : Option Addr} {c1 c2 c3 : Nat} (h : BookBlk w g b A1 A2 A3 c1 c2 c3) :
    g < w.heap.size ∧ w.cell? ⟨g, 0, none⟩ = some (.int .i64 b.now) ∧ w.cell? ⟨g, 1, none⟩ = some (.slice A1 b.svcs.length c1) ∧ w.cell? ⟨g, 2, none⟩ = some (.slice A2 b.cps.length c2) ∧ w.cell? ⟨g, 3, none⟩ = some (.slice A3 b.brs.length c3) := by
  unfold BookBlk at h
  have hc := fun i => cell_of_row w g i _ _ _ h
  exact ⟨(Array.getElem?_eq_some_iff.1 h).1, hc 0, hc 1, hc 2, hc 3⟩
set_option maxHeartbeats 1000000 in
theorem service_c (b : Book) {g : Nat} {A1 A2 A3 : Option Addr} {c1 c2 c3 : Nat} (nm : ByteArray) (w : World) (hb : BookBlk w g b A1 A2 A3 c1 c2 c3) (h : Rows 13 svcC w A1 b.svcs) (hl : b.svcs.length ≤ 2000000) :
    Calls Try.prog 71 #[.pointer (some ⟨g, 0, none⟩), .string nm] w fun e w' => e = .returned (.pointer (elemPtr 13 A1 (svcAt b.svcs nm))) ∧ w = w' := by
  have H := Lib.hid h
  obtain ⟨-, -, hb1, -, -⟩ := hb.at_
  clear h hb
  go_enter Try.func71, Try.ntmps71
  go_wp2
  go_loop [11] (fun i => ∃ k : Nat, k ≤ b.svcs.length ∧ i = .int .i64 k ∧ Hid (svcAt b.svcs nm = fIdx (fun s => eqN s.name nm) (b.svcs.drop k) k)) (fun i => b.svcs.length - (intOf i).toNat)
  case atStart => exact ⟨0, Nat.zero_le _, rfl, rfl⟩
  case round =>
    obtain ⟨k, hk, rfl, hi⟩ := hrel
    by_cases hlt : k < b.svcs.length
    · obtain ⟨x, hx⟩ := ex_at hlt
      obtain ⟨bb, o, rfl, hbb, f0, -⟩ := svc_at H.out hx
      have hd := Lib.hid (drop_at hx)
      clear hx
      go_wp2
      · go_ret
        exact ⟨ret_ptr (by rw [hi.out, hd.out, fIdx, if_pos (by simpa [eqN] using ‹(x.name.toList == nm.toList) = true›)]; rfl), rfl⟩
      · go_round
        case rel => exact ⟨k + 1, by omega, by go_num, by unfold Hid; rw [hi.out, hd.out, fIdx, if_neg (by go_light; simp_all [eqN])]⟩
        case measure => simp [intOf]; omega
    · obtain rfl : k = b.svcs.length := by omega
      go_wp2
      go_ret
      exact ⟨ret_ptr (by rw [hi.out, List.drop_length]; rfl), rfl⟩
set_option maxHeartbeats 1000000 in
theorem berth_c (b : Book) {g : Nat} {A1 A2 A3 : Option Addr} {c1 c2 c3 : Nat} (nm : ByteArray) (w : World) (hb : BookBlk w g b A1 A2 A3 c1 c2 c3) (h : Rows 2 brtC w A3 b.brs) (hl : b.brs.length ≤ 2000000) :
    Calls Try.prog 72 #[.pointer (some ⟨g, 0, none⟩), .string nm] w fun e w' => e = .returned (.pointer (elemPtr 2 A3 (brtAt b.brs nm))) ∧ w = w' := by
  have H := Lib.hid h
  obtain ⟨-, -, -, -, hb1⟩ := hb.at_
  clear h hb
  go_enter Try.func72, Try.ntmps72
  go_wp2
  go_loop [11] (fun i => ∃ k : Nat, k ≤ b.brs.length ∧ i = .int .i64 k ∧ Hid (brtAt b.brs nm = fIdx (fun s => eqN s.name nm) (b.brs.drop k) k)) (fun i => b.brs.length - (intOf i).toNat)
  case atStart => exact ⟨0, Nat.zero_le _, rfl, rfl⟩
  case round =>
    obtain ⟨k, hk, rfl, hi⟩ := hrel
    by_cases hlt : k < b.brs.length
    · obtain ⟨x, hx⟩ := ex_at hlt
      obtain ⟨bb, o, rfl, hbb, f0, -⟩ := brt_at H.out hx
      have hd := Lib.hid (drop_at hx)
      clear hx
      go_wp2
      · go_ret
        exact ⟨ret_ptr (by rw [hi.out, hd.out, fIdx, if_pos (by simpa [eqN] using ‹(x.name.toList == nm.toList) = true›)]; rfl), rfl⟩
      · go_round
        case rel => exact ⟨k + 1, by omega, by go_num, by unfold Hid; rw [hi.out, hd.out, fIdx, if_neg (by go_light; simp_all [eqN])]⟩
        case measure => simp [intOf]; omega
    · obtain rfl : k = b.brs.length := by omega
      go_wp2
      go_ret
      exact ⟨ret_ptr (by rw [hi.out, List.drop_length]; rfl), rfl⟩
theorem service_r (b : Book) {g : Nat} {A1 A2 A3 : Option Addr} {c1 c2 c3 : Nat} (nm : ByteArray) (w : World) (r : Option Addr) (hb : BookBlk w g b A1 A2 A3 c1 c2 c3) (h : Rows 13 svcC w A1 b.svcs) (hl : b.svcs.length ≤ 2000000) (hr : elemPtr 13 A1 (svcAt b.svcs nm) = r) :
    Calls Try.prog 71 #[.pointer (some ⟨g, 0, none⟩), .string nm] w fun e w' => e = .returned (.pointer r) ∧ w = w' := by
  rw [← hr]; exact service_c b nm w hb h hl
theorem berth_r (b : Book) {g : Nat} {A1 A2 A3 : Option Addr} {c1 c2 c3 : Nat} (nm : ByteArray) (w : World) (r : Option Addr) (hb : BookBlk w g b A1 A2 A3 c1 c2 c3) (h : Rows 2 brtC w A3 b.brs) (hl : b.brs.length ≤ 2000000) (hr : elemPtr 2 A3 (brtAt b.brs nm) = r) :
    Calls Try.prog 72 #[.pointer (some ⟨g, 0, none⟩), .string nm] w fun e w' => e = .returned (.pointer r) ∧ w = w' := by
  rw [← hr]; exact berth_c b nm w hb h hl
theorem BookBlk.grow {w w' : World} {g : Nat} {b : Book} {A1 A2 A3 : Option Addr} {c1 c2 c3 : Nat} (h : BookBlk w g b A1 A2 A3 c1 c2 c3) (hg : Grow w w') : BookBlk w' g b A1 A2 A3 c1 c2 c3 := (hg.block g (Array.getElem?_eq_some_iff.1 h).1).trans h
theorem BookBlk.p {w : World} {g : Nat} {b : Book} {A1 A2 A3 : Option Addr} {c1 c2 c3 : Nat} (h : BookBlk w g b A1 A2 A3 c1 c2 c3) :
    g < w.heap.size ∧ (∀ y, (wplus w y).cell? ⟨g, 0, none⟩ = some (.int .i64 b.now)) ∧ (∀ y, (wplus w y).cell? ⟨g, 1, none⟩ = some (.slice A1 b.svcs.length c1)) ∧ (∀ y, (wplus w y).cell? ⟨g, 2, none⟩ = some (.slice A2 b.cps.length c2)) ∧ (∀ y, (wplus w y).cell? ⟨g, 3, none⟩ = some (.slice A3 b.brs.length c3)) :=
  ⟨(Array.getElem?_eq_some_iff.1 h).1, blk_p h 0, blk_p h 1, blk_p h 2, blk_p h 3⟩
set_option maxHeartbeats 1000000 in
theorem l1Ahead_c (a b : Cpy) (w : World) : Calls Try.prog 64 #[.agg #[.string a.service, .int .i64 a.number, .int .i64 a.version, .int .i64 a.image, .int .i64 a.state, .bool a.ending, .string a.berth], .agg #[.string b.service, .int .i64 b.number, .int .i64 b.version, .int .i64 b.image, .int .i64 b.state, .bool b.ending, .string b.berth]] w
    fun e w' => e = .returned (.bool (ahead a b)) ∧ Grow w w' := by
  go_enter Try.func64, Try.ntmps64
  go_wp2
  all_goals
    go_ret
    refine ⟨ret_bool ?_, ((Grow.refl _).alloc _).alloc _⟩
    go_light
    simp_all [ahead, ltN, eqN]
end Go.Proofs.Ytnmknkdbeccmhaa
