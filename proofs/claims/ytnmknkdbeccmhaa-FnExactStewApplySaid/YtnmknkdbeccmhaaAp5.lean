/- The walks of the small tests on names and services. The walks of the look-ups (service, berth) and of the tests on copies. The walks of the tests on copies and on whole books. -/
import Derived.Test.YtnmknkdbeccmhaaAp3
import Derived.Test.YtnmknkdbeccmhaaAp1
namespace Go.Proofs.Ytnmknkdbeccmhaa
open Go.RowKit
set_option linter.unusedSimpArgs false

theorem l1In_c (n lo hi : Int) (w : World) : Calls Try.prog 60 #[.int .i64 n, .int .i64 lo, .int .i64 hi] w fun e w' => e = .returned (.bool (inB lo n hi)) ∧ w = w' := by
  go_enter Try.func60, Try.ntmps60
  go_wp2
  all_goals (go_ret; exact ⟨by simp [inB] <;> omega, rfl⟩)
theorem within_c (n lo hi : Int) (w : World) : Calls Try.prog 68 #[.int .i64 n, .int .i64 lo, .int .i64 hi] w fun e w' => e = .returned (.bool (inB lo n hi)) ∧ w = w' := by
  go_enter Try.func68, Try.ntmps68
  go_wp2
  all_goals (go_ret; exact ⟨by simp [inB] <;> omega, rfl⟩)
theorem drop_byte (s : ByteArray) {k : Nat} (h : k < s.size) : s.data.toList.drop k = s[k] :: s.data.toList.drop (k + 1) := by
  rw [List.drop_eq_getElem_cons (by simpa using h)]; rfl
theorem isName_c (s : ByteArray) (w : World) : Calls Try.prog 70 #[.string s] w fun e w' => e = .returned (.bool (nameOk s)) ∧ w = w' := by
  by_cases hs : 1 ≤ (s.size : Int) ∧ (s.size : Int) ≤ 20
  · obtain ⟨h1, h2⟩ := hs
    have HN := Lib.hid (nameOk_len ⟨h1, h2⟩)
    go_enter Try.func70, Try.ntmps70
    go_wp2
    go_loop [15] (fun i => ∃ k : Nat, k ≤ s.size ∧ i = .int .i64 k ∧ Hid (s.data.toList.all chOk = (s.data.toList.drop k).all chOk)) (fun i => s.size - (intOf i).toNat)
    case atStart => exact ⟨0, Nat.zero_le _, rfl, rfl⟩
    case round =>
      obtain ⟨k, hk, rfl, hi⟩ := hrel
      by_cases hlt : k < s.size
      · have hd := Lib.hid (drop_byte s hlt)
        go_wp2
        all_goals first
          | (go_ret; exact ⟨ret_bool (by rw [HN.out, hi.out, hd.out, List.all_cons, show chOk s[k] = false from decide_eq_false (by go_light; simp_all <;> omega)]; rfl), rfl⟩)
          | (go_round
             case rel => exact ⟨k + 1, by omega, by go_num, by unfold Hid; rw [hi.out, hd.out, List.all_cons, show chOk s[k] = true from decide_eq_true (by go_light; simp_all <;> omega)]; rfl⟩
             case measure => simp [intOf]; omega)
      · obtain rfl : k = s.size := by omega
        go_wp2
        go_ret
        exact ⟨ret_bool (by rw [HN.out, hi.out, List.drop_of_length_le (by simp)]; rfl), rfl⟩
  · have HN := Lib.hid (nameOk_short hs)
    go_enter Try.func70, Try.ntmps70
    go_wp2
    all_goals first
      | (go_ret; exact ⟨ret_bool HN.out.symm, rfl⟩)
      | (exfalso; go_light; simp_all <;> omega)
theorem l1NameOk_c (s : ByteArray) (w : World) : Calls Try.prog 62 #[.string s] w fun e w' => e = .returned (.bool (nameOk s)) ∧ w = w' := by
  by_cases hs : 1 ≤ (s.size : Int) ∧ (s.size : Int) ≤ 20
  · obtain ⟨h1, h2⟩ := hs
    have HN := Lib.hid (nameOk_len ⟨h1, h2⟩)
    have hb : inB 1 (s.size : Int) 20 = true := decide_eq_true ⟨h1, h2⟩
    go_enter Try.func62, Try.ntmps62
    go_wp2_with (go_at_call 60; refine (l1In_c _ _ _ _).mono ?_; rintro e w' ⟨rfl, rfl⟩)
    go_loop [3] (fun i => ∃ k : Nat, k ≤ s.size ∧ i = .int .i64 k ∧ Hid (s.data.toList.all chOk = (s.data.toList.drop k).all chOk)) (fun i => s.size - (intOf i).toNat)
    case atStart => exact ⟨0, Nat.zero_le _, rfl, rfl⟩
    case round =>
      obtain ⟨k, hk, rfl, hi⟩ := hrel
      by_cases hlt : k < s.size
      · have hd := Lib.hid (drop_byte s hlt)
        go_wp2
        all_goals first
          | (go_ret; exact ⟨ret_bool (by rw [HN.out, hi.out, hd.out, List.all_cons, show chOk s[k] = false from decide_eq_false (by go_light; simp_all <;> omega)]; rfl), rfl⟩)
          | (go_round
             case rel => exact ⟨k + 1, by omega, by go_num, by unfold Hid; rw [hi.out, hd.out, List.all_cons, show chOk s[k] = true from decide_eq_true (by go_light; simp_all <;> omega)]; rfl⟩
             case measure => simp [intOf]; omega)
      · obtain rfl : k = s.size := by omega
        go_wp2
        go_ret
        exact ⟨ret_bool (by rw [HN.out, hi.out, List.drop_of_length_le (by simp)]; rfl), rfl⟩
  · have HN := Lib.hid (nameOk_short hs)
    have hb : inB 1 (s.size : Int) 20 = false := decide_eq_false hs
    clear hs
    go_enter Try.func62, Try.ntmps62
    go_wp2_with (go_at_call 60; refine (l1In_c _ _ _ _).mono ?_; rintro e w' ⟨rfl, rfl⟩)
    go_ret
    exact ⟨ret_bool HN.out.symm, rfl⟩
set_option maxHeartbeats 4000000 in
theorem serviceOk_c (s : Svc) (now : Int) (w : World) : Calls Try.prog 69 #[.agg #[.string s.name, .int .i64 s.version, .bool s.gone, .int .i64 s.image, .int .i64 s.want, .int .i64 s.down, .int .i64 s.over, .int .i64 s.next, .int .i64 s.per, .int .i64 s.least, .int .i64 s.most, .int .i64 s.load, .int .i64 s.cool], .int .i64 now] w fun e w' => e = .returned (.bool (svcOk s now)) ∧ Below w.heap.size w w' := by
  go_enter Try.func69, Try.ntmps69
  go_wp2_with (first | (go_at_call 68; refine (within_c _ _ _ _).mono ?_; rintro e w' ⟨rfl, rfl⟩) | (go_at_call 70; refine (isName_c _ _).mono ?_; rintro e w' ⟨rfl, rfl⟩))
  all_goals
    go_ret
    refine ⟨ret_bool ?_, (Below.refl _ _).alloc (Nat.le_refl _) _⟩
    go_light
    rw [Bool.eq_iff_iff, svcOk_iff]
    unfold SvcNum
    by_cases hn : nameOk s.name = true
    all_goals
      simp only [inB, wrap64, hn, decide_eq_true_eq, Bool.not_eq_true', Bool.not_eq_false', Bool.or_eq_true, Bool.and_eq_true, decide_eq_false_iff_not, beq_iff_eq, beq_eq_false_iff_ne, not_true_eq_false, not_false_eq_true, Bool.false_eq_true, false_and, true_and, reduceCtorEq, iff_true, true_iff, iff_false, false_iff] at *
    all_goals omega
set_option maxHeartbeats 4000000 in
theorem l1ServiceOk_c (s : Svc) (now : Int) (w : World) : Calls Try.prog 61 #[.agg #[.string s.name, .int .i64 s.version, .bool s.gone, .int .i64 s.image, .int .i64 s.want, .int .i64 s.down, .int .i64 s.over, .int .i64 s.next, .int .i64 s.per, .int .i64 s.least, .int .i64 s.most, .int .i64 s.load, .int .i64 s.cool], .int .i64 now] w fun e w' => e = .returned (.bool (svcOk s now)) ∧ Below w.heap.size w w' := by
  go_enter Try.func61, Try.ntmps61
  go_wp2_with (first | (go_at_call 60; refine (l1In_c _ _ _ _).mono ?_; rintro e w' ⟨rfl, rfl⟩) | (go_at_call 62; refine (l1NameOk_c _ _).mono ?_; rintro e w' ⟨rfl, rfl⟩))
  all_goals
    go_ret
    refine ⟨ret_bool ?_, (Below.refl _ _).alloc (Nat.le_refl _) _⟩
    go_light
    rw [Bool.eq_iff_iff, svcOk_iff]
    unfold SvcNum
    by_cases hn : nameOk s.name = true
    all_goals
      simp only [inB, wrap64, hn, decide_eq_true_eq, Bool.not_eq_true', Bool.not_eq_false', Bool.or_eq_true, Bool.and_eq_true, decide_eq_false_iff_not, beq_iff_eq, beq_eq_false_iff_ne, not_true_eq_false, not_false_eq_true, Bool.false_eq_true, false_and, true_and, reduceCtorEq, iff_true, true_iff, iff_false, false_iff] at *
    all_goals omega
end Go.Proofs.Ytnmknkdbeccmhaa
namespace Go.Proofs.Ytnmknkdbeccmhaa
open Go.RowKit
set_option linter.unusedSimpArgs false

set_option maxHeartbeats 1000000 in
theorem l1Service_c (b : Book) {A1 A2 A3 : Option Addr} {n2 n3 c1 c2 c3 : Nat} (nm : ByteArray) (w : World) (h : Rows 13 svcC w A1 b.svcs) (hl : b.svcs.length ≤ 2000000) :
    Calls Try.prog 121 #[.agg #[.int .i64 b.now, .slice A1 b.svcs.length c1, .slice A2 n2 c2, .slice A3 n3 c3], .string nm] w fun e w' => e = .returned (.int .i64 (idxI (svcAt b.svcs nm))) ∧ Grow w w' := by
  have H := Lib.hid h
  clear h
  go_enter Try.func121, Try.ntmps121
  go_wp2
  go_loop [5] (fun i => ∃ k : Nat, k ≤ b.svcs.length ∧ i = .int .i64 k ∧ Hid (svcAt b.svcs nm = fIdx (fun s => eqN s.name nm) (b.svcs.drop k) k)) (fun i => b.svcs.length - (intOf i).toNat)
  case atStart => exact ⟨0, Nat.zero_le _, rfl, rfl⟩
  case round =>
    obtain ⟨k, hk, rfl, hi⟩ := hrel
    by_cases hlt : k < b.svcs.length
    · obtain ⟨x, hx⟩ := ex_at hlt
      obtain ⟨bb, o, rfl, hbb, f0, -⟩ := svc_at H.out hx
      have hd := Lib.hid (drop_at hx)
      clear hx
      go_wp2
      · go_ret
        exact ⟨ret_int (by rw [hi.out, hd.out, fIdx, if_pos (by simpa [eqN] using ‹(x.name.toList == nm.toList) = true›)]; rfl), (Grow.refl _).alloc _⟩
      · go_round
        case rel => exact ⟨k + 1, by omega, by go_num, by unfold Hid; rw [hi.out, hd.out, fIdx, if_neg (by go_light; simp_all [eqN])]⟩
        case measure => simp [intOf]; omega
    · obtain rfl : k = b.svcs.length := by omega
      go_wp2
      go_ret
      exact ⟨ret_int (by rw [hi.out, List.drop_length]; rfl), (Grow.refl _).alloc _⟩
set_option maxHeartbeats 1000000 in
theorem l1Berth_c (b : Book) {A1 A2 A3 : Option Addr} {n1 n2 c1 c2 c3 : Nat} (nm : ByteArray) (w : World) (h : Rows 2 brtC w A3 b.brs) (hl : b.brs.length ≤ 2000000) :
    Calls Try.prog 122 #[.agg #[.int .i64 b.now, .slice A1 n1 c1, .slice A2 n2 c2, .slice A3 b.brs.length c3], .string nm] w fun e w' => e = .returned (.int .i64 (idxI (brtAt b.brs nm))) ∧ Grow w w' := by
  have H := Lib.hid h
  clear h
  go_enter Try.func122, Try.ntmps122
  go_wp2
  go_loop [5] (fun i => ∃ k : Nat, k ≤ b.brs.length ∧ i = .int .i64 k ∧ Hid (brtAt b.brs nm = fIdx (fun s => eqN s.name nm) (b.brs.drop k) k)) (fun i => b.brs.length - (intOf i).toNat)
  case atStart => exact ⟨0, Nat.zero_le _, rfl, rfl⟩
  case round =>
    obtain ⟨k, hk, rfl, hi⟩ := hrel
    by_cases hlt : k < b.brs.length
    · obtain ⟨x, hx⟩ := ex_at hlt
      obtain ⟨bb, o, rfl, hbb, f0, -⟩ := brt_at H.out hx
      have hd := Lib.hid (drop_at hx)
      clear hx
      go_wp2
      · go_ret
        exact ⟨ret_int (by rw [hi.out, hd.out, fIdx, if_pos (by simpa [eqN] using ‹(x.name.toList == nm.toList) = true›)]; rfl), (Grow.refl _).alloc _⟩
      · go_round
        case rel => exact ⟨k + 1, by omega, by go_num, by unfold Hid; rw [hi.out, hd.out, fIdx, if_neg (by go_light; simp_all [eqN])]⟩
        case measure => simp [intOf]; omega
    · obtain rfl : k = b.brs.length := by omega
      go_wp2
      go_ret
      exact ⟨ret_int (by rw [hi.out, List.drop_length]; rfl), (Grow.refl _).alloc _⟩

theorem l1Service_r (b : Book) {A1 A2 A3 : Option Addr} {n2 n3 c1 c2 c3 : Nat} (nm : ByteArray) (w : World) (r : Int) (h : Rows 13 svcC w A1 b.svcs) (hl : b.svcs.length ≤ 2000000) (hr : idxI (svcAt b.svcs nm) = r) :
    Calls Try.prog 121 #[.agg #[.int .i64 b.now, .slice A1 b.svcs.length c1, .slice A2 n2 c2, .slice A3 n3 c3], .string nm] w fun e w' => e = .returned (.int .i64 r) ∧ Grow w w' := by
  rw [← hr]; exact l1Service_c b nm w h hl
theorem l1Berth_r (b : Book) {A1 A2 A3 : Option Addr} {n1 n2 c1 c2 c3 : Nat} (nm : ByteArray) (w : World) (r : Int) (h : Rows 2 brtC w A3 b.brs) (hl : b.brs.length ≤ 2000000) (hr : idxI (brtAt b.brs nm) = r) :
    Calls Try.prog 122 #[.agg #[.int .i64 b.now, .slice A1 n1 c1, .slice A2 n2 c2, .slice A3 b.brs.length c3], .string nm] w fun e w' => e = .returned (.int .i64 r) ∧ Grow w w' := by
  rw [← hr]; exact l1Berth_c b nm w h hl
/-- Where element i of n cells lies. -/
def elemPtr (n : Nat) (A : Option Addr) (i : Option Nat) : Option Addr := i.bind fun i => A.map fun a => ⟨a.block, a.off + i * n, none⟩
theorem ret_ptr {a b : Option Addr} (h : a = b) : Ending.returned (.pointer a) = .returned (.pointer b) := by rw [h]
/-- A book behind a pointer: its block. -/
def BookBlk (w : World) (g : Nat) (b : Book) (A1 A2 A3 : Option Addr) (c1 c2 c3 : Nat) : Prop :=
  w.heap[g]? = some (.cells #[.int .i64 b.now, .slice A1 b.svcs.length c1, .slice A2 b.cps.length c2, .slice A3 b.brs.length c3] 34 (0, 0))
theorem BookBlk.at_ {w : World} {g : Nat} {b : Book} {A1 A2 A3 : Option Addr} {c1 c2 c3 : Nat} (h : BookBlk w g b A1 A2 A3 c1 c2 c3) :
    g < w.heap.size ∧ w.cell? ⟨g, 0, none⟩ = some (.int .i64 b.now) ∧ w.cell? ⟨g, 1, none⟩ = some (.slice A1 b.svcs.length c1) ∧ w.cell? ⟨g, 2, none⟩ = some (.slice A2 b.cps.length c2) ∧ w.cell? ⟨g, 3, none⟩ = some (.slice A3 b.brs.length c3) := by
  unfold BookBlk at h
  have hc := fun i => cell_of_row w g i _ _ _ h
  exact ⟨(Array.getElem?_eq_some_iff.1 h).1, hc 0, hc 1, hc 2, hc 3⟩
set_option maxHeartbeats 1000000 in
theorem service_c (b : Book) {g : Nat} {A1 A2 A3 : Option Addr} {c1 c2 c3 : Nat} (nm : ByteArray) (w : World) (hb : BookBlk w g b A1 A2 A3 c1 c2 c3) (h : Rows 13 svcC w A1 b.svcs) (hl : b.svcs.length ≤ 2000000) :
    Calls Try.prog 71 #[.pointer (some ⟨g, 0, none⟩), .string nm] w fun e w' => e = .returned (.pointer (elemPtr 13 A1 (svcAt b.svcs nm))) ∧ w = w' := by
  have H := Lib.hid h
  obtain ⟨-, -, hb1, -, -⟩ := hb.at_
  clear h hb
  go_enter Try.func71, Try.ntmps71
  go_wp2
  go_loop [11] (fun i => ∃ k : Nat, k ≤ b.svcs.length ∧ i = .int .i64 k ∧ Hid (svcAt b.svcs nm = fIdx (fun s => eqN s.name nm) (b.svcs.drop k) k)) (fun i => b.svcs.length - (intOf i).toNat)
  case atStart => exact ⟨0, Nat.zero_le _, rfl, rfl⟩
  case round =>
    obtain ⟨k, hk, rfl, hi⟩ := hrel
    by_cases hlt : k < b.svcs.length
    · obtain ⟨x, hx⟩ := ex_at hlt
      obtain ⟨bb, o, rfl, hbb, f0, -⟩ := svc_at H.out hx
      have hd := Lib.hid (drop_at hx)
      clear hx
      go_wp2
      · go_ret
        exact ⟨ret_ptr (by rw [hi.out, hd.out, fIdx, if_pos (by simpa [eqN] using ‹(x.name.toList == nm.toList) = true›)]; rfl), rfl⟩
      · go_round
        case rel => exact ⟨k + 1, by omega, by go_num, by unfold Hid; rw [hi.out, hd.out, fIdx, if_neg (by go_light; simp_all [eqN])]⟩
        case measure => simp [intOf]; omega
    · obtain rfl : k = b.svcs.length := by omega
      go_wp2
      go_ret
      exact ⟨ret_ptr (by rw [hi.out, List.drop_length]; rfl), rfl⟩
set_option maxHeartbeats 1000000 in
theorem berth_c (b : Book) {g : Nat} {A1 A2 A3 : Option Addr} {c1 c2 c3 : Nat} (nm : ByteArray) (w : World) (hb : BookBlk w g b A1 A2 A3 c1 c2 c3) (h : Rows 2 brtC w A3 b.brs) (hl : b.brs.length ≤ 2000000) :
    Calls Try.prog 72 #[.pointer (some ⟨g, 0, none⟩), .string nm] w fun e w' => e = .returned (.pointer (elemPtr 2 A3 (brtAt b.brs nm))) ∧ w = w' := by
  have H := Lib.hid h
  obtain ⟨-, -, -, -, hb1⟩ := hb.at_
  clear h hb
  go_enter Try.func72, Try.ntmps72
  go_wp2
  go_loop [11] (fun i => ∃ k : Nat, k ≤ b.brs.length ∧ i = .int .i64 k ∧ Hid (brtAt b.brs nm = fIdx (fun s => eqN s.name nm) (b.brs.drop k) k)) (fun i => b.brs.length - (intOf i).toNat)
  case atStart => exact ⟨0, Nat.zero_le _, rfl, rfl⟩
  case round =>
    obtain ⟨k, hk, rfl, hi⟩ := hrel
    by_cases hlt : k < b.brs.length
    · obtain ⟨x, hx⟩ := ex_at hlt
      obtain ⟨bb, o, rfl, hbb, f0, -⟩ := brt_at H.out hx
      have hd := Lib.hid (drop_at hx)
      clear hx
      go_wp2
      · go_ret
        exact ⟨ret_ptr (by rw [hi.out, hd.out, fIdx, if_pos (by simpa [eqN] using ‹(x.name.toList == nm.toList) = true›)]; rfl), rfl⟩
      · go_round
        case rel => exact ⟨k + 1, by omega, by go_num, by unfold Hid; rw [hi.out, hd.out, fIdx, if_neg (by go_light; simp_all [eqN])]⟩
        case measure => simp [intOf]; omega
    · obtain rfl : k = b.brs.length := by omega
      go_wp2
      go_ret
      exact ⟨ret_ptr (by rw [hi.out, List.drop_length]; rfl), rfl⟩
theorem service_r (b : Book) {g : Nat} {A1 A2 A3 : Option Addr} {c1 c2 c3 : Nat} (nm : ByteArray) (w : World) (r : Option Addr) (hb : BookBlk w g b A1 A2 A3 c1 c2 c3) (h : Rows 13 svcC w A1 b.svcs) (hl : b.svcs.length ≤ 2000000) (hr : elemPtr 13 A1 (svcAt b.svcs nm) = r) :
    Calls Try.prog 71 #[.pointer (some ⟨g, 0, none⟩), .string nm] w fun e w' => e = .returned (.pointer r) ∧ w = w' := by
  rw [← hr]; exact service_c b nm w hb h hl
theorem berth_r (b : Book) {g : Nat} {A1 A2 A3 : Option Addr} {c1 c2 c3 : Nat} (nm : ByteArray) (w : World) (r : Option Addr) (hb : BookBlk w g b A1 A2 A3 c1 c2 c3) (h : Rows 2 brtC w A3 b.brs) (hl : b.brs.length ≤ 2000000) (hr : elemPtr 2 A3 (brtAt b.brs nm) = r) :
    Calls Try.prog 72 #[.pointer (some ⟨g, 0, none⟩), .string nm] w fun e w' => e = .returned (.pointer r) ∧ w = w' := by
  rw [← hr]; exact berth_c b nm w hb h hl
theorem BookBlk.grow {w w' : World} {g : Nat} {b : Book} {A1 A2 A3 : Option Addr} {c1 c2 c3 : Nat} (h : BookBlk w g b A1 A2 A3 c1 c2 c3) (hg : Grow w w') : BookBlk w' g b A1 A2 A3 c1 c2 c3 := (hg.block g (Array.getElem?_eq_some_iff.1 h).1).trans h
theorem BookBlk.p {w : World} {g : Nat} {b : Book} {A1 A2 A3 : Option Addr} {c1 c2 c3 : Nat} (h : BookBlk w g b A1 A2 A3 c1 c2 c3) :
    g < w.heap.size ∧ (∀ y, (wplus w y).cell? ⟨g, 0, none⟩ = some (.int .i64 b.now)) ∧ (∀ y, (wplus w y).cell? ⟨g, 1, none⟩ = some (.slice A1 b.svcs.length c1)) ∧ (∀ y, (wplus w y).cell? ⟨g, 2, none⟩ = some (.slice A2 b.cps.length c2)) ∧ (∀ y, (wplus w y).cell? ⟨g, 3, none⟩ = some (.slice A3 b.brs.length c3)) :=
  ⟨(Array.getElem?_eq_some_iff.1 h).1, blk_p h 0, blk_p h 1, blk_p h 2, blk_p h 3⟩
set_option maxHeartbeats 1000000 in
theorem l1Ahead_c (a b : Cpy) (w : World) : Calls Try.prog 64 #[.agg #[.string a.service, .int .i64 a.number, .int .i64 a.version, .int .i64 a.image, .int .i64 a.state, .bool a.ending, .string a.berth], .agg #[.string b.service, .int .i64 b.number, .int .i64 b.version, .int .i64 b.image, .int .i64 b.state, .bool b.ending, .string b.berth]] w
    fun e w' => e = .returned (.bool (ahead a b)) ∧ Grow w w' := by
  go_enter Try.func64, Try.ntmps64
  go_wp2
  all_goals
    go_ret
    refine ⟨ret_bool ?_, ((Grow.refl _).alloc _).alloc _⟩
    go_light
    simp_all [ahead, ltN, eqN]
end Go.Proofs.Ytnmknkdbeccmhaa
namespace Go.Proofs.Ytnmknkdbeccmhaa
open Go.RowKit
set_option linter.unusedSimpArgs false

theorem svcAt_some {xs : List Svc} {nm : ByteArray} {i : Nat} (h : svcAt xs nm = some i) : ∃ x, xs[i]? = some x ∧ eqN x.name nm = true := fIdx_some0 h

set_option maxRecDepth 100000 in
set_option maxHeartbeats 4000000 in
theorem l1CopyOk_c (b : Book) (c : Cpy) {A1 A2 A3 : Option Addr} {n2 c1 c2 c3 : Nat} (w : World) (h : Rows 13 svcC w A1 b.svcs) (hl : b.svcs.length ≤ 2000000) (h3 : Rows 2 brtC w A3 b.brs) (hl3 : b.brs.length ≤ 2000000)
    (hok : ∀ x ∈ b.svcs, 1 ≤ x.next ∧ x.next ≤ 1000000) :
    Calls Try.prog 63 #[.agg #[.int .i64 b.now, .slice A1 b.svcs.length c1, .slice A2 n2 c2, .slice A3 b.brs.length c3], .agg #[.string c.service, .int .i64 c.number, .int .i64 c.version, .int .i64 c.image, .int .i64 c.state, .bool c.ending, .string c.berth]] w fun e w' => e = .returned (.bool (cpyOk b c)) ∧ Grow w w' := by
  have HH := fun (w' : World) (hg : Grow w w') => h.below hg
  have H := Lib.hid HH
  have H3 := Lib.hid (fun (w' : World) (hg : Grow w w') => h3.below hg)
  clear h h3 HH
  rcases hq : svcAt b.svcs c.service with _ | i
  · have Hr := Lib.hid (show idxI (svcAt b.svcs c.service) = -1 by rw [hq]; rfl)
    have HR := Lib.hid (show cpyOk b c = false by simp [cpyOk, hq])
    clear hq hok
    go_enter Try.func63, Try.ntmps63
    go_wp2_with (go_at_call 121; refine (l1Service_r b _ _ (-1) (H.out _ (((Grow.refl _).alloc _).alloc _)) hl Hr.out).mono ?_; rintro e w' ⟨rfl, hg⟩)
    have G := Lib.hid ((((Grow.refl _).alloc _).alloc _).trans hg)
    clear hg
    refine at_plus ?_
    refine region_quiet ⟨_, rfl⟩ (by kernel_rfl) (by kernel_rfl) ?_
    repeat (go_big_quiet_step (fail))
    refine wpQuiet_nil ?_
    rintro w2 ⟨y, rfl⟩
    go_wp2
    go_ret
    exact ⟨ret_bool HR.out.symm, G.out.trans (Grow.wplus _ _)⟩
  · obtain ⟨x, hx, -⟩ := svcAt_some hq
    obtain ⟨hx1, hx2⟩ := hok x (List.mem_of_getElem? hx)
    have hil : i < b.svcs.length := (List.getElem?_eq_some_iff.1 hx).1
    have Hr := Lib.hid (show idxI (svcAt b.svcs c.service) = (i : Int) by rw [hq]; rfl)
    have HR := Lib.hid (show cpyOk b c = cpyNum b x c by simp [cpyOk, hq, hx])
    have HX := Lib.hid hx
    clear hq hok hx
    rcases chain4 (inB 1 c.number (x.next - 1)) (inB 1 c.version b.now) (inB 1 c.image 1000000) (inB 1 c.state 4) with k1 | ⟨k1, k2⟩ | ⟨k1, k2, k3⟩ | ⟨k1, k2, k3, k4⟩ | ⟨k1, k2, k3, k4⟩
    all_goals
      go_enter Try.func63, Try.ntmps63
      go_wp2_with (go_at_call 121; refine (l1Service_r b _ _ i (H.out _ (((Grow.refl _).alloc _).alloc _)) hl Hr.out).mono ?_; rintro e w' ⟨rfl, hg⟩)
      have G := Lib.hid ((((Grow.refl _).alloc _).alloc _).trans hg)
      have fb := blk_p ((hg.block w.heap.size (by simp; omega)).trans (heap_alloc2 w _ _))
      have fb1 := fb 1
      have fb0 := fb 0
      have fb2 := fb 2
      have fb3 := fb 3
      have fc := blk_p ((hg.block (w.heap.size + 1) (by simp)).trans (heap_alloc2_new w _ _))
      have fc1 := fc 1
      have fc2 := fc 2
      have fc3 := fc 3
      have fc4 := fc 4
      have fc6 := fc 6
      clear hg fb fc
      obtain ⟨bb, o, rfl, hbb, -, -, -, -, -, -, -, fx, -⟩ := svc_p (H.out _ G.out) HX.out
      have t0 : decide ((i : Int) < 0) = false := by simp
      have t1 : (0 : Int) ≤ (i : Int) := Int.natCast_nonneg _
      have t2 : (i : Int) < (b.svcs.length : Int) := by omega
      refine at_plus ?_
      refine region_quiet ⟨_, rfl⟩ (by kernel_rfl) (by kernel_rfl) ?_
      repeat (go_big_quiet_step ((go_at_call 60; exact quiet_same (l1In_c _ _ _ _))))
      refine wpQuiet_nil ?_
      rintro w2 ⟨y, rfl⟩
    all_goals go_wp2_with (go_at_call 122; refine (l1Berth_c b _ _ ((H3.out _ G.out).plus _) hl3).mono ?_; rintro e w3 ⟨rfl, hg⟩)
    all_goals
      go_ret
      refine ⟨ret_bool (HR.out.trans ?_).symm, ?_⟩
      · go_light
        simp_all [cpyNum, idxI_ge]
      · first
          | exact (G.out.trans (Grow.wplus _ _)).trans hg
          | exact G.out.trans (Grow.wplus _ _)
end Go.Proofs.Ytnmknkdbeccmhaa
