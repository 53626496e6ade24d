/- The walks of the small tests on names and services. -/
import Derived.Test.YtnmknkdbeccmhaaB0
import Derived.Test.YtnmknkdbeccmhaaM1
namespace Go.Proofs.Ytnmknkdbeccmhaa
open Go.RowKit
set_option linter.unusedSimpArgs false

theorem l1In_c (n lo hi : Int) (w : World) : Calls Try.prog 60 #[.int .i64 n, .int .i64 lo, .int .i64 hi] w fun e w' => e = .returned (.bool (inB lo n hi)) ∧ w = w' := by
  go_enter Try.func60, Try.ntmps60
  go_wp2
  all_goals (go_ret; exact ⟨by simp [inB] <;> omega, rfl⟩)
theorem within_c (n lo hi : Int) (w : World) : Calls Try.prog 68 #[.int .i64 n, .int .i64 lo, .int .i64 hi] w fun e w' => e = .returned (.bool (inB lo n hi)) ∧ w = w' := by
  go_enter Try.func68, Try.ntmps68
  go_wp2
  all_goals (go_ret; exact ⟨by simp [inB] <;> omega, rfl⟩)
theorem drop_byte (s : ByteArray) {k : Nat} (h : k < s.size) : s.data.toList.drop k = s[k] :: s.data.toList.drop (k + 1) := by
  rw [List.drop_eq_getElem_cons (by simpa using h)]; rfl
theorem isName_c (s : ByteArray) (w : World) : Calls Try.prog 70 #[.string s] w fun e w' => e = .returned (.bool (nameOk s)) ∧ w = w' := by
  by_cases hs : 1 ≤ (s.size : Int) ∧ (s.size : Int) ≤ 20
  · obtain ⟨h1, h2⟩ := hs
    have HN := Lib.hid (nameOk_len ⟨h1, h2⟩)
    go_enter Try.func70, Try.ntmps70
    go_wp2
    go_loop [15] (fun i => ∃ k : Nat, k ≤ s.size ∧ i = .int .i64 k ∧ Hid (s.data.toList.all chOk = (s.data.toList.drop k).all chOk)) (fun i => s.size - (intOf i).toNat)
    case atStart => exact ⟨0, Nat.zero_le _, rfl, rfl⟩
    case round =>
      obtain ⟨k, hk, rfl, hi⟩ := hrel
      by_cases hlt : k < s.size
      · have hd := Lib.hid (drop_byte s hlt)
        go_wp2
        all_goals first
          | (go_ret; exact ⟨ret_bool (by rw [HN.out, hi.out, hd.out, List.all_cons, show chOk s[k] = false from decide_eq_false (by go_light; simp_all <;> omega)]; rfl), rfl⟩)
          | (go_round
             case rel => exact ⟨k + 1, by omega, by go_num, by unfold Hid; rw [hi.out, hd.out, List.all_cons, show chOk s[k] = true from decide_eq_true (by go_light; simp_all <;> omega)]; rfl⟩
             case measure => simp [intOf]; omega)
      · obtain rfl : k = s.size := by omega
        go_wp2
        go_ret
        exact ⟨ret_bool (by rw [HN.out, hi.out, List.drop_of_length_le (by simp)]; rfl), rfl⟩
  · have HN := Lib.hid (nameOk_short hs)
    go_enter Try.func70, Try.ntmps70
    go_wp2
    all_goals first
      | (go_ret; exact ⟨ret_bool HN.out.symm, rfl⟩)
      | (exfalso; go_light; simp_all <;> omega)
theorem l1NameOk_c (s : ByteArray) (w : World) : Calls Try.prog 62 #[.string s] w fun e w' => e = .returned (.bool (nameOk s)) ∧ w = w' := by
  by_cases hs : 1 ≤ (s.size : Int) ∧ (s.size : Int) ≤ 20
  · obtain ⟨h1, h2⟩ := hs
    have HN := Lib.hid (nameOk_len ⟨h1, h2⟩)
    have hb : inB 1 (s.size : Int) 20 = true := decide_eq_true ⟨h1, h2⟩
    go_enter Try.func62, Try.ntmps62
    go_wp2_with (go_at_call 60; refine (l1In_c _ _ _ _).mono ?_; rintro e w' ⟨rfl, rfl⟩)
    go_loop [3] (fun i => ∃ k : Nat, k ≤ s.size ∧ i = .int .i64 k ∧ Hid (s.data.toList.all chOk = (s.data.toList.drop k).all chOk)) (fun i => s.size - (intOf i).toNat)
    case atStart => exact ⟨0, Nat.zero_le _, rfl, rfl⟩
    case round =>
      obtain ⟨k, hk, rfl, hi⟩ := hrel
      by_cases hlt : k < s.size
      · have hd := Lib.hid (drop_byte s hlt)
        go_wp2
        all_goals first
          | (go_ret; exact ⟨ret_bool (by rw [HN.out, hi.out, hd.out, List.all_cons, show chOk s[k] = false from decide_eq_false (by go_light; simp_all <;> omega)]; rfl), rfl⟩)
          | (go_round
             case rel => exact ⟨k + 1, by omega, by go_num, by unfold Hid; rw [hi.out, hd.out, List.all_cons, show chOk s[k] = true from decide_eq_true (by go_light; simp_all <;> omega)]; rfl⟩
             case measure => simp [intOf]; omega)
      · obtain rfl : k = s.size := by omega
        go_wp2
        go_ret
        exact ⟨ret_bool (by rw [HN.out, hi.out, List.drop_of_length_le (by simp)]; rfl), rfl⟩
  · have HN := Lib.hid (nameOk_short hs)
    have hb : inB 1 (s.size : Int) 20 = false := decide_eq_false hs
    clear hs
    go_enter Try.func62, Try.ntmps62
    go_wp2_with (go_at_call 60; refine (l1In_c _ _ _ _).mono ?_; rintro e w' ⟨rfl, rfl⟩)
    go_ret
    exact ⟨ret_bool HN.out.symm, rfl⟩
set_option maxHeartbeats 4000000 in
theorem serviceOk_c (s : Svc) (now : Int) (w : World) : Calls Try.prog 69 #[.agg #[.string s.name, .int .i64 s.version, .bool s.gone, .int .i64 s.image, .int .i64 s.want, .int .i64 s.down, .int .i64 s.over, .int .i64 s.next, .int .i64 s.per, .int .i64 s.least, .int .i64 s.most, .int .i64 s.load, .int .i64 s.cool], .int .i64 now] w fun e w' => e = .returned (.bool (svcOk s now)) ∧ Below w.heap.size w w' := by
  go_enter Try.func69, Try.ntmps69
  go_wp2_with (first | (go_at_call 68; refine (within_c _ _ _ _).mono ?_; rintro e w' ⟨rfl, rfl⟩) | (go_at_call 70; refine (isName_c _ _).mono ?_; rintro e w' ⟨rfl, rfl⟩))
  all_goals
    go_ret
    refine ⟨ret_bool ?_, (Below.refl _ _).alloc (Nat.le_refl _) _⟩
    go_light
    rw [Bool.eq_iff_iff, svcOk_iff]
    unfold SvcNum
    by_cases hn : nameOk s.name = true
    all_goals
      simp only [inB, wrap64, hn, decide_eq_true_eq, Bool.not_eq_true', Bool.not_eq_false', Bool.or_eq_true, Bool.and_eq_true, decide_eq_false_iff_not, beq_iff_eq, beq_eq_false_iff_ne, not_true_eq_false, not_false_eq_true, Bool.false_eq_true, false_and, true_and, reduceCtorEq, iff_true, true_iff, iff_false, false_iff] at *
    all_goals omega
set_option maxHeartbeats 4000000 in
theorem l1ServiceOk_c (s : Svc) (now : Int) (w : World) : Calls Try.prog 61 #[.agg #[.string s.name, .int .i64 s.version, .bool s.gone, .int .i64 s.image, .int .i64 s.want, .int .i64 s.down, .int .i64 s.over, .int .i64 s.next, .int .i64 s.per, .int .i64 s.least, .int .i64 s.most, .int .i64 s.load, .int .i64 s.cool], .int .i64 now] w fun e w' => e = .returned (.bool (svcOk s now)) ∧ Below w.heap.size w w' := by
  go_enter Try.func61, Try.ntmps61
  go_wp2_with (first | (go_at_call 60; refine (l1In_c _ _ _ _).mono ?_; rintro e w' ⟨rfl, rfl⟩) | (go_at_call 62; refine (l1NameOk_c _ _).mono ?_; rintro e w' ⟨rfl, rfl⟩))
  all_goals
    go_ret
    refine ⟨ret_bool ?_, (Below.refl _ _).alloc (Nat.le_refl _) _⟩
    go_light
    rw [Bool.eq_iff_iff, svcOk_iff]
    unfold SvcNum
    by_cases hn : nameOk s.name = true
    all_goals
      simp only [inB, wrap64, hn, decide_eq_true_eq, Bool.not_eq_true', Bool.not_eq_false', Bool.or_eq_true, Bool.and_eq_true, decide_eq_false_iff_not, beq_iff_eq, beq_eq_false_iff_ne, not_true_eq_false, not_false_eq_true, Bool.false_eq_true, false_and, true_and, reduceCtorEq, iff_true, true_iff, iff_false, false_iff] at *
    all_goals omega
end Go.Proofs.Ytnmknkdbeccmhaa
