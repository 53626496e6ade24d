/- The walks of the laws' own measure of plain data. -/
import Derived.Test.YtnmknkdbeccmhaaB0
import Derived.Test.YtnmknkdbeccmhaaM3
namespace Go.Proofs.Ytnmknkdbeccmhaa
open Go.RowKit
set_option linter.unusedSimpArgs false

def SmallSvc (xs : List Svc) : Prop := ∀ x ∈ xs, x.name.size ≤ 9223372036854775807
set_option maxHeartbeats 1000000 in
theorem szStewService_c (s : Svc) (l : Int) (h0 : s.name.size ≤ 9223372036854775807) (hl0 : 0 ≤ l) (hl1 : l ≤ 2000000) (w : World) : Calls Try.prog 118 #[.agg #[.string s.name, .int .i64 s.version, .bool s.gone, .int .i64 s.image, .int .i64 s.want, .int .i64 s.down, .int .i64 s.over, .int .i64 s.next, .int .i64 s.per, .int .i64 s.least, .int .i64 s.most, .int .i64 s.load, .int .i64 s.cool], .int .i64 l] w fun e w' => e = .returned (.int .i64 (szSvc s l)) ∧ Grow w w' := by
  go_enter Try.func118, Try.ntmps118
  go_wp2
  all_goals
    go_ret
    refine ⟨ret_int ?_, (Grow.refl _).alloc _⟩
    go_light
    unfold szSvc
    repeat' split
    all_goals omega
set_option maxRecDepth 100000 in
set_option maxHeartbeats 2000000 in
theorem szStewServiceS_c (xs : List Svc) (l : Int) {A : Option Addr} {c : Nat} (hl0 : 0 ≤ l) (hl1 : l ≤ 2000000) (hn : xs.length ≤ 9223372036854775807) (hs : SmallSvc xs) (w : World) (h : Rows 13 svcC w A xs) :
    Calls Try.prog 57 #[.slice A xs.length c, .int .i64 l] w fun e w' => e = .returned (.int .i64 (szS szSvc xs l)) ∧ Grow w w' := by
  have R := Lib.hid (fun (w' : World) (hg : Grow w w') => h.below hg)
  have HS := Lib.hid hs
  clear h hs
  by_cases hc : l - xs.length < 0
  · have HR := Lib.hid (show szS szSvc xs l = -1 by unfold szS; rw [if_pos hc])
    go_enter Try.func57, Try.ntmps57
    go_wp2
    go_ret
    exact ⟨ret_int HR.out.symm, Grow.refl _⟩
  · have HR := Lib.hid (show szS szSvc xs l = szL szSvc xs (l - xs.length) by unfold szS; rw [if_neg hc])
    go_enter Try.func57, Try.ntmps57
    go_wp2
    go_loopw [1, 5] (fun q i wr => ∃ (k : Nat) (m : Int), k ≤ xs.length ∧ i = .int .i64 k ∧ q = .int .i64 m ∧ 0 ≤ m ∧ m ≤ 2000000 ∧ Hid (Grow w wr) ∧ Hid (szL szSvc xs (l - xs.length) = szL szSvc (xs.drop k) m)) (fun _ i _ => xs.length - (intOf i).toNat)
    case atStart => exact ⟨0, l - xs.length, Nat.zero_le _, rfl, rfl, by omega, by omega, Grow.refl _, rfl⟩
    case round =>
      obtain ⟨k, m, hk, rfl, rfl, hm0, hm1, hgr, hi⟩ := hrel
      by_cases hlt : k < xs.length
      · obtain ⟨x, hx⟩ := ex_at hlt
        obtain ⟨bb, o, rfl, hbb, f0, f1, f2, f3, f4, f5, f6, f7, f8, f9, f10, f11, f12⟩ := svc_at (R.out _ hgr.out) hx
        have hd := Lib.hid (drop_at hx)
        have HX := Lib.hid hx
        clear hx
        obtain h0 := HS.out x (List.mem_of_getElem? HX.out)
        obtain ⟨hz1, hz2⟩ := szSvc_le x m hm0
        by_cases hz : szSvc x m < 0
        all_goals go_wp2_with (go_at_call 118; refine (szStewService_c x m h0 hm0 hm1 _).mono ?_; rintro e w' ⟨rfl, hg⟩)
        · go_ret
          exact ⟨ret_int (by rw [HR.out, hi.out, hd.out, szL, if_pos hz]), hgr.out.trans hg⟩
        · go_roundw
          case rel => exact ⟨k + 1, szSvc x m, by omega, by go_num, rfl, by omega, by omega, hgr.out.trans hg, by unfold Hid; rw [hi.out, hd.out, szL, if_neg (by omega)]⟩
          case measure => simp [intOf]; omega
      · obtain rfl : k = xs.length := by omega
        go_wp2
        go_ret
        exact ⟨ret_int (by rw [HR.out, hi.out, List.drop_length]; rfl), hgr.out⟩

def SmallCpy (xs : List Cpy) : Prop := ∀ x ∈ xs, x.service.size ≤ 9223372036854775807 ∧ x.berth.size ≤ 9223372036854775807
set_option maxHeartbeats 1000000 in
theorem szStewCopy_c (s : Cpy) (l : Int) (h0 : s.service.size ≤ 9223372036854775807) (h1 : s.berth.size ≤ 9223372036854775807) (hl0 : 0 ≤ l) (hl1 : l ≤ 2000000) (w : World) : Calls Try.prog 119 #[.agg #[.string s.service, .int .i64 s.number, .int .i64 s.version, .int .i64 s.image, .int .i64 s.state, .bool s.ending, .string s.berth], .int .i64 l] w fun e w' => e = .returned (.int .i64 (szCpy s l)) ∧ Grow w w' := by
  go_enter Try.func119, Try.ntmps119
  go_wp2
  all_goals
    go_ret
    refine ⟨ret_int ?_, (Grow.refl _).alloc _⟩
    go_light
    unfold szCpy
    repeat' split
    all_goals omega
set_option maxRecDepth 100000 in
set_option maxHeartbeats 2000000 in
theorem szStewCopyS_c (xs : List Cpy) (l : Int) {A : Option Addr} {c : Nat} (hl0 : 0 ≤ l) (hl1 : l ≤ 2000000) (hn : xs.length ≤ 9223372036854775807) (hs : SmallCpy xs) (w : World) (h : Rows 7 cpyC w A xs) :
    Calls Try.prog 58 #[.slice A xs.length c, .int .i64 l] w fun e w' => e = .returned (.int .i64 (szS szCpy xs l)) ∧ Grow w w' := by
  have R := Lib.hid (fun (w' : World) (hg : Grow w w') => h.below hg)
  have HS := Lib.hid hs
  clear h hs
  by_cases hc : l - xs.length < 0
  · have HR := Lib.hid (show szS szCpy xs l = -1 by unfold szS; rw [if_pos hc])
    go_enter Try.func58, Try.ntmps58
    go_wp2
    go_ret
    exact ⟨ret_int HR.out.symm, Grow.refl _⟩
  · have HR := Lib.hid (show szS szCpy xs l = szL szCpy xs (l - xs.length) by unfold szS; rw [if_neg hc])
    go_enter Try.func58, Try.ntmps58
    go_wp2
    go_loopw [1, 5] (fun q i wr => ∃ (k : Nat) (m : Int), k ≤ xs.length ∧ i = .int .i64 k ∧ q = .int .i64 m ∧ 0 ≤ m ∧ m ≤ 2000000 ∧ Hid (Grow w wr) ∧ Hid (szL szCpy xs (l - xs.length) = szL szCpy (xs.drop k) m)) (fun _ i _ => xs.length - (intOf i).toNat)
    case atStart => exact ⟨0, l - xs.length, Nat.zero_le _, rfl, rfl, by omega, by omega, Grow.refl _, rfl⟩
    case round =>
      obtain ⟨k, m, hk, rfl, rfl, hm0, hm1, hgr, hi⟩ := hrel
      by_cases hlt : k < xs.length
      · obtain ⟨x, hx⟩ := ex_at hlt
        obtain ⟨bb, o, rfl, hbb, f0, f1, f2, f3, f4, f5, f6⟩ := cpy_at (R.out _ hgr.out) hx
        have hd := Lib.hid (drop_at hx)
        have HX := Lib.hid hx
        clear hx
        obtain ⟨h0, h1⟩ := HS.out x (List.mem_of_getElem? HX.out)
        obtain ⟨hz1, hz2⟩ := szCpy_le x m hm0
        by_cases hz : szCpy x m < 0
        all_goals go_wp2_with (go_at_call 119; refine (szStewCopy_c x m h0 h1 hm0 hm1 _).mono ?_; rintro e w' ⟨rfl, hg⟩)
        · go_ret
          exact ⟨ret_int (by rw [HR.out, hi.out, hd.out, szL, if_pos hz]), hgr.out.trans hg⟩
        · go_roundw
          case rel => exact ⟨k + 1, szCpy x m, by omega, by go_num, rfl, by omega, by omega, hgr.out.trans hg, by unfold Hid; rw [hi.out, hd.out, szL, if_neg (by omega)]⟩
          case measure => simp [intOf]; omega
      · obtain rfl : k = xs.length := by omega
        go_wp2
        go_ret
        exact ⟨ret_int (by rw [HR.out, hi.out, List.drop_length]; rfl), hgr.out⟩

def SmallBrt (xs : List Brt) : Prop := ∀ x ∈ xs, x.name.size ≤ 9223372036854775807
set_option maxHeartbeats 1000000 in
theorem szStewBerth_c (s : Brt) (l : Int) (h0 : s.name.size ≤ 9223372036854775807) (hl0 : 0 ≤ l) (hl1 : l ≤ 2000000) (w : World) : Calls Try.prog 120 #[.agg #[.string s.name, .bool s.drain], .int .i64 l] w fun e w' => e = .returned (.int .i64 (szBrt s l)) ∧ Grow w w' := by
  go_enter Try.func120, Try.ntmps120
  go_wp2
  all_goals
    go_ret
    refine ⟨ret_int ?_, (Grow.refl _).alloc _⟩
    go_light
    unfold szBrt
    repeat' split
    all_goals omega
set_option maxRecDepth 100000 in
set_option maxHeartbeats 2000000 in
theorem szStewBerthS_c (xs : List Brt) (l : Int) {A : Option Addr} {c : Nat} (hl0 : 0 ≤ l) (hl1 : l ≤ 2000000) (hn : xs.length ≤ 9223372036854775807) (hs : SmallBrt xs) (w : World) (h : Rows 2 brtC w A xs) :
    Calls Try.prog 59 #[.slice A xs.length c, .int .i64 l] w fun e w' => e = .returned (.int .i64 (szS szBrt xs l)) ∧ Grow w w' := by
  have R := Lib.hid (fun (w' : World) (hg : Grow w w') => h.below hg)
  have HS := Lib.hid hs
  clear h hs
  by_cases hc : l - xs.length < 0
  · have HR := Lib.hid (show szS szBrt xs l = -1 by unfold szS; rw [if_pos hc])
    go_enter Try.func59, Try.ntmps59
    go_wp2
    go_ret
    exact ⟨ret_int HR.out.symm, Grow.refl _⟩
  · have HR := Lib.hid (show szS szBrt xs l = szL szBrt xs (l - xs.length) by unfold szS; rw [if_neg hc])
    go_enter Try.func59, Try.ntmps59
    go_wp2
    go_loopw [1, 5] (fun q i wr => ∃ (k : Nat) (m : Int), k ≤ xs.length ∧ i = .int .i64 k ∧ q = .int .i64 m ∧ 0 ≤ m ∧ m ≤ 2000000 ∧ Hid (Grow w wr) ∧ Hid (szL szBrt xs (l - xs.length) = szL szBrt (xs.drop k) m)) (fun _ i _ => xs.length - (intOf i).toNat)
    case atStart => exact ⟨0, l - xs.length, Nat.zero_le _, rfl, rfl, by omega, by omega, Grow.refl _, rfl⟩
    case round =>
      obtain ⟨k, m, hk, rfl, rfl, hm0, hm1, hgr, hi⟩ := hrel
      by_cases hlt : k < xs.length
      · obtain ⟨x, hx⟩ := ex_at hlt
        obtain ⟨bb, o, rfl, hbb, f0, f1⟩ := brt_at (R.out _ hgr.out) hx
        have hd := Lib.hid (drop_at hx)
        have HX := Lib.hid hx
        clear hx
        obtain h0 := HS.out x (List.mem_of_getElem? HX.out)
        obtain ⟨hz1, hz2⟩ := szBrt_le x m hm0
        by_cases hz : szBrt x m < 0
        all_goals go_wp2_with (go_at_call 120; refine (szStewBerth_c x m h0 hm0 hm1 _).mono ?_; rintro e w' ⟨rfl, hg⟩)
        · go_ret
          exact ⟨ret_int (by rw [HR.out, hi.out, hd.out, szL, if_pos hz]), hgr.out.trans hg⟩
        · go_roundw
          case rel => exact ⟨k + 1, szBrt x m, by omega, by go_num, rfl, by omega, by omega, hgr.out.trans hg, by unfold Hid; rw [hi.out, hd.out, szL, if_neg (by omega)]⟩
          case measure => simp [intOf]; omega
      · obtain rfl : k = xs.length := by omega
        go_wp2
        go_ret
        exact ⟨ret_int (by rw [HR.out, hi.out, List.drop_length]; rfl), hgr.out⟩

set_option maxHeartbeats 2000000 in
theorem szStewBook_c (b : Book) (l : Int) {A1 A2 A3 : Option Addr} {c1 c2 c3 : Nat} (hl0 : 0 ≤ l) (hl1 : l ≤ 2000000) (w : World) (h1 : Rows 13 svcC w A1 b.svcs) (h2 : Rows 7 cpyC w A2 b.cps) (h3 : Rows 2 brtC w A3 b.brs)
    (l1 : b.svcs.length ≤ 9223372036854775807) (l2 : b.cps.length ≤ 9223372036854775807) (l3 : b.brs.length ≤ 9223372036854775807) (s1 : SmallSvc b.svcs) (s2 : SmallCpy b.cps) (s3 : SmallBrt b.brs) :
    Calls Try.prog 15 #[.agg #[.int .i64 b.now, .slice A1 b.svcs.length c1, .slice A2 b.cps.length c2, .slice A3 b.brs.length c3], .int .i64 l] w fun e w' => e = .returned (.int .i64 (szBook b l)) ∧ Grow w w' := by
  have R1 := Lib.hid (fun (w' : World) (hg : Grow w w') => h1.below hg)
  have R2 := Lib.hid (fun (w' : World) (hg : Grow w w') => h2.below hg)
  have R3 := Lib.hid (fun (w' : World) (hg : Grow w w') => h3.below hg)
  have S1 := Lib.hid s1
  have S2 := Lib.hid s2
  have S3 := Lib.hid s3
  clear h1 h2 h3 s1 s2 s3
  obtain ⟨a1, a2, -⟩ := szS_le szSvc_le b.svcs l hl0
  by_cases z1 : szS szSvc b.svcs l < 0
  · have HR := Lib.hid (show szBook b l = -1 by unfold szBook; rw [if_pos z1])
    go_enter Try.func15, Try.ntmps15
    go_wp2_with (go_at_call 57; refine (szStewServiceS_c b.svcs l hl0 hl1 l1 S1.out _ (R1.out _ ((Grow.refl _).alloc _))).mono ?_; rintro e w1 ⟨rfl, hg1⟩)
    go_ret
    exact ⟨ret_int HR.out.symm, ((Grow.refl _).alloc _).trans hg1⟩
  · obtain ⟨a3, a4, -⟩ := szS_le szCpy_le b.cps (szS szSvc b.svcs l) (by omega)
    by_cases z2 : szS szCpy b.cps (szS szSvc b.svcs l) < 0
    · have HR := Lib.hid (show szBook b l = -1 by unfold szBook; rw [if_neg z1, if_pos z2])
      go_enter Try.func15, Try.ntmps15
      go_wp2_with (first
        | (go_at_call 57; refine (szStewServiceS_c b.svcs l hl0 hl1 l1 S1.out _ (R1.out _ ((Grow.refl _).alloc _))).mono ?_; rintro e w1 ⟨rfl, hg1⟩; have f2 := ((hg1.block _ (by simp)).trans (heap_alloc_new w _)); have f21 := cell_of_row w1 _ 2 _ _ _ f2)
        | (go_at_call 58; refine (szStewCopyS_c b.cps _ (by omega) (by omega) l2 S2.out _ (R2.out _ (((Grow.refl _).alloc _).trans hg1))).mono ?_; rintro e w2 ⟨rfl, hg2⟩))
      go_ret
      exact ⟨ret_int HR.out.symm, (((Grow.refl _).alloc _).trans hg1).trans hg2⟩
    · obtain ⟨a5, a6, -⟩ := szS_le szBrt_le b.brs (szS szCpy b.cps (szS szSvc b.svcs l)) (by omega)
      by_cases z3 : szS szBrt b.brs (szS szCpy b.cps (szS szSvc b.svcs l)) < 0
      · have HR := Lib.hid (show szBook b l = -1 by unfold szBook; rw [if_neg z1, if_neg z2, if_pos z3])
        go_enter Try.func15, Try.ntmps15
        go_wp2_with (first
          | (go_at_call 57; refine (szStewServiceS_c b.svcs l hl0 hl1 l1 S1.out _ (R1.out _ ((Grow.refl _).alloc _))).mono ?_; rintro e w1 ⟨rfl, hg1⟩; have f2 := ((hg1.block _ (by simp)).trans (heap_alloc_new w _)); have f21 := cell_of_row w1 _ 2 _ _ _ f2)
          | (go_at_call 58; refine (szStewCopyS_c b.cps _ (by omega) (by omega) l2 S2.out _ (R2.out _ (((Grow.refl _).alloc _).trans hg1))).mono ?_; rintro e w2 ⟨rfl, hg2⟩; have f3 := cell_of_row w2 _ 3 _ _ _ ((hg2.block _ (Array.getElem?_eq_some_iff.1 f2).1).trans f2))
          | (go_at_call 59; refine (szStewBerthS_c b.brs _ (by omega) (by omega) l3 S3.out _ (R3.out _ ((((Grow.refl _).alloc _).trans hg1).trans hg2))).mono ?_; rintro e w3 ⟨rfl, hg3⟩))
        go_ret
        exact ⟨ret_int HR.out.symm, ((((Grow.refl _).alloc _).trans hg1).trans hg2).trans hg3⟩
      · have HR := Lib.hid (show szBook b l = szS szBrt b.brs (szS szCpy b.cps (szS szSvc b.svcs l)) by unfold szBook; rw [if_neg z1, if_neg z2, if_neg z3])
        go_enter Try.func15, Try.ntmps15
        go_wp2_with (first
          | (go_at_call 57; refine (szStewServiceS_c b.svcs l hl0 hl1 l1 S1.out _ (R1.out _ ((Grow.refl _).alloc _))).mono ?_; rintro e w1 ⟨rfl, hg1⟩; have f2 := ((hg1.block _ (by simp)).trans (heap_alloc_new w _)); have f21 := cell_of_row w1 _ 2 _ _ _ f2)
          | (go_at_call 58; refine (szStewCopyS_c b.cps _ (by omega) (by omega) l2 S2.out _ (R2.out _ (((Grow.refl _).alloc _).trans hg1))).mono ?_; rintro e w2 ⟨rfl, hg2⟩; have f3 := cell_of_row w2 _ 3 _ _ _ ((hg2.block _ (Array.getElem?_eq_some_iff.1 f2).1).trans f2))
          | (go_at_call 59; refine (szStewBerthS_c b.brs _ (by omega) (by omega) l3 S3.out _ (R3.out _ ((((Grow.refl _).alloc _).trans hg1).trans hg2))).mono ?_; rintro e w3 ⟨rfl, hg3⟩))
        go_ret
        exact ⟨ret_int HR.out.symm, ((((Grow.refl _).alloc _).trans hg1).trans hg2).trans hg3⟩
end Go.Proofs.Ytnmknkdbeccmhaa
