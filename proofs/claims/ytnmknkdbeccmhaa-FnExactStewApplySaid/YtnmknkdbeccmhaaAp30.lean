/- The law FnExactStewApply: its two runs, in whatever order. -/
import Derived.Test.YtnmknkdbeccmhaaAp29
namespace Go.Proofs.Ytnmknkdbeccmhaa
open Go.RowKit
set_option linter.unusedSimpArgs false
set_option linter.unusedVariables false
set_option maxRecDepth 1000000
set_option maxHeartbeats 8000000
noncomputable def la8 : Code := tailOf Try.f11 8
noncomputable def la31 : Code := tailOf Try.f11 31
def fS8 (x2 x3 q : Nat) (z : Int) (u : Nat → Value) : Act := ⟨#[u 0, u 1, .pointer (some ⟨x2, 0, none⟩), .pointer (some ⟨x3, 0, none⟩), u 4, u 5, .pointer (some ⟨q, 0, none⟩), .int .i64 z, u 8, u 9, u 10, u 11, u 12, u 13, u 14, u 15, u 16, u 17, u 18, u 19, u 20, u 21, u 22, u 23, u 24, u 25, u 26, u 27, u 28, u 29, u 30, u 31, u 32, u 33, u 34, u 35, u 36, u 37, u 38, u 39, u 40, u 41, u 42, u 43, u 44, u 45, u 46, u 47, u 48, u 49, u 50, u 51, u 52, u 53, u 54, u 55, u 56, u 57, u 58, u 59, u 60, u 61, u 62, u 63, u 64, u 65, u 66, u 67, u 68, u 69, u 70, u 71, u 72, u 73, u 74, u 75, u 76, u 77, u 78, u 79, u 80, u 81, u 82, u 83, u 84, u 85, u 86, u 87, u 88, u 89, u 90, u 91, u 92, u 93, u 94, u 95, u 96, u 97, u 98, u 99, u 100, u 101, u 102, u 103, u 104, u 105, u 106, u 107, u 108, u 109, u 110, u 111, u 112, u 113, u 114, u 115, u 116, u 117, u 118], []⟩
def fR8 (x2 x3 : Nat) (u : Nat → Value) : Act := ⟨#[u 0, u 1, .pointer (some ⟨x2, 0, none⟩), .pointer (some ⟨x3, 0, none⟩), u 4, u 5, u 6, u 7, u 8, u 9, u 10, u 11, u 12, u 13, u 14, u 15, u 16, u 17, u 18, u 19, u 20, u 21, u 22, u 23, u 24, u 25, u 26, u 27, u 28, u 29, u 30, u 31, u 32, u 33, u 34, u 35, u 36, u 37, u 38, u 39, u 40, u 41, u 42, u 43, u 44, u 45, u 46, u 47, u 48, u 49, u 50, u 51, u 52, u 53, u 54, u 55, u 56, u 57, u 58, u 59, u 60, u 61, u 62, u 63, u 64, u 65, u 66, u 67, u 68, u 69, u 70, u 71, u 72, u 73, u 74, u 75, u 76, u 77, u 78, u 79, u 80, u 81, u 82, u 83, u 84, u 85, u 86, u 87, u 88, u 89, u 90, u 91, u 92, u 93, u 94, u 95, u 96, u 97, u 98, u 99, u 100, u 101, u 102, u 103, u 104, u 105, u 106, u 107, u 108, u 109, u 110, u 111, u 112, u 113, u 114, u 115, u 116, u 117, u 118], []⟩
def gR8 (x2 x3 : Nat) (u x : Nat → Value) : Act := ⟨#[u 0, u 1, .pointer (some ⟨x2, 0, none⟩), .pointer (some ⟨x3, 0, none⟩), u 4, u 5, x 8, x 10, u 8, u 9, u 10, u 11, u 12, u 13, u 14, u 15, u 16, u 17, u 18, u 19, u 20, u 21, u 22, u 23, u 24, u 25, u 26, x 5, x 0, x 1, x 2, x 3, x 4, x 6, x 7, u 35, u 36, u 37, u 38, u 39, u 40, u 41, u 42, u 43, u 44, u 45, u 46, u 47, u 48, u 49, u 50, u 51, u 52, u 53, u 54, u 55, u 56, u 57, u 58, u 59, u 60, u 61, u 62, u 63, u 64, u 65, u 66, u 67, u 68, u 69, u 70, u 71, u 72, u 73, u 74, u 75, u 76, u 77, u 78, u 79, u 80, u 81, u 82, u 83, u 84, u 85, u 86, u 87, u 88, u 89, u 90, u 91, u 92, u 93, u 94, u 95, u 96, u 97, u 98, u 99, u 100, u 101, u 102, u 103, u 104, u 105, u 106, u 107, u 108, u 109, u 110, u 111, u 112, u 113, u 114, u 115, u 116, u 117, u 118], []⟩
def phiR8 (b : Book) (a : SAct) (r : Book) (z : Int) (A1 A2 A3 A : Option Addr) (c1 c2 c3 c : Nat) (base : Nat) : Nat → Value → World → Prop
  | 0, v, w => v = .agg #[.int .i64 b.now, .slice A1 b.svcs.length c1, .slice A2 b.cps.length c2, .slice A3 b.brs.length c3]
  | 1, v, w => OwnBook base w v b
  | 2, v, w => v = .agg #[.string a.service, .int .i64 a.version, .int .i64 a.create, .int .i64 a.want, .int .i64 a.cool, .bool a.scale, .slice A a.ends.length c, .bool a.drop]
  | 3, v, w => OwnAct base w v a
  | 4, v, w => OwnTwo base w v r z
  | 5, v, w => OwnTwo base w v r z
  | 6, v, w => OwnBook base w v r
  | 7, v, w => v = .int .i64 z
  | 8, v, w => BoxOf base 34 #[.int .i64 0, .slice none 0 0, .slice none 0 0, .slice none 0 0] w v
  | 9, v, w => Filled base 34 w v r
  | 10, v, w => v = .int .i64 z
  | _, _, _ => True
def ownsR8 : Nat → Value → Nat → Prop
  | 1, v, k => bookOwns v k
  | 3, v, k => actOwns v k
  | 4, v, k => twoOwns v k
  | 5, v, k => twoOwns v k
  | 6, v, k => bookOwns v k
  | 8, v, k => ptrOwns v k
  | 9, v, k => filledOwns v k
  | _, _, _ => False
def eatsR8 : Nat → Option Nat
  | 9 => some 8
  | _ => none
def linkR8 : Nat → Value → Value → Prop
  | 9, v, u => ∃ y, v = .tuple #[u, y]
  | _, _, _ => True
def wrR8 (b : Book) (a : SAct) (r : Book) (z : Int) (A1 A2 A3 A : Option Addr) (c1 c2 c3 c : Nat) : Nat → Nat → Prop
  | _, _ => False
def saysR8 (b : Book) (a : SAct) (r : Book) (z : Int) (A1 A2 A3 A : Option Addr) (c1 c2 c3 c : Nat) (base : Nat) : Says := ⟨phiR8 b a r z A1 A2 A3 A c1 c2 c3 c base, ownsR8, eatsR8, linkR8, wrR8 b a r z A1 A2 A3 A c1 c2 c3 c⟩
theorem okR8 (b : Book) (a : SAct) (r : Book) (z : Int) (A1 A2 A3 A : Option Addr) (c1 c2 c3 c : Nat) (W : World) : (saysR8 b a r z A1 A2 A3 A c1 c2 c3 c W.heap.size).Ok W where
  kept := by
    intro i v w w' r h hg hr'
    have hr := fun k hk => (hr' k hk).1
    match i, h, hr with
    | 0, h, hr => exact h
    | 1, h, hr => exact OwnBook.kept2 h hg hr
    | 2, h, hr => exact h
    | 3, h, hr => exact OwnAct.kept2 h hg hr
    | 4, h, hr => exact OwnTwo.kept2 h hg hr
    | 5, h, hr => exact OwnTwo.kept2 h hg hr
    | 6, h, hr => exact OwnBook.kept2 h hg hr
    | 7, h, hr => exact h
    | 8, h, hr => exact BoxOf.kept2 h hg hr
    | 9, h, hr => exact Filled.kept2 h hg hr
    | 10, h, hr => exact h
    | _ + 11, _, _ => exact trivial
  lt := by
    intro i v w k h ho
    match i, h, ho with
    | 0, h, ho => exact ho.elim
    | 1, h, ho => exact OwnBook.lt2 h ho
    | 2, h, ho => exact ho.elim
    | 3, h, ho => exact OwnAct.lt2 h ho
    | 4, h, ho => exact OwnTwo.lt2 h ho
    | 5, h, ho => exact OwnTwo.lt2 h ho
    | 6, h, ho => exact OwnBook.lt2 h ho
    | 7, h, ho => exact ho.elim
    | 8, h, ho => exact BoxOf.lt2 h ho
    | 9, h, ho => exact Filled.lt2 h ho
    | 10, h, ho => exact ho.elim
    | _ + 11, _, ho => exact ho.elim
  old := by
    intro i k h
    match i, h with
    | 0, h => exact h.elim
    | 1, h => exact h.elim
    | 2, h => exact h.elim
    | 3, h => exact h.elim
    | 4, h => exact h.elim
    | 5, h => exact h.elim
    | 6, h => exact h.elim
    | 7, h => exact h.elim
    | 8, h => exact h.elim
    | 9, h => exact h.elim
    | 10, h => exact h.elim
    | _ + 11, h => exact h.elim
theorem runR8 {b : Book} {a : SAct} {r : Book} {z : Int} {A1 A2 A3 A : Option Addr} {c1 c2 c3 c : Nat} {x2 x3 : Nat} {u : Nat → Value} {w U : World} {Q : Exit → Act → World → Prop} (G : Grow w U) (HB2 : Hid (U.heap[x2]? = some (.cells #[.int .i64 b.now, .slice A1 b.svcs.length c1, .slice A2 b.cps.length c2, .slice A3 b.brs.length c3] 27 (0, 0)))) (HB3 : Hid (U.heap[x3]? = some (.cells #[.string a.service, .int .i64 a.version, .int .i64 a.create, .int .i64 a.want, .int .i64 a.cool, .bool a.scale, .slice A a.ends.length c, .bool a.drop] 71 (0, 0))))
    (h1 : Rows 13 svcC w A1 b.svcs) (h2 : Rows 7 cpyC w A2 b.cps) (h3 : Rows 2 brtC w A3 b.brs) (h4 : Rows 2 endC w A a.ends) (l1 : b.svcs.length ≤ 2000000) (l2 : b.cps.length ≤ 2000000) (l3 : b.brs.length ≤ 2000000) (l4 : a.ends.length ≤ 2000000) (HR : Hid (applyB b a = (r, z)))
    (fin : ∀ u V q v1 v2 v3, Grow U V → U.heap.size ≤ q → Hid (V.heap[q]? = some (.cells #[.int .i64 r.now, v1, v2, v3] 34 (0, 0))) → Rows3 U.heap.size V v1 v2 v3 r → Q .normal (fS8 x2 x3 q z u) V) :
    (headOf la8).wp Try.prog Q (fR8 x2 x3 u) U := by
  have R1 := Lib.hid (fun (w' : World) (hg : Grow U w') => h1.below (G.trans hg))
  have R2 := Lib.hid (fun (w' : World) (hg : Grow U w') => h2.below (G.trans hg))
  have R3 := Lib.hid (fun (w' : World) (hg : Grow U w') => h3.below (G.trans hg))
  have R4 := Lib.hid (fun (w' : World) (hg : Grow U w') => h4.below (G.trans hg))
  have FIN := Lib.hid fin
  clear h1 h2 h3 h4 fin
  conv => arg 2; whnf

  refine region_free (W := U) (n := 11) (saysR8 b a r z A1 A2 A3 A c1 c2 c3 c U.heap.size) (okR8 b a r z A1 A2 A3 A c1 c2 c3 c U) (fun w' => Grow U w') ?_ (fun a b r hj _ hg hr => Grow.grown hj hg hr) (fun x => gR8 x2 x3 u x) (fun j => match j with | 0 => u 28 | 1 => u 29 | 2 => u 30 | 3 => u 31 | 4 => u 32 | 5 => u 27 | 6 => u 33 | 7 => u 34 | 8 => u 6 | 10 => u 7 | _ => undef) rfl (by kernel_rfl) (by kernel_rfl) (by kernel_rfl) (by kernel_rfl) (Grow.refl _) (by kernel_rfl) ?_ ?_ ?_
  rotate_left
  · intro ii oo x v hi ho
    match ii, hi, ho with
    | 0, _, ho => cases ho; rfl
    | 1, _, ho => cases ho; rfl
    | 2, _, ho => cases ho; rfl
    | 3, _, ho => cases ho; rfl
    | 4, _, ho => cases ho; rfl
    | 5, _, ho => cases ho; rfl
    | 6, _, ho => cases ho; rfl
    | 7, _, ho => cases ho; rfl
    | 8, _, ho => cases ho; rfl
    | 9, _, ho => cases ho; rfl
    | 10, _, ho => cases ho; rfl
    | k + 11, hi, _ => omega
  · intro ii oo x w2 hi ho hj hg hd hlk hsp
    match ii, hi, ho, hd, hlk, hsp with
    | 0, _, ho, hd, hlk, hsp =>
      cases ho
      intro K hK
      have p0 := cell_of_row w2 _ 0 _ _ _ (blk_grow HB2.out hj)
      have p1 := cell_of_row w2 _ 1 _ _ _ (blk_grow HB2.out hj)
      have p2 := cell_of_row w2 _ 2 _ _ _ (blk_grow HB2.out hj)
      have p3 := cell_of_row w2 _ 3 _ _ _ (blk_grow HB2.out hj)
      have e2 : (gR8 x2 x3 u x).tmps[2]?.getD undef = .pointer (some ⟨x2, 0, none⟩) := rfl
      generalize (gR8 x2 x3 u x) = AA at *
      go_simp
      exact hK (.agg #[.int .i64 b.now, .slice A1 b.svcs.length c1, .slice A2 b.cps.length c2, .slice A3 b.brs.length c3]) _ none (World.grownBy.refl _ _) (.inl rfl) rfl (fun _ h => by cases h) (fun _ h => h.elim)
    | 1, _, ho, hd, hlk, hsp =>
      cases ho
      intro K hK
      have d0 : x 0 = .agg #[.int .i64 b.now, .slice A1 b.svcs.length c1, .slice A2 b.cps.length c2, .slice A3 b.brs.length c3] := hd ⟨0, .data⟩ (by simp) rfl rfl
      have e28 : (gR8 x2 x3 u x).tmps[28]?.getD undef = .agg #[.int .i64 b.now, .slice A1 b.svcs.length c1, .slice A2 b.cps.length c2, .slice A3 b.brs.length c3] := (show _ = x 0 from rfl).trans d0
      generalize (gR8 x2 x3 u x) = AA at *
      go_simp
      refine (toStewBook_c b w2 (R1.out _ hj) (R2.out _ hj) (R3.out _ hj) l1 l2 l3).mono ?_
      rintro ee w4 ⟨v4, rfl, ho4, hg4⟩
      exact hK v4 w4 none (grown_none hg4 _) (.inl rfl) (ho4.low hg.size) (fun _ h => by cases h) (fun k hk => .inl (ho4.lt2 hk).1)
    | 2, _, ho, hd, hlk, hsp =>
      cases ho
      intro K hK
      have p0 := cell_of_row w2 _ 0 _ _ _ (blk_grow HB3.out hj)
      have p1 := cell_of_row w2 _ 1 _ _ _ (blk_grow HB3.out hj)
      have p2 := cell_of_row w2 _ 2 _ _ _ (blk_grow HB3.out hj)
      have p3 := cell_of_row w2 _ 3 _ _ _ (blk_grow HB3.out hj)
      have p4 := cell_of_row w2 _ 4 _ _ _ (blk_grow HB3.out hj)
      have p5 := cell_of_row w2 _ 5 _ _ _ (blk_grow HB3.out hj)
      have p6 := cell_of_row w2 _ 6 _ _ _ (blk_grow HB3.out hj)
      have p7 := cell_of_row w2 _ 7 _ _ _ (blk_grow HB3.out hj)
      have e3 : (gR8 x2 x3 u x).tmps[3]?.getD undef = .pointer (some ⟨x3, 0, none⟩) := rfl
      generalize (gR8 x2 x3 u x) = AA at *
      go_simp
      exact hK (.agg #[.string a.service, .int .i64 a.version, .int .i64 a.create, .int .i64 a.want, .int .i64 a.cool, .bool a.scale, .slice A a.ends.length c, .bool a.drop]) _ none (World.grownBy.refl _ _) (.inl rfl) rfl (fun _ h => by cases h) (fun _ h => h.elim)
    | 3, _, ho, hd, hlk, hsp =>
      cases ho
      intro K hK
      have d2 : x 2 = .agg #[.string a.service, .int .i64 a.version, .int .i64 a.create, .int .i64 a.want, .int .i64 a.cool, .bool a.scale, .slice A a.ends.length c, .bool a.drop] := hd ⟨2, .data⟩ (by simp) rfl rfl
      have e30 : (gR8 x2 x3 u x).tmps[30]?.getD undef = .agg #[.string a.service, .int .i64 a.version, .int .i64 a.create, .int .i64 a.want, .int .i64 a.cool, .bool a.scale, .slice A a.ends.length c, .bool a.drop] := (show _ = x 2 from rfl).trans d2
      generalize (gR8 x2 x3 u x) = AA at *
      go_simp
      refine (toStewAct_c a w2 (R4.out _ hj) l4).mono ?_
      rintro ee w4 ⟨v4, rfl, ho4, hg4⟩
      exact hK v4 w4 none (grown_none hg4 _) (.inl rfl) (ho4.low hg.size) (fun _ h => by cases h) (fun k hk => .inl (ho4.lt2 hk).1)
    | 4, _, ho, hd, hlk, hsp =>
      cases ho
      intro K hK
      have d1 : OwnBook U.heap.size w2 (x 1) b := hd ⟨1, .data⟩ (by simp) rfl rfl
      obtain ⟨E1, f1, E2, f2, E3, f3, q1, o1⟩ := three_own d1
      have d3 : OwnAct U.heap.size w2 (x 3) a := hd ⟨3, .chain⟩ (by simp) rfl rfl
      obtain ⟨E6, f6, q3, o3⟩ := act_own d3
      have e29 : (gR8 x2 x3 u x).tmps[29]?.getD undef = .agg #[.int .i64 b.now, .slice E1 b.svcs.length f1, .slice E2 b.cps.length f2, .slice E3 b.brs.length f3] := (show _ = x 1 from rfl).trans q1
      have e31 : (gR8 x2 x3 u x).tmps[31]?.getD undef = .agg #[.string a.service, .int .i64 a.version, .int .i64 a.create, .int .i64 a.want, .int .i64 a.cool, .bool a.scale, .slice E6 a.ends.length f6, .bool a.drop] := (show _ = x 3 from rfl).trans q3
      generalize (gR8 x2 x3 u x) = AA at *
      go_simp
      refine (specApply_c b a w2 (rows_of o1).2.1 (rows_of o1).2.2.1 (rows_of o1).2.2.2 o3 l1 l2 l3 l4).mono ?_
      rintro ee w4 ⟨v4, rfl, ho4, hg4⟩
      rw [HR.out] at ho4 ⊢
      exact hK (.tuple #[v4, .int .i64 z]) w4 none (grown_none hg4 _) (.inl rfl) ⟨_, rfl, ho4.low hg.size⟩ (fun _ h => by cases h) (fun k hk => .inl ((show OwnTwo _ _ _ _ _ from ⟨_, rfl, ho4⟩).lt2 hk).1)
    | 5, _, ho, hd, hlk, hsp =>
      cases ho
      intro K hK
      have d4 : OwnTwo U.heap.size w2 (x 4) r z := hd ⟨4, .data⟩ (by simp) rfl rfl
      obtain ⟨u4, q4, o4⟩ := d4
      have e32 : (gR8 x2 x3 u x).tmps[32]?.getD undef = .tuple #[u4, .int .i64 z] := (show _ = x 4 from rfl).trans q4
      generalize (gR8 x2 x3 u x) = AA at *
      go_simp
      exact hK (.tuple #[u4, .int .i64 z]) _ none (World.grownBy.refl _ _) (.inl rfl) ⟨_, rfl, o4⟩ (fun _ h => by cases h) (fun k hk => .inr (.inr ⟨⟨4, .data⟩, by simp, rfl, rfl, rfl, by show twoOwns (x 4) k; rw [q4]; exact hk⟩))
    | 6, _, ho, hd, hlk, hsp =>
      cases ho
      intro K hK
      have d5 : OwnTwo U.heap.size w2 (x 5) r z := hd ⟨5, .data⟩ (by simp) rfl rfl
      obtain ⟨u5, q5, o5⟩ := d5
      have e27 : (gR8 x2 x3 u x).tmps[27]?.getD undef = .tuple #[u5, .int .i64 z] := (show _ = x 5 from rfl).trans q5
      generalize (gR8 x2 x3 u x) = AA at *
      go_simp
      exact hK u5 _ none (World.grownBy.refl _ _) (.inl rfl) o5 (fun _ h => by cases h) (fun k hk => .inr (.inr ⟨⟨5, .data⟩, by simp, rfl, rfl, rfl, by show twoOwns (x 5) k; rw [q5]; exact ⟨_, _, rfl, hk⟩⟩))
    | 7, _, ho, hd, hlk, hsp =>
      cases ho
      intro K hK
      have d5 : OwnTwo U.heap.size w2 (x 5) r z := hd ⟨5, .data⟩ (by simp) rfl rfl
      obtain ⟨u5, q5, o5⟩ := d5
      have e27 : (gR8 x2 x3 u x).tmps[27]?.getD undef = .tuple #[u5, .int .i64 z] := (show _ = x 5 from rfl).trans q5
      generalize (gR8 x2 x3 u x) = AA at *
      go_simp
      exact hK (.int .i64 z) _ none (World.grownBy.refl _ _) (.inl rfl) rfl (fun _ h => by cases h) (fun _ h => h.elim)
    | 8, _, ho, hd, hlk, hsp =>
      cases ho
      intro K hK
      generalize (gR8 x2 x3 u x) = AA at *
      go_simp
      exact hK (.pointer (some ⟨w2.heap.size, 0, none⟩)) _ none (grown_alloc _ _) (.inl rfl) ⟨_, rfl, hg.size, heap_alloc_new _ _⟩ (fun _ h => by cases h) (fun k hk => .inl (by have hk' : ptrOwns (.pointer (some ⟨w2.heap.size, 0, none⟩)) k := hk; simp only [ptrOwns, Value.pointer.injEq, Option.some.injEq, Addr.mk.injEq, and_true] at hk'; omega))
    | 9, _, ho, hd, hlk, hsp =>
      cases ho
      intro K hK
      have d6 : OwnBook U.heap.size w2 (x 6) r := hd ⟨6, .phase⟩ (by simp) rfl rfl
      obtain ⟨H1, l1', H2, l2', H3, l3', q6, o6⟩ := three_own d6
      have d8 : BoxOf U.heap.size 34 #[.int .i64 0, .slice none 0 0, .slice none 0 0, .slice none 0 0] w2 (x 8) := hd ⟨8, .phase⟩ (by simp) rfl rfl
      obtain ⟨g8, q8, o8, b8⟩ := d8
      have ne9 : ¬ bookOwns (x 6) g8 := hsp 8 g8 rfl q8 ⟨6, .data⟩ (by simp) rfl (by decide) rfl
      rw [q6] at ne9
      have zc0 := cell_of_row w2 _ 0 _ _ _ b8
      have zc1 := cell_of_row w2 _ 1 _ _ _ b8
      have zc2 := cell_of_row w2 _ 2 _ _ _ b8
      have zc3 := cell_of_row w2 _ 3 _ _ _ b8
      have zf0 := frozen_of_row w2 _ 0 _ _ b8
      have zf1 := frozen_of_row w2 _ 1 _ _ b8
      have zf2 := frozen_of_row w2 _ 2 _ _ b8
      have zf3 := frozen_of_row w2 _ 3 _ _ b8
      have FB := fill_box (base := U.heap.size) rfl o8 b8 (own_of o6) ne9
      have e6 : (gR8 x2 x3 u x).tmps[6]?.getD undef = .pointer (some ⟨g8, 0, none⟩) := (show _ = x 8 from rfl).trans q8
      have e33 : (gR8 x2 x3 u x).tmps[33]?.getD undef = .agg #[.int .i64 r.now, .slice H1 r.svcs.length l1', .slice H2 r.cps.length l2', .slice H3 r.brs.length l3'] := (show _ = x 6 from rfl).trans q6
      generalize (gR8 x2 x3 u x) = AA at *
      go_simp
      exact hK _ _ (some g8) FB.2 (.inr (.inl ⟨8, g8, rfl, rfl, q8⟩)) FB.1 (fun j' h => by cases h; exact ⟨_, by rw [q8]⟩) (fun k hk => by
        obtain ⟨p', y', e', h'⟩ := hk
        simp only [Value.tuple.injEq, Array.mk.injEq, List.cons.injEq, and_true] at e'
        obtain ⟨rfl, rfl⟩ := e'
        rcases h' with h' | h'
        · exact .inr (.inl ⟨8, rfl, by show ptrOwns (x 8) k; rw [q8]; exact h'⟩)
        · exact .inr (.inr ⟨⟨6, .data⟩, by simp, rfl, rfl, rfl, by show bookOwns (x 6) k; rw [q6]; exact h'⟩))
    | 10, _, ho, hd, hlk, hsp =>
      cases ho
      intro K hK
      have d7 : x 7 = .int .i64 z := hd ⟨7, .phase⟩ (by simp) rfl rfl
      have e34 : (gR8 x2 x3 u x).tmps[34]?.getD undef = .int .i64 z := (show _ = x 7 from rfl).trans d7
      generalize (gR8 x2 x3 u x) = AA at *
      go_simp
      exact hK (.int .i64 z) _ none (World.grownBy.refl _ _) (.inl rfl) rfl (fun _ h => by cases h) (fun _ h => h.elim)
    | k + 11, hi, _, _, _, _ => omega
  · intro x w2 hj hg hall hlk
    obtain ⟨p9, v1, v2, v3, q9, o9, q, rfl, hq, hb⟩ : Filled U.heap.size 34 w2 (x 9) r := hall 9 (by omega) fun j hj => by show eatsR8 j ≠ some 9; unfold eatsR8; split <;> simp
    obtain ⟨y, hy⟩ : ∃ y, x 9 = .tuple #[x 8, y] := hlk 9 8 (by omega) rfl
    have d7 : x 7 = .int .i64 z := hall 7 (by omega) fun j hj => by show eatsR8 j ≠ some 7; unfold eatsR8; split <;> simp
    have d10 : x 10 = .int .i64 z := hall 10 (by omega) fun j hj => by show eatsR8 j ≠ some 10; unfold eatsR8; split <;> simp
    rw [q9] at hy
    simp only [Value.tuple.injEq, Array.mk.injEq, List.cons.injEq, and_true] at hy
    obtain ⟨h8, -⟩ := hy
    have HF := FIN.out (fun j => (gR8 x2 x3 u x).tmps.getD j undef) w2 q v1 v2 v3 hj hq hb (ownbook_rows o9)
    have HE : gR8 x2 x3 u x = fS8 x2 x3 q z (fun j => (gR8 x2 x3 u x).tmps.getD j undef) := by
      unfold gR8
      rw [← h8, d10]
      kernel_rfl
    rw [HE]
    exact HF
  · exact (Grow.refl U).drew
def fS31 (x2 x3 t6 t8 t9 t10 : Nat) (m : Int) (z : Int) (q : Nat) (u : Nat → Value) : Act := ⟨#[u 0, u 1, .pointer (some ⟨x2, 0, none⟩), .pointer (some ⟨x3, 0, none⟩), u 4, u 5, .pointer (some ⟨t6, 0, none⟩), .int .i64 z, .pointer (some ⟨t8, 0, none⟩), .pointer (some ⟨t9, 0, none⟩), .pointer (some ⟨t10, 0, none⟩), .int .i64 z, u 12, .int .i64 m, u 14, .pointer (some ⟨q, 0, none⟩), .int .i64 z, u 17, u 18, u 19, u 20, u 21, u 22, u 23, u 24, u 25, u 26, u 27, u 28, u 29, u 30, u 31, u 32, u 33, u 34, u 35, u 36, u 37, u 38, u 39, u 40, u 41, u 42, u 43, u 44, u 45, u 46, u 47, u 48, u 49, u 50, u 51, u 52, u 53, u 54, u 55, u 56, u 57, u 58, u 59, u 60, u 61, u 62, u 63, u 64, u 65, u 66, u 67, u 68, u 69, u 70, u 71, u 72, u 73, u 74, u 75, u 76, u 77, u 78, u 79, u 80, u 81, u 82, u 83, u 84, u 85, u 86, u 87, u 88, u 89, u 90, u 91, u 92, u 93, u 94, u 95, u 96, u 97, u 98, u 99, u 100, u 101, u 102, u 103, u 104, u 105, u 106, u 107, u 108, u 109, u 110, u 111, u 112, u 113, u 114, u 115, u 116, u 117, u 118], []⟩
def fR31 (x2 x3 t6 t8 t9 t10 : Nat) (m : Int) (z : Int) (u : Nat → Value) : Act := ⟨#[u 0, u 1, .pointer (some ⟨x2, 0, none⟩), .pointer (some ⟨x3, 0, none⟩), u 4, u 5, .pointer (some ⟨t6, 0, none⟩), .int .i64 z, .pointer (some ⟨t8, 0, none⟩), .pointer (some ⟨t9, 0, none⟩), .pointer (some ⟨t10, 0, none⟩), .int .i64 z, u 12, .int .i64 m, u 14, u 15, u 16, u 17, u 18, u 19, u 20, u 21, u 22, u 23, u 24, u 25, u 26, u 27, u 28, u 29, u 30, u 31, u 32, u 33, u 34, u 35, u 36, u 37, u 38, u 39, u 40, u 41, u 42, u 43, u 44, u 45, u 46, u 47, u 48, u 49, u 50, u 51, u 52, u 53, u 54, u 55, u 56, u 57, u 58, u 59, u 60, u 61, u 62, u 63, u 64, u 65, u 66, u 67, u 68, u 69, u 70, u 71, u 72, u 73, u 74, u 75, u 76, u 77, u 78, u 79, u 80, u 81, u 82, u 83, u 84, u 85, u 86, u 87, u 88, u 89, u 90, u 91, u 92, u 93, u 94, u 95, u 96, u 97, u 98, u 99, u 100, u 101, u 102, u 103, u 104, u 105, u 106, u 107, u 108, u 109, u 110, u 111, u 112, u 113, u 114, u 115, u 116, u 117, u 118], []⟩
def gR31 (x2 x3 t6 t8 t9 t10 : Nat) (m : Int) (z : Int) (u x : Nat → Value) : Act := ⟨#[u 0, u 1, .pointer (some ⟨x2, 0, none⟩), .pointer (some ⟨x3, 0, none⟩), u 4, u 5, .pointer (some ⟨t6, 0, none⟩), .int .i64 z, .pointer (some ⟨t8, 0, none⟩), .pointer (some ⟨t9, 0, none⟩), .pointer (some ⟨t10, 0, none⟩), .int .i64 z, u 12, .int .i64 m, u 14, x 8, x 10, u 17, u 18, u 19, u 20, u 21, u 22, u 23, u 24, u 25, u 26, u 27, u 28, u 29, u 30, u 31, u 32, u 33, u 34, u 35, u 36, u 37, u 38, u 39, u 40, u 41, u 42, u 43, u 44, u 45, u 46, u 47, u 48, u 49, u 50, u 51, u 52, u 53, u 54, u 55, u 56, u 57, u 58, u 59, u 60, u 61, u 62, u 63, u 64, u 65, u 66, u 67, u 68, u 69, u 70, u 71, u 72, u 73, u 74, u 75, u 76, u 77, u 78, u 79, u 80, u 81, u 82, u 83, u 84, u 85, u 86, u 87, u 88, u 89, u 90, u 91, u 92, u 93, x 5, x 0, x 1, x 2, x 3, x 4, x 6, x 7, u 102, u 103, u 104, u 105, u 106, u 107, u 108, u 109, u 110, u 111, u 112, u 113, u 114, u 115, u 116, u 117, u 118], []⟩
def phiR31 (b : Book) (a : SAct) (r : Book) (z : Int) (A1 A2 A3 A : Option Addr) (c1 c2 c3 c : Nat) (base : Nat) : Nat → Value → World → Prop
  | 0, v, w => v = .agg #[.int .i64 b.now, .slice A1 b.svcs.length c1, .slice A2 b.cps.length c2, .slice A3 b.brs.length c3]
  | 1, v, w => OwnBook base w v b
  | 2, v, w => v = .agg #[.string a.service, .int .i64 a.version, .int .i64 a.create, .int .i64 a.want, .int .i64 a.cool, .bool a.scale, .slice A a.ends.length c, .bool a.drop]
  | 3, v, w => OwnAct base w v a
  | 4, v, w => OwnTwo base w v r z
  | 5, v, w => OwnTwo base w v r z
  | 6, v, w => OwnBook base w v r
  | 7, v, w => v = .int .i64 z
  | 8, v, w => BoxOf base 34 #[.int .i64 0, .slice none 0 0, .slice none 0 0, .slice none 0 0] w v
  | 9, v, w => Filled base 34 w v r
  | 10, v, w => v = .int .i64 z
  | _, _, _ => True
def ownsR31 : Nat → Value → Nat → Prop
  | 1, v, k => bookOwns v k
  | 3, v, k => actOwns v k
  | 4, v, k => twoOwns v k
  | 5, v, k => twoOwns v k
  | 6, v, k => bookOwns v k
  | 8, v, k => ptrOwns v k
  | 9, v, k => filledOwns v k
  | _, _, _ => False
def eatsR31 : Nat → Option Nat
  | 9 => some 8
  | _ => none
def linkR31 : Nat → Value → Value → Prop
  | 9, v, u => ∃ y, v = .tuple #[u, y]
  | _, _, _ => True
def wrR31 (b : Book) (a : SAct) (r : Book) (z : Int) (A1 A2 A3 A : Option Addr) (c1 c2 c3 c : Nat) : Nat → Nat → Prop
  | _, _ => False
def saysR31 (b : Book) (a : SAct) (r : Book) (z : Int) (A1 A2 A3 A : Option Addr) (c1 c2 c3 c : Nat) (base : Nat) : Says := ⟨phiR31 b a r z A1 A2 A3 A c1 c2 c3 c base, ownsR31, eatsR31, linkR31, wrR31 b a r z A1 A2 A3 A c1 c2 c3 c⟩
theorem okR31 (b : Book) (a : SAct) (r : Book) (z : Int) (A1 A2 A3 A : Option Addr) (c1 c2 c3 c : Nat) (W : World) : (saysR31 b a r z A1 A2 A3 A c1 c2 c3 c W.heap.size).Ok W where
  kept := by
    intro i v w w' r h hg hr'
    have hr := fun k hk => (hr' k hk).1
    match i, h, hr with
    | 0, h, hr => exact h
    | 1, h, hr => exact OwnBook.kept2 h hg hr
    | 2, h, hr => exact h
    | 3, h, hr => exact OwnAct.kept2 h hg hr
    | 4, h, hr => exact OwnTwo.kept2 h hg hr
    | 5, h, hr => exact OwnTwo.kept2 h hg hr
    | 6, h, hr => exact OwnBook.kept2 h hg hr
    | 7, h, hr => exact h
    | 8, h, hr => exact BoxOf.kept2 h hg hr
    | 9, h, hr => exact Filled.kept2 h hg hr
    | 10, h, hr => exact h
    | _ + 11, _, _ => exact trivial
  lt := by
    intro i v w k h ho
    match i, h, ho with
    | 0, h, ho => exact ho.elim
    | 1, h, ho => exact OwnBook.lt2 h ho
    | 2, h, ho => exact ho.elim
    | 3, h, ho => exact OwnAct.lt2 h ho
    | 4, h, ho => exact OwnTwo.lt2 h ho
    | 5, h, ho => exact OwnTwo.lt2 h ho
    | 6, h, ho => exact OwnBook.lt2 h ho
    | 7, h, ho => exact ho.elim
    | 8, h, ho => exact BoxOf.lt2 h ho
    | 9, h, ho => exact Filled.lt2 h ho
    | 10, h, ho => exact ho.elim
    | _ + 11, _, ho => exact ho.elim
  old := by
    intro i k h
    match i, h with
    | 0, h => exact h.elim
    | 1, h => exact h.elim
    | 2, h => exact h.elim
    | 3, h => exact h.elim
    | 4, h => exact h.elim
    | 5, h => exact h.elim
    | 6, h => exact h.elim
    | 7, h => exact h.elim
    | 8, h => exact h.elim
    | 9, h => exact h.elim
    | 10, h => exact h.elim
    | _ + 11, h => exact h.elim
theorem runR31 {b : Book} {a : SAct} {r : Book} {z : Int} {A1 A2 A3 A : Option Addr} {c1 c2 c3 c : Nat} {x2 x3 t6 t8 t9 t10 : Nat} {m : Int} {u : Nat → Value} {w U : World} {Q : Exit → Act → World → Prop} (G : Grow w U) (HB2 : Hid (U.heap[x2]? = some (.cells #[.int .i64 b.now, .slice A1 b.svcs.length c1, .slice A2 b.cps.length c2, .slice A3 b.brs.length c3] 27 (0, 0)))) (HB3 : Hid (U.heap[x3]? = some (.cells #[.string a.service, .int .i64 a.version, .int .i64 a.create, .int .i64 a.want, .int .i64 a.cool, .bool a.scale, .slice A a.ends.length c, .bool a.drop] 71 (0, 0))))
    (h1 : Rows 13 svcC w A1 b.svcs) (h2 : Rows 7 cpyC w A2 b.cps) (h3 : Rows 2 brtC w A3 b.brs) (h4 : Rows 2 endC w A a.ends) (l1 : b.svcs.length ≤ 2000000) (l2 : b.cps.length ≤ 2000000) (l3 : b.brs.length ≤ 2000000) (l4 : a.ends.length ≤ 2000000) (HR : Hid (applyB b a = (r, z)))
    (fin : ∀ u V q v1 v2 v3, Grow U V → U.heap.size ≤ q → Hid (V.heap[q]? = some (.cells #[.int .i64 r.now, v1, v2, v3] 34 (0, 0))) → Rows3 U.heap.size V v1 v2 v3 r → Q .normal (fS31 x2 x3 t6 t8 t9 t10 m z q u) V) :
    (headOf la31).wp Try.prog Q (fR31 x2 x3 t6 t8 t9 t10 m z u) U := by
  have R1 := Lib.hid (fun (w' : World) (hg : Grow U w') => h1.below (G.trans hg))
  have R2 := Lib.hid (fun (w' : World) (hg : Grow U w') => h2.below (G.trans hg))
  have R3 := Lib.hid (fun (w' : World) (hg : Grow U w') => h3.below (G.trans hg))
  have R4 := Lib.hid (fun (w' : World) (hg : Grow U w') => h4.below (G.trans hg))
  have FIN := Lib.hid fin
  clear h1 h2 h3 h4 fin
  conv => arg 2; whnf

  refine region_free (W := U) (n := 11) (saysR31 b a r z A1 A2 A3 A c1 c2 c3 c U.heap.size) (okR31 b a r z A1 A2 A3 A c1 c2 c3 c U) (fun w' => Grow U w') ?_ (fun a b r hj _ hg hr => Grow.grown hj hg hr) (fun x => gR31 x2 x3 t6 t8 t9 t10 m z u x) (fun j => match j with | 0 => u 95 | 1 => u 96 | 2 => u 97 | 3 => u 98 | 4 => u 99 | 5 => u 94 | 6 => u 100 | 7 => u 101 | 8 => u 15 | 10 => u 16 | _ => undef) rfl (by kernel_rfl) (by kernel_rfl) (by kernel_rfl) (by kernel_rfl) (Grow.refl _) (by kernel_rfl) ?_ ?_ ?_
  rotate_left
  · intro ii oo x v hi ho
    match ii, hi, ho with
    | 0, _, ho => cases ho; rfl
    | 1, _, ho => cases ho; rfl
    | 2, _, ho => cases ho; rfl
    | 3, _, ho => cases ho; rfl
    | 4, _, ho => cases ho; rfl
    | 5, _, ho => cases ho; rfl
    | 6, _, ho => cases ho; rfl
    | 7, _, ho => cases ho; rfl
    | 8, _, ho => cases ho; rfl
    | 9, _, ho => cases ho; rfl
    | 10, _, ho => cases ho; rfl
    | k + 11, hi, _ => omega
  · intro ii oo x w2 hi ho hj hg hd hlk hsp
    match ii, hi, ho, hd, hlk, hsp with
    | 0, _, ho, hd, hlk, hsp =>
      cases ho
      intro K hK
      have p0 := cell_of_row w2 _ 0 _ _ _ (blk_grow HB2.out hj)
      have p1 := cell_of_row w2 _ 1 _ _ _ (blk_grow HB2.out hj)
      have p2 := cell_of_row w2 _ 2 _ _ _ (blk_grow HB2.out hj)
      have p3 := cell_of_row w2 _ 3 _ _ _ (blk_grow HB2.out hj)
      have e2 : (gR31 x2 x3 t6 t8 t9 t10 m z u x).tmps[2]?.getD undef = .pointer (some ⟨x2, 0, none⟩) := rfl
      generalize (gR31 x2 x3 t6 t8 t9 t10 m z u x) = AA at *
      go_simp
      exact hK (.agg #[.int .i64 b.now, .slice A1 b.svcs.length c1, .slice A2 b.cps.length c2, .slice A3 b.brs.length c3]) _ none (World.grownBy.refl _ _) (.inl rfl) rfl (fun _ h => by cases h) (fun _ h => h.elim)
    | 1, _, ho, hd, hlk, hsp =>
      cases ho
      intro K hK
      have d0 : x 0 = .agg #[.int .i64 b.now, .slice A1 b.svcs.length c1, .slice A2 b.cps.length c2, .slice A3 b.brs.length c3] := hd ⟨0, .data⟩ (by simp) rfl rfl
      have e95 : (gR31 x2 x3 t6 t8 t9 t10 m z u x).tmps[95]?.getD undef = .agg #[.int .i64 b.now, .slice A1 b.svcs.length c1, .slice A2 b.cps.length c2, .slice A3 b.brs.length c3] := (show _ = x 0 from rfl).trans d0
      generalize (gR31 x2 x3 t6 t8 t9 t10 m z u x) = AA at *
      go_simp
      refine (toStewBook_c b w2 (R1.out _ hj) (R2.out _ hj) (R3.out _ hj) l1 l2 l3).mono ?_
      rintro ee w4 ⟨v4, rfl, ho4, hg4⟩
      exact hK v4 w4 none (grown_none hg4 _) (.inl rfl) (ho4.low hg.size) (fun _ h => by cases h) (fun k hk => .inl (ho4.lt2 hk).1)
    | 2, _, ho, hd, hlk, hsp =>
      cases ho
      intro K hK
      have p0 := cell_of_row w2 _ 0 _ _ _ (blk_grow HB3.out hj)
      have p1 := cell_of_row w2 _ 1 _ _ _ (blk_grow HB3.out hj)
      have p2 := cell_of_row w2 _ 2 _ _ _ (blk_grow HB3.out hj)
      have p3 := cell_of_row w2 _ 3 _ _ _ (blk_grow HB3.out hj)
      have p4 := cell_of_row w2 _ 4 _ _ _ (blk_grow HB3.out hj)
      have p5 := cell_of_row w2 _ 5 _ _ _ (blk_grow HB3.out hj)
      have p6 := cell_of_row w2 _ 6 _ _ _ (blk_grow HB3.out hj)
      have p7 := cell_of_row w2 _ 7 _ _ _ (blk_grow HB3.out hj)
      have e3 : (gR31 x2 x3 t6 t8 t9 t10 m z u x).tmps[3]?.getD undef = .pointer (some ⟨x3, 0, none⟩) := rfl
      generalize (gR31 x2 x3 t6 t8 t9 t10 m z u x) = AA at *
      go_simp
      exact hK (.agg #[.string a.service, .int .i64 a.version, .int .i64 a.create, .int .i64 a.want, .int .i64 a.cool, .bool a.scale, .slice A a.ends.length c, .bool a.drop]) _ none (World.grownBy.refl _ _) (.inl rfl) rfl (fun _ h => by cases h) (fun _ h => h.elim)
    | 3, _, ho, hd, hlk, hsp =>
      cases ho
      intro K hK
      have d2 : x 2 = .agg #[.string a.service, .int .i64 a.version, .int .i64 a.create, .int .i64 a.want, .int .i64 a.cool, .bool a.scale, .slice A a.ends.length c, .bool a.drop] := hd ⟨2, .data⟩ (by simp) rfl rfl
      have e97 : (gR31 x2 x3 t6 t8 t9 t10 m z u x).tmps[97]?.getD undef = .agg #[.string a.service, .int .i64 a.version, .int .i64 a.create, .int .i64 a.want, .int .i64 a.cool, .bool a.scale, .slice A a.ends.length c, .bool a.drop] := (show _ = x 2 from rfl).trans d2
      generalize (gR31 x2 x3 t6 t8 t9 t10 m z u x) = AA at *
      go_simp
      refine (toStewAct_c a w2 (R4.out _ hj) l4).mono ?_
      rintro ee w4 ⟨v4, rfl, ho4, hg4⟩
      exact hK v4 w4 none (grown_none hg4 _) (.inl rfl) (ho4.low hg.size) (fun _ h => by cases h) (fun k hk => .inl (ho4.lt2 hk).1)
    | 4, _, ho, hd, hlk, hsp =>
      cases ho
      intro K hK
      have d1 : OwnBook U.heap.size w2 (x 1) b := hd ⟨1, .data⟩ (by simp) rfl rfl
      obtain ⟨E1, f1, E2, f2, E3, f3, q1, o1⟩ := three_own d1
      have d3 : OwnAct U.heap.size w2 (x 3) a := hd ⟨3, .chain⟩ (by simp) rfl rfl
      obtain ⟨E6, f6, q3, o3⟩ := act_own d3
      have e96 : (gR31 x2 x3 t6 t8 t9 t10 m z u x).tmps[96]?.getD undef = .agg #[.int .i64 b.now, .slice E1 b.svcs.length f1, .slice E2 b.cps.length f2, .slice E3 b.brs.length f3] := (show _ = x 1 from rfl).trans q1
      have e98 : (gR31 x2 x3 t6 t8 t9 t10 m z u x).tmps[98]?.getD undef = .agg #[.string a.service, .int .i64 a.version, .int .i64 a.create, .int .i64 a.want, .int .i64 a.cool, .bool a.scale, .slice E6 a.ends.length f6, .bool a.drop] := (show _ = x 3 from rfl).trans q3
      generalize (gR31 x2 x3 t6 t8 t9 t10 m z u x) = AA at *
      go_simp
      refine (implApply_c b a w2 (rows_of o1).2.1 (rows_of o1).2.2.1 (rows_of o1).2.2.2 o3 l1 l2 l3 l4).mono ?_
      rintro ee w4 ⟨v4, rfl, ho4, hg4⟩
      rw [HR.out] at ho4 ⊢
      exact hK (.tuple #[v4, .int .i64 z]) w4 none (grown_none hg4 _) (.inl rfl) ⟨_, rfl, ho4.low hg.size⟩ (fun _ h => by cases h) (fun k hk => .inl ((show OwnTwo _ _ _ _ _ from ⟨_, rfl, ho4⟩).lt2 hk).1)
    | 5, _, ho, hd, hlk, hsp =>
      cases ho
      intro K hK
      have d4 : OwnTwo U.heap.size w2 (x 4) r z := hd ⟨4, .data⟩ (by simp) rfl rfl
      obtain ⟨u4, q4, o4⟩ := d4
      have e99 : (gR31 x2 x3 t6 t8 t9 t10 m z u x).tmps[99]?.getD undef = .tuple #[u4, .int .i64 z] := (show _ = x 4 from rfl).trans q4
      generalize (gR31 x2 x3 t6 t8 t9 t10 m z u x) = AA at *
      go_simp
      exact hK (.tuple #[u4, .int .i64 z]) _ none (World.grownBy.refl _ _) (.inl rfl) ⟨_, rfl, o4⟩ (fun _ h => by cases h) (fun k hk => .inr (.inr ⟨⟨4, .data⟩, by simp, rfl, rfl, rfl, by show twoOwns (x 4) k; rw [q4]; exact hk⟩))
    | 6, _, ho, hd, hlk, hsp =>
      cases ho
      intro K hK
      have d5 : OwnTwo U.heap.size w2 (x 5) r z := hd ⟨5, .data⟩ (by simp) rfl rfl
      obtain ⟨u5, q5, o5⟩ := d5
      have e94 : (gR31 x2 x3 t6 t8 t9 t10 m z u x).tmps[94]?.getD undef = .tuple #[u5, .int .i64 z] := (show _ = x 5 from rfl).trans q5
      generalize (gR31 x2 x3 t6 t8 t9 t10 m z u x) = AA at *
      go_simp
      exact hK u5 _ none (World.grownBy.refl _ _) (.inl rfl) o5 (fun _ h => by cases h) (fun k hk => .inr (.inr ⟨⟨5, .data⟩, by simp, rfl, rfl, rfl, by show twoOwns (x 5) k; rw [q5]; exact ⟨_, _, rfl, hk⟩⟩))
    | 7, _, ho, hd, hlk, hsp =>
      cases ho
      intro K hK
      have d5 : OwnTwo U.heap.size w2 (x 5) r z := hd ⟨5, .data⟩ (by simp) rfl rfl
      obtain ⟨u5, q5, o5⟩ := d5
      have e94 : (gR31 x2 x3 t6 t8 t9 t10 m z u x).tmps[94]?.getD undef = .tuple #[u5, .int .i64 z] := (show _ = x 5 from rfl).trans q5
      generalize (gR31 x2 x3 t6 t8 t9 t10 m z u x) = AA at *
      go_simp
      exact hK (.int .i64 z) _ none (World.grownBy.refl _ _) (.inl rfl) rfl (fun _ h => by cases h) (fun _ h => h.elim)
    | 8, _, ho, hd, hlk, hsp =>
      cases ho
      intro K hK
      generalize (gR31 x2 x3 t6 t8 t9 t10 m z u x) = AA at *
      go_simp
      exact hK (.pointer (some ⟨w2.heap.size, 0, none⟩)) _ none (grown_alloc _ _) (.inl rfl) ⟨_, rfl, hg.size, heap_alloc_new _ _⟩ (fun _ h => by cases h) (fun k hk => .inl (by have hk' : ptrOwns (.pointer (some ⟨w2.heap.size, 0, none⟩)) k := hk; simp only [ptrOwns, Value.pointer.injEq, Option.some.injEq, Addr.mk.injEq, and_true] at hk'; omega))
    | 9, _, ho, hd, hlk, hsp =>
      cases ho
      intro K hK
      have d6 : OwnBook U.heap.size w2 (x 6) r := hd ⟨6, .phase⟩ (by simp) rfl rfl
      obtain ⟨H1, l1', H2, l2', H3, l3', q6, o6⟩ := three_own d6
      have d8 : BoxOf U.heap.size 34 #[.int .i64 0, .slice none 0 0, .slice none 0 0, .slice none 0 0] w2 (x 8) := hd ⟨8, .phase⟩ (by simp) rfl rfl
      obtain ⟨g8, q8, o8, b8⟩ := d8
      have ne9 : ¬ bookOwns (x 6) g8 := hsp 8 g8 rfl q8 ⟨6, .data⟩ (by simp) rfl (by decide) rfl
      rw [q6] at ne9
      have zc0 := cell_of_row w2 _ 0 _ _ _ b8
      have zc1 := cell_of_row w2 _ 1 _ _ _ b8
      have zc2 := cell_of_row w2 _ 2 _ _ _ b8
      have zc3 := cell_of_row w2 _ 3 _ _ _ b8
      have zf0 := frozen_of_row w2 _ 0 _ _ b8
      have zf1 := frozen_of_row w2 _ 1 _ _ b8
      have zf2 := frozen_of_row w2 _ 2 _ _ b8
      have zf3 := frozen_of_row w2 _ 3 _ _ b8
      have FB := fill_box (base := U.heap.size) rfl o8 b8 (own_of o6) ne9
      have e15 : (gR31 x2 x3 t6 t8 t9 t10 m z u x).tmps[15]?.getD undef = .pointer (some ⟨g8, 0, none⟩) := (show _ = x 8 from rfl).trans q8
      have e100 : (gR31 x2 x3 t6 t8 t9 t10 m z u x).tmps[100]?.getD undef = .agg #[.int .i64 r.now, .slice H1 r.svcs.length l1', .slice H2 r.cps.length l2', .slice H3 r.brs.length l3'] := (show _ = x 6 from rfl).trans q6
      generalize (gR31 x2 x3 t6 t8 t9 t10 m z u x) = AA at *
      go_simp
      exact hK _ _ (some g8) FB.2 (.inr (.inl ⟨8, g8, rfl, rfl, q8⟩)) FB.1 (fun j' h => by cases h; exact ⟨_, by rw [q8]⟩) (fun k hk => by
        obtain ⟨p', y', e', h'⟩ := hk
        simp only [Value.tuple.injEq, Array.mk.injEq, List.cons.injEq, and_true] at e'
        obtain ⟨rfl, rfl⟩ := e'
        rcases h' with h' | h'
        · exact .inr (.inl ⟨8, rfl, by show ptrOwns (x 8) k; rw [q8]; exact h'⟩)
        · exact .inr (.inr ⟨⟨6, .data⟩, by simp, rfl, rfl, rfl, by show bookOwns (x 6) k; rw [q6]; exact h'⟩))
    | 10, _, ho, hd, hlk, hsp =>
      cases ho
      intro K hK
      have d7 : x 7 = .int .i64 z := hd ⟨7, .phase⟩ (by simp) rfl rfl
      have e101 : (gR31 x2 x3 t6 t8 t9 t10 m z u x).tmps[101]?.getD undef = .int .i64 z := (show _ = x 7 from rfl).trans d7
      generalize (gR31 x2 x3 t6 t8 t9 t10 m z u x) = AA at *
      go_simp
      exact hK (.int .i64 z) _ none (World.grownBy.refl _ _) (.inl rfl) rfl (fun _ h => by cases h) (fun _ h => h.elim)
    | k + 11, hi, _, _, _, _ => omega
  · intro x w2 hj hg hall hlk
    obtain ⟨p9, v1, v2, v3, q9, o9, q, rfl, hq, hb⟩ : Filled U.heap.size 34 w2 (x 9) r := hall 9 (by omega) fun j hj => by show eatsR31 j ≠ some 9; unfold eatsR31; split <;> simp
    obtain ⟨y, hy⟩ : ∃ y, x 9 = .tuple #[x 8, y] := hlk 9 8 (by omega) rfl
    have d7 : x 7 = .int .i64 z := hall 7 (by omega) fun j hj => by show eatsR31 j ≠ some 7; unfold eatsR31; split <;> simp
    have d10 : x 10 = .int .i64 z := hall 10 (by omega) fun j hj => by show eatsR31 j ≠ some 10; unfold eatsR31; split <;> simp
    rw [q9] at hy
    simp only [Value.tuple.injEq, Array.mk.injEq, List.cons.injEq, and_true] at hy
    obtain ⟨h8, -⟩ := hy
    have HF := FIN.out (fun j => (gR31 x2 x3 t6 t8 t9 t10 m z u x).tmps.getD j undef) w2 q v1 v2 v3 hj hq hb (ownbook_rows o9)
    have HE : gR31 x2 x3 t6 t8 t9 t10 m z u x = fS31 x2 x3 t6 t8 t9 t10 m z q (fun j => (gR31 x2 x3 t6 t8 t9 t10 m z u x).tmps.getD j undef) := by
      unfold gR31
      rw [← h8, d10]
      kernel_rfl
    rw [HE]
    exact HF
  · exact (Grow.refl U).drew
end Go.Proofs.Ytnmknkdbeccmhaa
