/- The law FnExactStewApply: the program's StewApply answers as the reference's, at every book and act; its answer owns its memory. -/
import Derived.Test.YtnmknkdbeccmhaaAp30
import Derived.Test.YtnmknkdbeccmhaaAp17
namespace Go.Proofs.Ytnmknkdbeccmhaa
open Go.RowKit
set_option linter.unusedSimpArgs false
set_option linter.unusedVariables false
set_option maxRecDepth 1000000
set_option maxHeartbeats 8000000
/-- The blocks of three slices lie between lo and hi. -/
def Lies (lo hi : Nat) (v1 v2 v3 : Value) : Prop := ∀ k, (some k = v1.ownBlock ∨ some k = v2.ownBlock ∨ some k = v3.ownBlock) → lo ≤ k ∧ k < hi
theorem Rows3.lies {base : Nat} {w : World} {v1 v2 v3 : Value} {b : Book} (h : Rows3 base w v1 v2 v3 b) : Lies base w.heap.size v1 v2 v3 := fun k hk => by
  rcases hk with e | e | e
  · exact h.r1.lt k e.symm
  · exact h.r2.lt k e.symm
  · exact h.r3.lt k e.symm
theorem Marked.rows {lo hi lo' hi' base' : Nat} {v1 v2 v3 u1 u2 u3 : Value} {b' : Book} {w w' : World} (h : Marked v1 v2 v3 w w') (Iv : Lies lo hi v1 v2 v3) (ho : Rows3 base' w u1 u2 u3 b') (Iu : Lies lo' hi' u1 u2 u3) (hd : hi ≤ lo' ∨ hi' ≤ lo) : Rows3 base' w' u1 u2 u3 b' := by
  have key : ∀ {T n N : Nat} {v : Value} {L : List Value}, w.ownsRow base' T n v N L → (∀ k, some k = v.ownBlock → lo' ≤ k ∧ k < hi') → w'.ownsRow base' T n v N L := by
    intro T n N v L hv hi'
    refine ⟨hv.1, ?_⟩
    rcases hv.2 with h0 | ⟨g, cap, cur, e, hb, hg, r⟩
    · exact .inl h0
    · refine .inr ⟨g, cap, cur, e, hb, ?_, r⟩
      have h1 := hi' g (by rw [e]; rfl)
      refine (h.block g (blk_lt hg) ?_ ?_ ?_).trans hg
      · intro e; have := Iv g (.inl e); omega
      · intro e; have := Iv g (.inr (.inl e)); omega
      · intro e; have := Iv g (.inr (.inr e)); omega
  exact ⟨key ho.r1 fun k e => Iu k (.inl e), key ho.r2 fun k e => Iu k (.inr (.inl e)), key ho.r3 fun k e => Iu k (.inr (.inr e))⟩
theorem Rows3.other {base T n N : Nat} {w w' : World} {v v1 v2 v3 : Value} {L : List Value} {b : Book} {base' : Nat} (h : Rows3 base w v1 v2 v3 b) (hv : w.ownsRow base' T n v N L) (hg : w.grownBy w' v.ownBlock) (h1 : 83 ≠ T) (h2 : 65 ≠ T) (h3 : 104 ≠ T) : Rows3 base w' v1 v2 v3 b :=
  ⟨h.r1.kept hg (own_ne hv h.r1 h1), h.r2.kept hg (own_ne hv h.r2 h2), h.r3.kept hg (own_ne hv h.r3 h3)⟩
theorem Rows3.get {base : Nat} {w : World} {b : Book} {A1 A2 A3 : Option Addr} {n1 n2 n3 c1 c2 c3 : Nat} (h : Rows3 base w (.slice A1 n1 c1) (.slice A2 n2 c2) (.slice A3 n3 c3) b) : Rows 13 svcC w A1 b.svcs ∧ Rows 7 cpyC w A2 b.cps ∧ Rows 2 brtC w A3 b.brs := (rows_of h).2
theorem own_ends {base : Nat} {w : World} {A : Option Addr} {n c : Nat} {xs : List SEnd} (h : w.ownsRow base 150 2 (.slice A n c) xs.length (xs.flatMap endC)) : Rows 2 endC w A xs := by
  obtain ⟨A', c', e, -, r⟩ := own_rows endC_len rfl h
  cases e
  exact r
def fL (x2 x3 t6 t8 t9 t10 : Nat) (z : Int) (u : Nat → Value) : Act := ⟨#[u 0, u 1, .pointer (some ⟨x2, 0, none⟩), .pointer (some ⟨x3, 0, none⟩), u 4, u 5, .pointer (some ⟨t6, 0, none⟩), .int .i64 z, .pointer (some ⟨t8, 0, none⟩), .pointer (some ⟨t9, 0, none⟩), .pointer (some ⟨t10, 0, none⟩), .int .i64 z, u 12, u 13, u 14, u 15, u 16, u 17, u 18, u 19, u 20, u 21, u 22, u 23, u 24, u 25, u 26, u 27, u 28, u 29, u 30, u 31, u 32, u 33, u 34, u 35, u 36, u 37, u 38, u 39, u 40, u 41, u 42, u 43, u 44, u 45, u 46, u 47, u 48, u 49, u 50, u 51, u 52, u 53, u 54, u 55, u 56, u 57, u 58, u 59, u 60, u 61, u 62, u 63, u 64, u 65, u 66, u 67, u 68, u 69, u 70, u 71, u 72, u 73, u 74, u 75, u 76, u 77, u 78, u 79, u 80, u 81, u 82, u 83, u 84, u 85, u 86, u 87, u 88, u 89, u 90, u 91, u 92, u 93, u 94, u 95, u 96, u 97, u 98, u 99, u 100, u 101, u 102, u 103, u 104, u 105, u 106, u 107, u 108, u 109, u 110, u 111, u 112, u 113, u 114, u 115, u 116, u 117, u 118], []⟩
noncomputable def la9 : Code := tailOf Try.f11 9
noncomputable def la12 : Code := tailOf Try.f11 12
/-- What lies in memory behind the two runs. -/
structure LaSt (b : Book) (a : SAct) (r : Book) (A1 A2 A3 A : Option Addr) (c1 c2 c3 c : Nat) (W1 W2 W3 X1 X2 X3 E G1 G2 G3 : Option Addr) (d1 d2 d3 e1 e2 e3 e g1 g2 g3 : Nat) (x2 x3 t6 t8 t9 t10 m0 m1 m2 m3 : Nat) (w U : World) : Prop where
  G : Grow w U
  B2 : U.heap[x2]? = some (.cells #[.int .i64 b.now, .slice A1 b.svcs.length c1, .slice A2 b.cps.length c2, .slice A3 b.brs.length c3] 27 (0, 0))
  B3 : U.heap[x3]? = some (.cells #[.string a.service, .int .i64 a.version, .int .i64 a.create, .int .i64 a.want, .int .i64 a.cool, .bool a.scale, .slice A a.ends.length c, .bool a.drop] 71 (0, 0))
  T6 : U.heap[t6]? = some (.cells #[.int .i64 r.now, .slice W1 r.svcs.length d1, .slice W2 r.cps.length d2, .slice W3 r.brs.length d3] 34 (0, 0))
  T8 : U.heap[t8]? = some (.cells #[.int .i64 b.now, .slice X1 b.svcs.length e1, .slice X2 b.cps.length e2, .slice X3 b.brs.length e3] 34 (0, 0))
  T9 : U.heap[t9]? = some (.cells #[.string a.service, .int .i64 a.version, .int .i64 a.create, .int .i64 a.want, .int .i64 a.cool, .bool a.scale, .slice E a.ends.length e, .bool a.drop] 77 (0, 0))
  T10 : U.heap[t10]? = some (.cells #[.int .i64 r.now, .slice G1 r.svcs.length g1, .slice G2 r.cps.length g2, .slice G3 r.brs.length g3] 34 (0, 0))
  OW : Rows3 w.heap.size U (.slice W1 r.svcs.length d1) (.slice W2 r.cps.length d2) (.slice W3 r.brs.length d3) r
  OX : Rows3 w.heap.size U (.slice X1 b.svcs.length e1) (.slice X2 b.cps.length e2) (.slice X3 b.brs.length e3) b
  OE : U.ownsRow w.heap.size 150 2 (.slice E a.ends.length e) a.ends.length (a.ends.flatMap endC)
  OG : Rows3 w.heap.size U (.slice G1 r.svcs.length g1) (.slice G2 r.cps.length g2) (.slice G3 r.brs.length g3) r
  IW : Lies m0 m1 (.slice W1 r.svcs.length d1) (.slice W2 r.cps.length d2) (.slice W3 r.brs.length d3)
  IX : Lies m1 m2 (.slice X1 b.svcs.length e1) (.slice X2 b.cps.length e2) (.slice X3 b.brs.length e3)
  IG : Lies m2 m3 (.slice G1 r.svcs.length g1) (.slice G2 r.cps.length g2) (.slice G3 r.brs.length g3)
  mm : m1 ≤ m2

section
variable {b : Book} {a : SAct} {r : Book} {A1 A2 A3 A : Option Addr} {c1 c2 c3 c : Nat} {W1 W2 W3 X1 X2 X3 E G1 G2 G3 : Option Addr} {d1 d2 d3 e1 e2 e3 e g1 g2 g3 : Nat} {x2 x3 t6 t8 t9 t10 m0 m1 m2 m3 : Nat} {w U V : World}
theorem LaSt.grow (h : LaSt b a r A1 A2 A3 A c1 c2 c3 c W1 W2 W3 X1 X2 X3 E G1 G2 G3 d1 d2 d3 e1 e2 e3 e g1 g2 g3 x2 x3 t6 t8 t9 t10 m0 m1 m2 m3 w U) (k : Grow U V) : LaSt b a r A1 A2 A3 A c1 c2 c3 c W1 W2 W3 X1 X2 X3 E G1 G2 G3 d1 d2 d3 e1 e2 e3 e g1 g2 g3 x2 x3 t6 t8 t9 t10 m0 m1 m2 m3 w V :=
  ⟨h.G.trans k, blk_grow h.B2 k, blk_grow h.B3 k, blk_grow h.T6 k, blk_grow h.T8 k, blk_grow h.T9 k, blk_grow h.T10 k, h.OW.grow k, h.OX.grow k, own_grow h.OE k, h.OG.grow k, h.IW, h.IX, h.IG, h.mm⟩

theorem laB {z : Int} {u : Nat → Value} (S : LaSt b a r A1 A2 A3 A c1 c2 c3 c W1 W2 W3 X1 X2 X3 E G1 G2 G3 d1 d2 d3 e1 e2 e3 e g1 g2 g3 x2 x3 t6 t8 t9 t10 m0 m1 m2 m3 w U) (h1 : Rows 13 svcC w A1 b.svcs) (h2 : Rows 7 cpyC w A2 b.cps) (h3 : Rows 2 brtC w A3 b.brs) (h4 : Rows 2 endC w A a.ends) (l1 : b.svcs.length ≤ 2000000) (l2 : b.cps.length ≤ 2000000) (l3 : b.brs.length ≤ 2000000) (l4 : a.ends.length ≤ 2000000) (k1 : r.svcs.length ≤ 2000000) (k2 : r.cps.length ≤ 2000000) (k3 : r.brs.length ≤ 2000000)
    (HR : Hid (applyB b a = (r, z))) : la12.wp Try.prog (bodyPost Try.prog Try.f11 fun e w' => e = .returned (.bool true) ∧ Grow w w') (fL x2 x3 t6 t8 t9 t10 z u) U := by
  have R1 := Lib.hid (fun (w' : World) (hg : Grow w w') => h1.below hg)
  have R2 := Lib.hid (fun (w' : World) (hg : Grow w w') => h2.below hg)
  have R3 := Lib.hid (fun (w' : World) (hg : Grow w w') => h3.below hg)
  have R4 := Lib.hid (fun (w' : World) (hg : Grow w w') => h4.below hg)
  have HS := Lib.hid S
  clear h1 h2 h3 h4
  conv => arg 2; whnf
  unfold fL
  have p0 := cell_of_row U _ 0 _ _ _ S.T10
  have p1 := cell_of_row U _ 1 _ _ _ S.T10
  have p2 := cell_of_row U _ 2 _ _ _ S.T10
  have p3 := cell_of_row U _ 3 _ _ _ S.T10
  have q0 := cell_of_row U _ 0 _ _ _ S.T6
  have q1 := cell_of_row U _ 1 _ _ _ S.T6
  have q2 := cell_of_row U _ 2 _ _ _ S.T6
  have q3 := cell_of_row U _ 3 _ _ _ S.T6
  clear S
  go_wp2_with fail
  refine (eqStewBook_c r _ HS.out.OG.get.1 HS.out.OG.get.2.1 HS.out.OG.get.2.2 HS.out.OW.get.1 HS.out.OW.get.2.1 HS.out.OW.get.2.2 k1 k2 k3).mono ?_
  rintro e w2 ⟨rfl, hg2⟩
  have HS2 := Lib.hid (HS.out.grow hg2)
  clear HS hg2 p0 p1 p2 p3 q0 q1 q2 q3
  go_wp2_with fail
  have q0 := cell_of_row w2 _ 0 _ _ _ HS2.out.T8
  have q1 := cell_of_row w2 _ 1 _ _ _ HS2.out.T8
  have q2 := cell_of_row w2 _ 2 _ _ _ HS2.out.T8
  have q3 := cell_of_row w2 _ 3 _ _ _ HS2.out.T8
  have p0 := cell_of_row w2 _ 0 _ _ _ HS2.out.B2
  have p1 := cell_of_row w2 _ 1 _ _ _ HS2.out.B2
  have p2 := cell_of_row w2 _ 2 _ _ _ HS2.out.B2
  have p3 := cell_of_row w2 _ 3 _ _ _ HS2.out.B2
  go_region_held3 (fun w' => Hid (Grow w2 w') ∧ w'.cell? ⟨t8, 0, none⟩ = some (.int .i64 b.now) ∧ w'.cell? ⟨t8, 1, none⟩ = some (.slice X1 b.svcs.length e1) ∧ w'.cell? ⟨t8, 2, none⟩ = some (.slice X2 b.cps.length e2) ∧ w'.cell? ⟨t8, 3, none⟩ = some (.slice X3 b.brs.length e3) ∧
      w'.cell? ⟨x2, 0, none⟩ = some (.int .i64 b.now) ∧ w'.cell? ⟨x2, 1, none⟩ = some (.slice A1 b.svcs.length c1) ∧ w'.cell? ⟨x2, 2, none⟩ = some (.slice A2 b.cps.length c2) ∧ w'.cell? ⟨x2, 3, none⟩ = some (.slice A3 b.brs.length c3))
    (first
      | exact ⟨(Grow.refl _).drew, q0, q1, q2, q3, p0, p1, p2, p3⟩
      | exact ⟨(Grow.refl _).drew.trans hg7, cell_of_row w7 _ 0 _ _ _ Y7, cell_of_row w7 _ 1 _ _ _ Y7, cell_of_row w7 _ 2 _ _ _ Y7, cell_of_row w7 _ 3 _ _ _ Y7, cell_of_row w7 _ 0 _ _ _ X7, cell_of_row w7 _ 1 _ _ _ X7, cell_of_row w7 _ 2 _ _ _ X7, cell_of_row w7 _ 3 _ _ _ X7⟩
      | exact ⟨((Grow.refl _).drew.trans hg7).trans hg8, cell_of_row w8 _ 0 _ _ _ Y8, cell_of_row w8 _ 1 _ _ _ Y8, cell_of_row w8 _ 2 _ _ _ Y8, cell_of_row w8 _ 3 _ _ _ Y8, cell_of_row w8 _ 0 _ _ _ X8, cell_of_row w8 _ 1 _ _ _ X8, cell_of_row w8 _ 2 _ _ _ X8, cell_of_row w8 _ 3 _ _ _ X8⟩)
    (first
      | (go_at_call 17; refine (toStewBook_c b _ (R1.out _ HS2.out.G.drew) (R2.out _ HS2.out.G.drew) (R3.out _ HS2.out.G.drew) l1 l2 l3).mono ?_; rintro e w7 ⟨v, rfl, ho, hg7⟩; obtain ⟨E1, f1, E2, f2, E3, f3, rfl, r1, r2, r3⟩ := ho.rows; have Y7 := blk_grow (w := w2.drew) HS2.out.T8 hg7; have X7 := blk_grow (w := w2.drew) HS2.out.B2 hg7)
      | (go_at_call 19; refine (eqStewBook_c b _ (HS2.out.OX.grow ((Grow.refl _).drew.trans hg7)).get.1 (HS2.out.OX.grow ((Grow.refl _).drew.trans hg7)).get.2.1 (HS2.out.OX.grow ((Grow.refl _).drew.trans hg7)).get.2.2 r1 r2 r3 l1 l2 l3).mono ?_; rintro e w8 ⟨rfl, hg8⟩; have Y8 := blk_grow Y7 hg8; have X8 := blk_grow X7 hg8))
  have HS3 := Lib.hid (HS2.out.grow (((Grow.refl w2).drew.trans hg7).trans hg8))
  clear hg7 hg8 Y7 X7 Y8 X8 r1 r2 r3 ho HS2 p0 p1 p2 p3 q0 q1 q2 q3
  go_wp2_with fail
  have q0 := cell_of_row w8 _ 0 _ _ _ HS3.out.T9
  have q1 := cell_of_row w8 _ 1 _ _ _ HS3.out.T9
  have q2 := cell_of_row w8 _ 2 _ _ _ HS3.out.T9
  have q3 := cell_of_row w8 _ 3 _ _ _ HS3.out.T9
  have q4 := cell_of_row w8 _ 4 _ _ _ HS3.out.T9
  have q5 := cell_of_row w8 _ 5 _ _ _ HS3.out.T9
  have q6 := cell_of_row w8 _ 6 _ _ _ HS3.out.T9
  have q7 := cell_of_row w8 _ 7 _ _ _ HS3.out.T9
  have p0 := cell_of_row w8 _ 0 _ _ _ HS3.out.B3
  have p1 := cell_of_row w8 _ 1 _ _ _ HS3.out.B3
  have p2 := cell_of_row w8 _ 2 _ _ _ HS3.out.B3
  have p3 := cell_of_row w8 _ 3 _ _ _ HS3.out.B3
  have p4 := cell_of_row w8 _ 4 _ _ _ HS3.out.B3
  have p5 := cell_of_row w8 _ 5 _ _ _ HS3.out.B3
  have p6 := cell_of_row w8 _ 6 _ _ _ HS3.out.B3
  have p7 := cell_of_row w8 _ 7 _ _ _ HS3.out.B3
  go_region_held3 (fun w' => Hid (Grow w8 w') ∧ w'.cell? ⟨t9, 0, none⟩ = some (.string a.service) ∧ w'.cell? ⟨t9, 1, none⟩ = some (.int .i64 a.version) ∧ w'.cell? ⟨t9, 2, none⟩ = some (.int .i64 a.create) ∧ w'.cell? ⟨t9, 3, none⟩ = some (.int .i64 a.want) ∧ w'.cell? ⟨t9, 4, none⟩ = some (.int .i64 a.cool) ∧ w'.cell? ⟨t9, 5, none⟩ = some (.bool a.scale) ∧ w'.cell? ⟨t9, 6, none⟩ = some (.slice E a.ends.length e) ∧ w'.cell? ⟨t9, 7, none⟩ = some (.bool a.drop) ∧ w'.cell? ⟨x3, 0, none⟩ = some (.string a.service) ∧ w'.cell? ⟨x3, 1, none⟩ = some (.int .i64 a.version) ∧ w'.cell? ⟨x3, 2, none⟩ = some (.int .i64 a.create) ∧ w'.cell? ⟨x3, 3, none⟩ = some (.int .i64 a.want) ∧ w'.cell? ⟨x3, 4, none⟩ = some (.int .i64 a.cool) ∧ w'.cell? ⟨x3, 5, none⟩ = some (.bool a.scale) ∧ w'.cell? ⟨x3, 6, none⟩ = some (.slice A a.ends.length c) ∧ w'.cell? ⟨x3, 7, none⟩ = some (.bool a.drop))
    (first
      | exact ⟨(Grow.refl _).drew, q0, q1, q2, q3, q4, q5, q6, q7, p0, p1, p2, p3, p4, p5, p6, p7⟩
      | exact ⟨(Grow.refl _).drew.trans hg9, cell_of_row w9 _ 0 _ _ _ Y9, cell_of_row w9 _ 1 _ _ _ Y9, cell_of_row w9 _ 2 _ _ _ Y9, cell_of_row w9 _ 3 _ _ _ Y9, cell_of_row w9 _ 4 _ _ _ Y9, cell_of_row w9 _ 5 _ _ _ Y9, cell_of_row w9 _ 6 _ _ _ Y9, cell_of_row w9 _ 7 _ _ _ Y9, cell_of_row w9 _ 0 _ _ _ X9, cell_of_row w9 _ 1 _ _ _ X9, cell_of_row w9 _ 2 _ _ _ X9, cell_of_row w9 _ 3 _ _ _ X9, cell_of_row w9 _ 4 _ _ _ X9, cell_of_row w9 _ 5 _ _ _ X9, cell_of_row w9 _ 6 _ _ _ X9, cell_of_row w9 _ 7 _ _ _ X9⟩
      | exact ⟨((Grow.refl _).drew.trans hg9).trans hg10, cell_of_row w10 _ 0 _ _ _ Y10, cell_of_row w10 _ 1 _ _ _ Y10, cell_of_row w10 _ 2 _ _ _ Y10, cell_of_row w10 _ 3 _ _ _ Y10, cell_of_row w10 _ 4 _ _ _ Y10, cell_of_row w10 _ 5 _ _ _ Y10, cell_of_row w10 _ 6 _ _ _ Y10, cell_of_row w10 _ 7 _ _ _ Y10, cell_of_row w10 _ 0 _ _ _ X10, cell_of_row w10 _ 1 _ _ _ X10, cell_of_row w10 _ 2 _ _ _ X10, cell_of_row w10 _ 3 _ _ _ X10, cell_of_row w10 _ 4 _ _ _ X10, cell_of_row w10 _ 5 _ _ _ X10, cell_of_row w10 _ 6 _ _ _ X10, cell_of_row w10 _ 7 _ _ _ X10⟩)
    (first
      | (go_at_call 42; refine (toStewAct_c a _ (R4.out _ HS3.out.G.drew) l4).mono ?_; rintro ee w9 ⟨v, rfl, ⟨v6, rfl, ho⟩, hg9⟩; obtain ⟨E6, f6, rfl, -, r6⟩ := own_rows endC_len rfl ho; have Y9 := blk_grow (w := w8.drew) HS3.out.T9 hg9; have X9 := blk_grow (w := w8.drew) HS3.out.B3 hg9)
      | (go_at_call 44; refine (eqStewAct_c a _ (own_ends (own_grow HS3.out.OE ((Grow.refl _).drew.trans hg9))) r6 l4).mono ?_; rintro ee w10 ⟨rfl, hg10⟩; have Y10 := blk_grow Y9 hg10; have X10 := blk_grow X9 hg10))
  have HS4 := Lib.hid (HS3.out.grow (((Grow.refl w8).drew.trans hg9).trans hg10))
  clear hg9 hg10 Y9 X9 Y10 X10 r6 ho HS3 p0 p1 p2 p3 p4 p5 p6 p7 q0 q1 q2 q3 q4 q5 q6 q7
  have p0 := cell_of_row w10 _ 0 _ _ _ HS4.out.T8
  have p1 := cell_of_row w10 _ 1 _ _ _ HS4.out.T8
  have p2 := cell_of_row w10 _ 2 _ _ _ HS4.out.T8
  have p3 := cell_of_row w10 _ 3 _ _ _ HS4.out.T8
  go_wp2_with fail
  refine (markStewBook_c b 1 (by omega) (by omega) w10 HS4.out.OX).mono ?_
  rintro ee w11 ⟨rfl, -, hm⟩
  have J := HS4.out
  have T6 := Lib.hid (hm.blk J.OX J.T6 (by decide) (by decide) (by decide))
  have T9 := Lib.hid (hm.blk J.OX J.T9 (by decide) (by decide) (by decide))
  have T10 := Lib.hid (hm.blk J.OX J.T10 (by decide) (by decide) (by decide))
  have B2 := Lib.hid (hm.blk J.OX J.B2 (by decide) (by decide) (by decide))
  have B3 := Lib.hid (hm.blk J.OX J.B3 (by decide) (by decide) (by decide))
  have OW := Lib.hid (hm.rows J.IX J.OW J.IW (.inr (Nat.le_refl _)))
  have OG := Lib.hid (hm.rows J.IX J.OG J.IG (.inl (Nat.le_refl _)))
  have OE := Lib.hid (hm.own J.OX J.OE (by decide) (by decide) (by decide))
  have G := Lib.hid (hm.grow J.G J.OX (Nat.le_refl _))
  have IW := Lib.hid J.IW
  have IG := Lib.hid J.IG
  have IX := Lib.hid J.IX
  have mm := Lib.hid (J.mm)
  clear hm J HS4 p0 p1 p2 p3
  have p0 := cell_of_row w11 _ 0 _ _ _ T9.out
  have p1 := cell_of_row w11 _ 1 _ _ _ T9.out
  have p2 := cell_of_row w11 _ 2 _ _ _ T9.out
  have p3 := cell_of_row w11 _ 3 _ _ _ T9.out
  have p4 := cell_of_row w11 _ 4 _ _ _ T9.out
  have p5 := cell_of_row w11 _ 5 _ _ _ T9.out
  have p6 := cell_of_row w11 _ 6 _ _ _ T9.out
  have p7 := cell_of_row w11 _ 7 _ _ _ T9.out
  go_wp2_with fail
  refine (markStewAct_c a (1 + 13 * b.svcs.length + 7 * b.cps.length + 2 * b.brs.length) (by omega) (by omega) w11 OE.out).mono ?_
  rintro ee w12 ⟨rfl, -, hg⟩
  replace T6 := Lib.hid ((hg.block _ (blk_lt T6.out) (heap_ne OE.out T6.out (by decide))).trans T6.out)
  replace T10 := Lib.hid ((hg.block _ (blk_lt T10.out) (heap_ne OE.out T10.out (by decide))).trans T10.out)
  replace B2 := Lib.hid ((hg.block _ (blk_lt B2.out) (heap_ne OE.out B2.out (by decide))).trans B2.out)
  replace B3 := Lib.hid ((hg.block _ (blk_lt B3.out) (heap_ne OE.out B3.out (by decide))).trans B3.out)
  replace OW := Lib.hid (OW.out.other OE.out hg (by decide) (by decide) (by decide))
  replace OG := Lib.hid (OG.out.other OE.out hg (by decide) (by decide) (by decide))
  replace G := Lib.hid (G.out.grown hg fun q hq => (OE.out.lt q hq).1)
  clear hg OE T9 p0 p1 p2 p3 p4 p5 p6 p7
  have p0 := cell_of_row w12 _ 0 _ _ _ T10.out
  have p1 := cell_of_row w12 _ 1 _ _ _ T10.out
  have p2 := cell_of_row w12 _ 2 _ _ _ T10.out
  have p3 := cell_of_row w12 _ 3 _ _ _ T10.out
  have q0 := cell_of_row w12 _ 0 _ _ _ T6.out
  have q1 := cell_of_row w12 _ 1 _ _ _ T6.out
  have q2 := cell_of_row w12 _ 2 _ _ _ T6.out
  have q3 := cell_of_row w12 _ 3 _ _ _ T6.out
  go_wp2_with fail
  refine (eqStewBook_c r _ OG.out.get.1 OG.out.get.2.1 OG.out.get.2.2 OW.out.get.1 OW.out.get.2.1 OW.out.get.2.2 k1 k2 k3).mono ?_
  rintro ee w13 ⟨rfl, hg⟩
  replace T6 := Lib.hid (blk_grow T6.out hg)
  replace T10 := Lib.hid (blk_grow T10.out hg)
  replace B2 := Lib.hid (blk_grow B2.out hg)
  replace B3 := Lib.hid (blk_grow B3.out hg)
  replace OW := Lib.hid (OW.out.grow hg)
  replace OG := Lib.hid (OG.out.grow hg)
  replace G := Lib.hid (G.out.trans hg)
  clear hg p0 p1 p2 p3 q0 q1 q2 q3
  have p0 := cell_of_row w13 _ 0 _ _ _ T10.out
  have p1 := cell_of_row w13 _ 1 _ _ _ T10.out
  have p2 := cell_of_row w13 _ 2 _ _ _ T10.out
  have p3 := cell_of_row w13 _ 3 _ _ _ T10.out
  go_wp2_with fail
  refine (markStewBook_c r 1 (by omega) (by omega) w13 OG.out).mono ?_
  rintro ee w14 ⟨rfl, ho, hm⟩
  replace T6 := Lib.hid (hm.blk OG.out T6.out (by decide) (by decide) (by decide))
  replace T10 := Lib.hid (hm.blk OG.out T10.out (by decide) (by decide) (by decide))
  replace B2 := Lib.hid (hm.blk OG.out B2.out (by decide) (by decide) (by decide))
  replace B3 := Lib.hid (hm.blk OG.out B3.out (by decide) (by decide) (by decide))
  replace OW := Lib.hid (hm.rows IG.out OW.out IW.out (.inr (by have := mm.out; omega)))
  replace G := Lib.hid (hm.grow G.out OG.out (Nat.le_refl _))
  replace OG := Lib.hid ho
  clear hm ho p0 p1 p2 p3 IX
  have p0 := cell_of_row w14 _ 0 _ _ _ T10.out
  have p1 := cell_of_row w14 _ 1 _ _ _ T10.out
  have p2 := cell_of_row w14 _ 2 _ _ _ T10.out
  have p3 := cell_of_row w14 _ 3 _ _ _ T10.out
  go_wp2_with fail
  refine (heldStewBook_c r.now 1 (by omega) (by omega) k1 k2 k3 _ OG.out.get.1 OG.out.get.2.1 OG.out.get.2.2).mono ?_
  rintro ee w15 ⟨rfl, hg⟩
  replace T6 := Lib.hid (blk_grow T6.out hg)
  replace T10 := Lib.hid (blk_grow T10.out hg)
  replace B2 := Lib.hid (blk_grow B2.out hg)
  replace B3 := Lib.hid (blk_grow B3.out hg)
  replace OW := Lib.hid (OW.out.grow hg)
  replace OG := Lib.hid (OG.out.grow hg)
  replace G := Lib.hid (G.out.trans hg)
  clear hg p0 p1 p2 p3
  go_wp2_with fail
  refine reframe (fun u => fR31 x2 x3 t6 t8 t9 t10 (1 + 13 * r.svcs.length + 7 * r.cps.length + 2 * r.brs.length) z u) (by kernel_rfl) ?_
  intro u
  refine runR31 (w := w) G.out B2 B3 (R1.out w (Grow.refl w)) (R2.out w (Grow.refl w)) (R3.out w (Grow.refl w)) (R4.out w (Grow.refl w)) l1 l2 l3 l4 HR ?_
  intro u V q v1 v2 v3 hg hq hb ho
  obtain ⟨H1, h1, rfl, -, -⟩ := own_rows svcC_len rfl ho.r1
  obtain ⟨H2, h2, rfl, -, -⟩ := own_rows cpyC_len rfl ho.r2
  obtain ⟨H3, h3, rfl, -, -⟩ := own_rows brtC_len rfl ho.r3
  replace T6 := Lib.hid (blk_grow T6.out hg)
  replace T10 := Lib.hid (blk_grow T10.out hg)
  replace OW := Lib.hid (OW.out.grow hg)
  replace OG := Lib.hid (OG.out.grow hg)
  replace G := Lib.hid (G.out.trans hg)
  have OH := Lib.hid (rows_of ho).2
  clear hg ho hq B2 B3
  have p0 := cell_of_row V _ 0 _ _ _ hb.out
  have p1 := cell_of_row V _ 1 _ _ _ hb.out
  have p2 := cell_of_row V _ 2 _ _ _ hb.out
  have p3 := cell_of_row V _ 3 _ _ _ hb.out
  have q0 := cell_of_row V _ 0 _ _ _ T6.out
  have q1 := cell_of_row V _ 1 _ _ _ T6.out
  have q2 := cell_of_row V _ 2 _ _ _ T6.out
  have q3 := cell_of_row V _ 3 _ _ _ T6.out
  unfold fS31
  go_wp2_with fail
  refine (eqStewBook_c r _ OH.out.1 OH.out.2.1 OH.out.2.2 OW.out.get.1 OW.out.get.2.1 OW.out.get.2.2 k1 k2 k3).mono ?_
  rintro ee w16 ⟨rfl, hg⟩
  replace T10 := Lib.hid (blk_grow T10.out hg)
  replace OG := Lib.hid (OG.out.grow hg)
  replace G := Lib.hid (G.out.trans hg)
  clear hg p0 p1 p2 p3 q0 q1 q2 q3 OH OW hb T6
  have p0 := cell_of_row w16 _ 0 _ _ _ T10.out
  have p1 := cell_of_row w16 _ 1 _ _ _ T10.out
  have p2 := cell_of_row w16 _ 2 _ _ _ T10.out
  have p3 := cell_of_row w16 _ 3 _ _ _ T10.out
  go_wp2_with fail
  refine (heldStewBook_c r.now 1 (by omega) (by omega) k1 k2 k3 _ OG.out.get.1 OG.out.get.2.1 OG.out.get.2.2).mono ?_
  rintro ee w17 ⟨rfl, hg⟩
  go_wp2
  go_ret
  exact ⟨rfl, G.out.trans hg⟩
end
noncomputable def la1 : Code := tailOf Try.f11 1
noncomputable def la2 : Code := tailOf Try.f11 2
noncomputable def la3 : Code := tailOf Try.f11 3
noncomputable def la5 : Code := tailOf Try.f11 5
noncomputable def la6 : Code := tailOf Try.f11 6
noncomputable def la10 : Code := tailOf Try.f11 10
noncomputable def la11 : Code := tailOf Try.f11 11
def f9 (x2 x3 t6 t8 : Nat) (z : Int) (u : Nat → Value) : Act := ⟨#[u 0, u 1, .pointer (some ⟨x2, 0, none⟩), .pointer (some ⟨x3, 0, none⟩), u 4, u 5, .pointer (some ⟨t6, 0, none⟩), .int .i64 z, .pointer (some ⟨t8, 0, none⟩), u 9, u 10, u 11, u 12, u 13, u 14, u 15, u 16, u 17, u 18, u 19, u 20, u 21, u 22, u 23, u 24, u 25, u 26, u 27, u 28, u 29, u 30, u 31, u 32, u 33, u 34, u 35, u 36, u 37, u 38, u 39, u 40, u 41, u 42, u 43, u 44, u 45, u 46, u 47, u 48, u 49, u 50, u 51, u 52, u 53, u 54, u 55, u 56, u 57, u 58, u 59, u 60, u 61, u 62, u 63, u 64, u 65, u 66, u 67, u 68, u 69, u 70, u 71, u 72, u 73, u 74, u 75, u 76, u 77, u 78, u 79, u 80, u 81, u 82, u 83, u 84, u 85, u 86, u 87, u 88, u 89, u 90, u 91, u 92, u 93, u 94, u 95, u 96, u 97, u 98, u 99, u 100, u 101, u 102, u 103, u 104, u 105, u 106, u 107, u 108, u 109, u 110, u 111, u 112, u 113, u 114, u 115, u 116, u 117, u 118], []⟩
def f10 (x2 x3 t6 t8 t9 : Nat) (z : Int) (u : Nat → Value) : Act := ⟨#[u 0, u 1, .pointer (some ⟨x2, 0, none⟩), .pointer (some ⟨x3, 0, none⟩), u 4, u 5, .pointer (some ⟨t6, 0, none⟩), .int .i64 z, .pointer (some ⟨t8, 0, none⟩), .pointer (some ⟨t9, 0, none⟩), u 10, u 11, u 12, u 13, u 14, u 15, u 16, u 17, u 18, u 19, u 20, u 21, u 22, u 23, u 24, u 25, u 26, u 27, u 28, u 29, u 30, u 31, u 32, u 33, u 34, u 35, u 36, u 37, u 38, u 39, u 40, u 41, u 42, u 43, u 44, u 45, u 46, u 47, u 48, u 49, u 50, u 51, u 52, u 53, u 54, u 55, u 56, u 57, u 58, u 59, u 60, u 61, u 62, u 63, u 64, u 65, u 66, u 67, u 68, u 69, u 70, u 71, u 72, u 73, u 74, u 75, u 76, u 77, u 78, u 79, u 80, u 81, u 82, u 83, u 84, u 85, u 86, u 87, u 88, u 89, u 90, u 91, u 92, u 93, u 94, u 95, u 96, u 97, u 98, u 99, u 100, u 101, u 102, u 103, u 104, u 105, u 106, u 107, u 108, u 109, u 110, u 111, u 112, u 113, u 114, u 115, u 116, u 117, u 118], []⟩
section
variable {b : Book} {a : SAct} {r : Book} {A1 A2 A3 A : Option Addr} {c1 c2 c3 c : Nat} {W1 W2 W3 : Option Addr} {d1 d2 d3 : Nat} {x2 x3 t6 m0 : Nat} {w U : World} {z : Int} {u : Nat → Value}
theorem laC (h1 : Rows 13 svcC w A1 b.svcs) (h2 : Rows 7 cpyC w A2 b.cps) (h3 : Rows 2 brtC w A3 b.brs) (h4 : Rows 2 endC w A a.ends) (l1 : b.svcs.length ≤ 2000000) (l2 : b.cps.length ≤ 2000000) (l3 : b.brs.length ≤ 2000000) (l4 : a.ends.length ≤ 2000000) (k1 : r.svcs.length ≤ 2000000) (k2 : r.cps.length ≤ 2000000) (k3 : r.brs.length ≤ 2000000) (HR : Hid (applyB b a = (r, z))) (G : Grow w U) (B2 : Hid (U.heap[x2]? = some (.cells #[.int .i64 b.now, .slice A1 b.svcs.length c1, .slice A2 b.cps.length c2, .slice A3 b.brs.length c3] 27 (0, 0)))) (B3 : Hid (U.heap[x3]? = some (.cells #[.string a.service, .int .i64 a.version, .int .i64 a.create, .int .i64 a.want, .int .i64 a.cool, .bool a.scale, .slice A a.ends.length c, .bool a.drop] 71 (0, 0)))) (T6 : Hid (U.heap[t6]? = some (.cells #[.int .i64 r.now, .slice W1 r.svcs.length d1, .slice W2 r.cps.length d2, .slice W3 r.brs.length d3] 34 (0, 0))))
    (OW : Rows3 m0 U (.slice W1 r.svcs.length d1) (.slice W2 r.cps.length d2) (.slice W3 r.brs.length d3) r) (hm : w.heap.size ≤ m0) : la9.wp Try.prog (bodyPost Try.prog Try.f11 fun e w' => e = .returned (.bool true) ∧ Grow w w') (fS8 x2 x3 t6 z u) U := by
  have R1 := Lib.hid (fun (w' : World) (hg : Grow w w') => h1.below hg)
  have R2 := Lib.hid (fun (w' : World) (hg : Grow w w') => h2.below hg)
  have R3 := Lib.hid (fun (w' : World) (hg : Grow w w') => h3.below hg)
  have R4 := Lib.hid (fun (w' : World) (hg : Grow w w') => h4.below hg)
  have IW := Lib.hid OW.lies
  refine wp_seq' (headOf la9) la10 (by kernel_rfl) ?_
  conv => arg 2; whnf
  unfold fS8
  have p0 := cell_of_row U _ 0 _ _ _ B2.out
  have p1 := cell_of_row U _ 1 _ _ _ B2.out
  have p2 := cell_of_row U _ 2 _ _ _ B2.out
  have p3 := cell_of_row U _ 3 _ _ _ B2.out
  have GU := Lib.hid G
  have OU := Lib.hid OW
  clear G OW
  go_wp2_with fail
  refine (toStewBook_c b U (R1.out _ GU.out) (R2.out _ GU.out) (R3.out _ GU.out) l1 l2 l3).mono ?_
  rintro ee w2 ⟨v, rfl, ho, hg2⟩
  obtain ⟨X1, e1, X2, e2, X3, e3, rfl, hx⟩ := three_own ho
  have OX := Lib.hid hx
  have G2 := Lib.hid hg2
  clear ho hx hg2 p0 p1 p2 p3
  go_wp2
  refine rename ?_
  intro V1 hV1
  have GV1 := Lib.hid (show Grow w2 V1 from grow_eq hV1 (by (repeat (first | with_reducible exact Grow.refl _ | with_reducible assumption | with_reducible refine Grow.drew ?_ | with_reducible refine Grow.alloc ?_ _ | (with_reducible refine Grow.set ?_ ?_ _; rotate_left; (first | (dsimp only; omega) | (simp <;> omega)))))))
  have T8 := Lib.hid (show V1.heap[w2.heap.size]? = some (.cells #[.int .i64 b.now, .slice X1 b.svcs.length e1, .slice X2 b.cps.length e2, .slice X3 b.brs.length e3] 34 (0, 0)) from heap_eq hV1 (heap_alloc_new _ _))
  have SV := Lib.hid (show V1.heap.size = w2.heap.size + 1 by rw [hV1.out]; simp)
  clear hV1
  refine reframe (fun u => f9 x2 x3 t6 w2.heap.size z u) (by kernel_rfl) ?_
  intro u
  refine wp_seq' (headOf la10) la11 (by kernel_rfl) ?_
  conv => arg 2; whnf
  unfold f9
  have G3 := Lib.hid (GU.out.trans (G2.out.trans GV1.out))
  have B3 := Lib.hid (blk_grow B3.out (G2.out.trans GV1.out))
  have p0 := cell_of_row V1 _ 0 _ _ _ B3.out
  have p1 := cell_of_row V1 _ 1 _ _ _ B3.out
  have p2 := cell_of_row V1 _ 2 _ _ _ B3.out
  have p3 := cell_of_row V1 _ 3 _ _ _ B3.out
  have p4 := cell_of_row V1 _ 4 _ _ _ B3.out
  have p5 := cell_of_row V1 _ 5 _ _ _ B3.out
  have p6 := cell_of_row V1 _ 6 _ _ _ B3.out
  have p7 := cell_of_row V1 _ 7 _ _ _ B3.out
  go_wp2_with fail
  refine (toStewAct_c a V1 (R4.out _ G3.out) l4).mono ?_
  rintro ee w3 ⟨v, rfl, ⟨v6, rfl, ho⟩, hg3⟩
  obtain ⟨E, e, rfl, -, -⟩ := own_rows endC_len rfl ho
  have OE := Lib.hid (own_base ho G3.out.size)
  have HG3 := Lib.hid hg3
  clear ho hg3 p0 p1 p2 p3 p4 p5 p6 p7
  go_wp2
  refine rename ?_
  intro V2 hV2
  have GV2 := Lib.hid (show Grow w3 V2 from grow_eq hV2 (by (repeat (first | with_reducible exact Grow.refl _ | with_reducible assumption | with_reducible refine Grow.drew ?_ | with_reducible refine Grow.alloc ?_ _ | (with_reducible refine Grow.set ?_ ?_ _; rotate_left; (first | (dsimp only; omega) | (simp <;> omega)))))))
  have T9 := Lib.hid (show V2.heap[w3.heap.size]? = some (.cells #[.string a.service, .int .i64 a.version, .int .i64 a.create, .int .i64 a.want, .int .i64 a.cool, .bool a.scale, .slice E a.ends.length e, .bool a.drop] 77 (0, 0)) from heap_eq hV2 (heap_alloc_new _ _))
  clear hV2
  refine reframe (fun u => f10 x2 x3 t6 w2.heap.size w3.heap.size z u) (by kernel_rfl) ?_
  intro u
  refine wp_seq' (headOf la11) la12 (by kernel_rfl) ?_
  conv => arg 2; whnf
  unfold f10
  have T8 := Lib.hid (blk_grow T8.out (HG3.out.trans GV2.out))
  have O8 := Lib.hid (OX.out.grow (GV1.out.trans (HG3.out.trans GV2.out)))
  have O9 := Lib.hid (own_grow OE.out GV2.out)
  have G4 := Lib.hid (G3.out.trans (HG3.out.trans GV2.out))
  have p0 := cell_of_row V2 _ 0 _ _ _ T8.out
  have p1 := cell_of_row V2 _ 1 _ _ _ T8.out
  have p2 := cell_of_row V2 _ 2 _ _ _ T8.out
  have p3 := cell_of_row V2 _ 3 _ _ _ T8.out
  have q0 := cell_of_row V2 _ 0 _ _ _ T9.out
  have q1 := cell_of_row V2 _ 1 _ _ _ T9.out
  have q2 := cell_of_row V2 _ 2 _ _ _ T9.out
  have q3 := cell_of_row V2 _ 3 _ _ _ T9.out
  have q4 := cell_of_row V2 _ 4 _ _ _ T9.out
  have q5 := cell_of_row V2 _ 5 _ _ _ T9.out
  have q6 := cell_of_row V2 _ 6 _ _ _ T9.out
  have q7 := cell_of_row V2 _ 7 _ _ _ T9.out
  go_wp2_with fail
  refine (implApply_c b a V2 O8.out.get.1 O8.out.get.2.1 O8.out.get.2.2 (own_ends O9.out) l1 l2 l3 l4).mono ?_
  rintro ee w4 ⟨v, rfl, ho, hg4⟩
  rw [HR.out] at ho ⊢
  obtain ⟨G1, g1, G2', g2, G3', g3, rfl, hx⟩ := three_own ho
  have OG := Lib.hid hx
  have HG4 := Lib.hid hg4
  clear ho hx hg4 p0 p1 p2 p3 q0 q1 q2 q3 q4 q5 q6 q7
  go_wp2
  refine rename ?_
  intro V3 hV3
  have GV3 := Lib.hid (show Grow w4 V3 from grow_eq hV3 (by (repeat (first | with_reducible exact Grow.refl _ | with_reducible assumption | with_reducible refine Grow.drew ?_ | with_reducible refine Grow.alloc ?_ _ | (with_reducible refine Grow.set ?_ ?_ _; rotate_left; (first | (dsimp only; omega) | (simp <;> omega)))))))
  have T10 := Lib.hid (show V3.heap[w4.heap.size]? = some (.cells #[.int .i64 r.now, .slice G1 r.svcs.length g1, .slice G2' r.cps.length g2, .slice G3' r.brs.length g3] 34 (0, 0)) from heap_eq hV3 (heap_alloc_new _ _))
  clear hV3
  refine reframe (fun u => fL x2 x3 t6 w2.heap.size w3.heap.size w4.heap.size z u) (by kernel_rfl) ?_
  intro u
  have GA := HG4.out.trans GV3.out
  have GB := HG3.out.trans (GV2.out.trans GA)
  have GC := G2.out.trans (GV1.out.trans GB)
  have s1 := GU.out.size
  have s2 := G2.out.size
  have s3 := (GV1.out.trans (HG3.out.trans GV2.out)).size
  have s4 := HG4.out.size
  refine laB (b := b) (a := a) (r := r) (W1 := W1) (W2 := W2) (W3 := W3) (d1 := d1) (d2 := d2) (d3 := d3) (A := A) (c := c) (m0 := m0) (m1 := U.heap.size) (m2 := w2.heap.size) (m3 := w4.heap.size) ⟨GU.out.trans GC, blk_grow B2.out GC, blk_grow B3.out GB, blk_grow T6.out GC, blk_grow T8.out GA, blk_grow T9.out GA, T10.out, rows_base (OU.out.grow GC) hm, rows_base (O8.out.grow GA) s1, own_grow O9.out GA, rows_base (OG.out.grow GV3.out) (by omega), IW.out, OX.out.lies, fun k hk => ?_, s2⟩ h1 h2 h3 h4 l1 l2 l3 l4 k1 k2 k3 HR
  have := OG.out.lies k hk
  omega
theorem laD (h1 : Rows 13 svcC w A1 b.svcs) (h2 : Rows 7 cpyC w A2 b.cps) (h3 : Rows 2 brtC w A3 b.brs) (h4 : Rows 2 endC w A a.ends) (l1 : b.svcs.length ≤ 2000000) (l2 : b.cps.length ≤ 2000000) (l3 : b.brs.length ≤ 2000000) (l4 : a.ends.length ≤ 2000000) (k1 : r.svcs.length ≤ 2000000) (k2 : r.cps.length ≤ 2000000) (k3 : r.brs.length ≤ 2000000) (HR : Hid (applyB b a = (r, z))) (G : Grow w U) (B2 : Hid (U.heap[x2]? = some (.cells #[.int .i64 b.now, .slice A1 b.svcs.length c1, .slice A2 b.cps.length c2, .slice A3 b.brs.length c3] 27 (0, 0)))) (B3 : Hid (U.heap[x3]? = some (.cells #[.string a.service, .int .i64 a.version, .int .i64 a.create, .int .i64 a.want, .int .i64 a.cool, .bool a.scale, .slice A a.ends.length c, .bool a.drop] 71 (0, 0)))) : la8.wp Try.prog (bodyPost Try.prog Try.f11 fun e w' => e = .returned (.bool true) ∧ Grow w w') (fR8 x2 x3 u) U := by
  refine wp_seq' (headOf la8) la9 (by kernel_rfl) ?_
  refine runR8 (w := w) G B2 B3 h1 h2 h3 h4 l1 l2 l3 l4 HR ?_
  intro u V q v1 v2 v3 hg hq hb ho
  obtain ⟨H1, h1', rfl, -, -⟩ := own_rows svcC_len rfl ho.r1
  obtain ⟨H2, h2', rfl, -, -⟩ := own_rows cpyC_len rfl ho.r2
  obtain ⟨H3, h3', rfl, -, -⟩ := own_rows brtC_len rfl ho.r3
  exact laC h1 h2 h3 h4 l1 l2 l3 l4 k1 k2 k3 HR (G.trans hg) (blk_grow B2.out hg) (blk_grow B3.out hg) hb ho G.size
end
theorem szAct_ends {a : SAct} {l : Int} (h : 0 ≤ szAct a l) : (a.ends.length : Int) ≤ l := by
  unfold szAct at h
  split at h
  · omega
  · unfold szEnds at h
    split at h <;> omega
theorem applyB_sized {b : Book} {a : SAct} : (applyB b a).1.svcs.length ≤ 2000000 ∧ (applyB b a).1.cps.length ≤ 2000000 ∧ (applyB b a).1.brs.length ≤ 2000000 := by
  cases hv : valid b with
  | false => rw [applyB_no hv]; simp [book0]
  | true => rw [applyB_yes hv]; exact actV_sized (fit_of_valid hv)
theorem fnExactStewApply_c (b : Book) (a : SAct) {A1 A2 A3 A : Option Addr} {c1 c2 c3 c : Nat} (w : World) (h1 : Rows 13 svcC w A1 b.svcs) (h2 : Rows 7 cpyC w A2 b.cps) (h3 : Rows 2 brtC w A3 b.brs) (h4 : Rows 2 endC w A a.ends)
    (l1 : b.svcs.length ≤ 9223372036854775807) (l2 : b.cps.length ≤ 9223372036854775807) (l3 : b.brs.length ≤ 9223372036854775807) (l4 : a.ends.length ≤ 9223372036854775807) (ls : (a.service.size : Int) ≤ 9223372036854775807) (s1 : SmallSvc b.svcs) (s2 : SmallCpy b.cps) (s3 : SmallBrt b.brs) :
    Calls Try.prog 11 #[.agg #[.int .i64 b.now, .slice A1 b.svcs.length c1, .slice A2 b.cps.length c2, .slice A3 b.brs.length c3], .agg #[.string a.service, .int .i64 a.version, .int .i64 a.create, .int .i64 a.want, .int .i64 a.cool, .bool a.scale, .slice A a.ends.length c, .bool a.drop]] w fun e w' => e = .returned (.bool true) ∧ Grow w w' := by
  have R1 := Lib.hid (fun (w' : World) (hg : Grow w w') => h1.below hg)
  have R2 := Lib.hid (fun (w' : World) (hg : Grow w w') => h2.below hg)
  have R3 := Lib.hid (fun (w' : World) (hg : Grow w w') => h3.below hg)
  have S1 := Lib.hid s1
  have S2 := Lib.hid s2
  have S3 := Lib.hid s3
  clear s1 s2 s3
  obtain ⟨z1, z2, z3⟩ := szBook_le b 1048576 (by omega)
  have GH := Lib.hid (show Grow w ((w.alloc (.cells #[.int .i64 b.now, .slice A1 b.svcs.length c1, .slice A2 b.cps.length c2, .slice A3 b.brs.length c3] 27)).alloc (.cells #[.string a.service, .int .i64 a.version, .int .i64 a.create, .int .i64 a.want, .int .i64 a.cool, .bool a.scale, .slice A a.ends.length c, .bool a.drop] 71)) from ((Grow.refl _).alloc _).alloc _)
  go_enter Try.func11, Try.ntmps11
  refine wp_seq' (headOf ((Try.f11.body).getD .skip)) la1 (by kernel_rfl) ?_
  conv => arg 2; whnf
  go_wp2
  refine rename ?_
  intro W hW
  have G := Lib.hid (show Grow w W from grow_eq hW (by (repeat (first | with_reducible exact Grow.refl _ | with_reducible assumption | with_reducible refine Grow.drew ?_ | with_reducible refine Grow.alloc ?_ _ | (with_reducible refine Grow.set ?_ ?_ _; rotate_left; (first | (dsimp only; omega) | (simp <;> omega)))))))
  have B2 := Lib.hid (show W.heap[w.heap.size]? = some (.cells #[.int .i64 b.now, .slice A1 b.svcs.length c1, .slice A2 b.cps.length c2, .slice A3 b.brs.length c3] 27 (0, 0)) from heap_eq hW (heap_alloc2 w _ _))
  have B3 := Lib.hid (show W.heap[(w.heap.size + 1)]? = some (.cells #[.string a.service, .int .i64 a.version, .int .i64 a.create, .int .i64 a.want, .int .i64 a.cool, .bool a.scale, .slice A a.ends.length c, .bool a.drop] 71 (0, 0)) from heap_eq hW (heap_alloc2_new w _ _))
  clear hW GH
  refine wp_seq' (headOf la1) la2 (by kernel_rfl) ?_
  conv => arg 2; whnf
  go_wp2
  refine wp_seq' (headOf la2) la3 (by kernel_rfl) ?_
  conv => arg 2; whnf
  have p0 := cell_of_row W _ 0 _ _ _ B2.out
  have p1 := cell_of_row W _ 1 _ _ _ B2.out
  have p2 := cell_of_row W _ 2 _ _ _ B2.out
  have p3 := cell_of_row W _ 3 _ _ _ B2.out
  go_wp2_with fail
  refine (szStewBook_c b 1048576 (by omega) (by omega) W (R1.out _ G.out) (R2.out _ G.out) (R3.out _ G.out) l1 l2 l3 S1.out S2.out S3.out).mono ?_
  rintro ee w1 ⟨rfl, hg1⟩
  have G1 := Lib.hid (G.out.trans hg1)
  have Y2 := Lib.hid (blk_grow B2.out hg1)
  have Y3 := Lib.hid (blk_grow B3.out hg1)
  clear hg1 B2 B3 p0 p1 p2 p3 G
  go_wp2
  refine wp_seq' (headOf la3) la5 (by kernel_rfl) ?_
  conv => arg 2; whnf
  by_cases hz : szBook b 1048576 < 0
  · go_wp2
    go_ret
    exact ⟨rfl, G1.out⟩
  go_wp2
  refine wp_seq' (headOf la5) la6 (by kernel_rfl) ?_
  conv => arg 2; whnf
  have p0 := cell_of_row w1 _ 0 _ _ _ Y3.out
  have p1 := cell_of_row w1 _ 1 _ _ _ Y3.out
  have p2 := cell_of_row w1 _ 2 _ _ _ Y3.out
  have p3 := cell_of_row w1 _ 3 _ _ _ Y3.out
  have p4 := cell_of_row w1 _ 4 _ _ _ Y3.out
  have p5 := cell_of_row w1 _ 5 _ _ _ Y3.out
  have p6 := cell_of_row w1 _ 6 _ _ _ Y3.out
  have p7 := cell_of_row w1 _ 7 _ _ _ Y3.out
  go_wp2_with fail
  refine (szStewAct_c a (szBook b 1048576) (by omega) (by omega) ls l4 w1).mono ?_
  rintro ee w2 ⟨rfl, hg2⟩
  have G2 := Lib.hid (G1.out.trans hg2)
  have Y2 := Lib.hid (blk_grow Y2.out hg2)
  have Y3 := Lib.hid (blk_grow Y3.out hg2)
  clear hg2 G1 p0 p1 p2 p3 p4 p5 p6 p7
  go_wp2
  refine wp_seq' (headOf la6) la8 (by kernel_rfl) ?_
  conv => arg 2; whnf
  by_cases hz2 : szAct a (szBook b 1048576) < 0
  · go_wp2
    go_ret
    exact ⟨rfl, G2.out⟩
  go_wp2
  obtain ⟨m1, m2, m3⟩ := z3 (by omega)
  have m4 := szAct_ends (show 0 ≤ szAct a (szBook b 1048576) by omega)
  obtain ⟨r, z, hr⟩ : ∃ r z, applyB b a = (r, z) := ⟨_, _, rfl⟩
  have hs := applyB_sized (b := b) (a := a)
  rw [hr] at hs
  refine reframe (fun u => fR8 w.heap.size (w.heap.size + 1) u) (by kernel_rfl) ?_
  intro u
  exact laD h1 h2 h3 h4 (by omega) (by omega) (by omega) (by omega) hs.1 hs.2.1 hs.2.2 hr G2.out Y2 Y3

end Go.Proofs.Ytnmknkdbeccmhaa
