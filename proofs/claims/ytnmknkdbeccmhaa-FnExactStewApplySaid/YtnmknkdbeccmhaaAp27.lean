/- A book of the call's own whose rows come back from a callee that may have made them anew: laid into its box. The walk of the program's act from region 29 on: what stands in the way of an act; the act done. The walk of the program's act from region 40 on: the act done. The same rule as T5's for a region in whatever order, over a base world older than the region's own, with what is known of the memory at hand told apart. -/
import Derived.Test.YtnmknkdbeccmhaaAp25
import Derived.Test.YtnmknkdbeccmhaaAp26
import Derived.Test.YtnmknkdbeccmhaaAp22
namespace Go.Proofs.Ytnmknkdbeccmhaa
open Go.RowKit
set_option linter.unusedSimpArgs false
set_option linter.unusedVariables false
section
variable {base g : Nat} {U V : World} {v1 v2 v3 v' : Value} {b : Book}
theorem Mine.kept (M : Mine base g U v1 v2 v3 b) {r : Option Nat} (hg : U.grownBy V r) (h0 : some g ≠ r) : V.heap[g]? = some (.cells #[.int .i64 b.now, v1, v2, v3] 34 (0, 0)) := (hg.block g (blk_lt M.box) h0).trans M.box
theorem Mine.row1 {svcs : List Svc} (M : Mine base g U v1 v2 v3 b) (hg : U.grownBy V v1.ownBlock) (ho : V.ownsRow base 83 13 v' svcs.length (svcs.flatMap svcC)) : Mine base g (V.setCell ⟨g, 1, none⟩ v') v' v2 v3 { b with svcs := svcs } := by
  have h0 := heap_ne M.rows.r1 M.box (by decide)
  have K : Keep g V (V.setCell ⟨g, 1, none⟩ v') := Keep.set (Keep.refl g V) rfl _
  have hx := M.kept hg h0
  refine ⟨?_, M.low, ⟨ho.kept K (.inr fun e => ?_), (M.rows.r2.kept hg (own_ne M.rows.r1 M.rows.r2 (by decide))).kept K (.inr fun e => ?_), (M.rows.r3.kept hg (own_ne M.rows.r1 M.rows.r3 (by decide))).kept K (.inr fun e => ?_)⟩⟩
  · exact blk_set hx 1 v'
  · exact heap_ne ho hx (by decide) e.symm
  · exact heap_ne M.rows.r2 M.box (by decide) e.symm
  · exact heap_ne M.rows.r3 M.box (by decide) e.symm
theorem Mine.row2 {cps : List Cpy} (M : Mine base g U v1 v2 v3 b) (hg : U.grownBy V v2.ownBlock) (ho : V.ownsRow base 65 7 v' cps.length (cps.flatMap cpyC)) : Mine base g (V.setCell ⟨g, 2, none⟩ v') v1 v' v3 { b with cps := cps } := by
  have h0 := heap_ne M.rows.r2 M.box (by decide)
  have K : Keep g V (V.setCell ⟨g, 2, none⟩ v') := Keep.set (Keep.refl g V) rfl _
  have hx := M.kept hg h0
  refine ⟨?_, M.low, ⟨(M.rows.r1.kept hg (own_ne M.rows.r2 M.rows.r1 (by decide))).kept K (.inr fun e => ?_), ho.kept K (.inr fun e => ?_), (M.rows.r3.kept hg (own_ne M.rows.r2 M.rows.r3 (by decide))).kept K (.inr fun e => ?_)⟩⟩
  · exact blk_set hx 2 v'
  · exact heap_ne M.rows.r1 M.box (by decide) e.symm
  · exact heap_ne ho hx (by decide) e.symm
  · exact heap_ne M.rows.r3 M.box (by decide) e.symm
theorem Mine.row3 {brs : List Brt} (M : Mine base g U v1 v2 v3 b) (hg : U.grownBy V v3.ownBlock) (ho : V.ownsRow base 104 2 v' brs.length (brs.flatMap brtC)) : Mine base g (V.setCell ⟨g, 3, none⟩ v') v1 v2 v' { b with brs := brs } := by
  have h0 := heap_ne M.rows.r3 M.box (by decide)
  have K : Keep g V (V.setCell ⟨g, 3, none⟩ v') := Keep.set (Keep.refl g V) rfl _
  have hx := M.kept hg h0
  refine ⟨?_, M.low, ⟨(M.rows.r1.kept hg (own_ne M.rows.r3 M.rows.r1 (by decide))).kept K (.inr fun e => ?_), (M.rows.r2.kept hg (own_ne M.rows.r3 M.rows.r2 (by decide))).kept K (.inr fun e => ?_), ho.kept K (.inr fun e => ?_)⟩⟩
  · exact blk_set hx 3 v'
  · exact heap_ne M.rows.r1 M.box (by decide) e.symm
  · exact heap_ne M.rows.r2 M.box (by decide) e.symm
  · exact heap_ne ho hx (by decide) e.symm
theorem Mine.now {t : Int} (M : Mine base g U v1 v2 v3 b) : Mine base g (U.setCell ⟨g, 0, none⟩ (.int .i64 t)) v1 v2 v3 { b with now := t } := M.setBox (i := 0) rfl ⟨M.rows.r1, M.rows.r2, M.rows.r3⟩
/-- Nothing below the row's base has been touched. -/
theorem Mine.grown1 {w1 : World} (M : Mine base g U v1 v2 v3 b) (hb : w1.heap.size ≤ base) (hw : Grow w1 U) (hg : U.grownBy V v1.ownBlock) : Grow w1 V := Grow.grown hw hg fun k hk => Nat.le_trans hb (M.rows.r1.lt k hk).1
theorem Mine.grown2 {w1 : World} (M : Mine base g U v1 v2 v3 b) (hb : w1.heap.size ≤ base) (hw : Grow w1 U) (hg : U.grownBy V v2.ownBlock) : Grow w1 V := Grow.grown hw hg fun k hk => Nat.le_trans hb (M.rows.r2.lt k hk).1
theorem Mine.grown3 {w1 : World} (M : Mine base g U v1 v2 v3 b) (hb : w1.heap.size ≤ base) (hw : Grow w1 U) (hg : U.grownBy V v3.ownBlock) : Grow w1 V := Grow.grown hw hg fun k hk => Nat.le_trans hb (M.rows.r3.lt k hk).1
end
end Go.Proofs.Ytnmknkdbeccmhaa
namespace Go.Proofs.Ytnmknkdbeccmhaa
open Go.RowKit
set_option linter.unusedSimpArgs false
set_option linter.unusedVariables false
set_option maxRecDepth 1000000
set_option maxHeartbeats 2000000
def fC (g ga g1 i : Nat) (x13 x14 : Value) (u : Nat → Value) : Act := ⟨#[.pointer (some ⟨g, 0, none⟩), u 1, u 2, .pointer (some ⟨ga, 0, none⟩), u 4, .pointer (some ⟨g1, i * 13, none⟩), u 6, u 7, u 8, u 9, u 10, u 11, u 12, x13, x14, u 15, u 16, u 17, u 18, u 19, u 20, u 21, u 22, u 23, u 24, u 25, u 26, u 27, u 28, u 29, u 30, u 31, u 32, u 33, u 34, u 35, u 36, u 37, u 38, u 39, u 40, u 41, u 42, u 43, u 44, u 45, u 46, u 47, u 48, u 49, u 50, u 51, u 52, u 53, u 54, u 55, u 56, u 57, u 58, u 59, u 60, u 61, u 62, u 63, u 64, u 65, u 66, u 67, u 68, u 69, u 70, u 71, u 72, u 73, u 74, u 75, u 76, u 77, u 78, u 79, u 80, u 81, u 82, u 83, u 84, u 85, u 86, u 87, u 88, u 89, u 90, u 91, u 92, u 93, u 94, u 95, u 96, u 97, u 98, u 99, u 100, u 101, u 102, u 103, u 104, u 105, u 106, u 107, u 108, u 109, u 110, u 111, u 112, u 113, u 114, u 115, u 116, u 117, u 118, u 119, u 120, u 121, u 122, u 123, u 124, u 125, u 126, u 127, u 128, u 129, u 130, u 131, u 132, u 133, u 134, u 135, u 136, u 137, u 138, u 139, u 140, u 141, u 142, u 143, u 144, u 145, u 146, u 147, u 148, u 149, u 150, u 151, u 152, u 153, u 154, u 155, u 156, u 157, u 158, u 159, u 160, u 161, u 162, u 163, u 164, u 165, u 166, u 167, u 168, u 169, u 170, u 171, u 172, u 173, u 174, u 175, u 176, u 177, u 178, u 179, u 180, u 181, u 182, u 183, u 184, u 185, u 186, u 187, u 188, u 189, u 190, u 191, u 192, u 193, u 194, u 195, u 196, u 197, u 198, u 199, u 200, u 201, u 202, u 203, u 204, u 205, u 206, u 207, u 208, u 209, u 210, u 211, u 212, u 213, u 214, u 215, u 216, u 217, u 218, u 219, u 220, u 221, u 222, u 223, u 224, u 225, u 226, u 227, u 228, u 229, u 230, u 231, u 232, u 233, u 234, u 235, u 236, u 237, u 238, u 239, u 240, u 241, u 242, u 243, u 244, u 245, u 246, u 247, u 248, u 249, u 250, u 251, u 252, u 253, u 254, u 255, u 256, u 257, u 258, u 259, u 260, u 261, u 262, u 263, u 264, u 265, u 266, u 267, u 268, u 269, u 270, u 271, u 272, u 273, u 274, u 275, u 276, u 277, u 278, u 279, u 280, u 281, u 282, u 283, u 284, u 285, u 286, u 287, u 288], []⟩
noncomputable def ac30 : Code := restOf ac29
noncomputable def ac32 : Code := restOf ac30
noncomputable def ac36 : Code := restOf ac32
noncomputable def ac38 : Code := restOf ac36
noncomputable def ac40 : Code := restOf ac38
noncomputable def ac41 : Code := restOf ac40
noncomputable def ac42 : Code := restOf ac41
noncomputable def ac43 : Code := restOf ac42
noncomputable def ac45 : Code := restOf ac43
noncomputable def ac51 : Code := restOf ac45
noncomputable def ac53 : Code := restOf ac51
section
variable {b cur : Book} {cps : List Cpy} {a : SAct} {s : Svc} {ct : Cnt} {i : Nat} {Ae A2 A3 : Option Addr} {ce e1 e2 e3 g g1 ga gn base : Nat} {w1 U V : World} {x13 x14 : Value} {u : Nat → Value}
theorem AcSt.put1 {c c' : Svc} {r : Nat} {v : Value} (S : AcSt a Ae (some ⟨g1, 0, none⟩) A2 A3 ce e1 e2 e3 g ga base w1 cur U) (hc : cur.svcs[i]? = some c) (hr : r < 13) (hc' : svcC c' = (svcC c).set r v) : AcSt a Ae (some ⟨g1, 0, none⟩) A2 A3 ce e1 e2 e3 g ga base w1 { cur with svcs := cur.svcs.set i c' } (U.setCell ⟨g1, i * 13 + r, none⟩ v) := by
  obtain ⟨M1, K1⟩ := S.M.put1 hc hr hc'
  have hne : g1 ≠ ga := fun e => S.k1 (by simp [Value.ownBlock, e])
  refine ⟨S.M.grown1 S.hb S.G K1, S.hb, S.oa, S.ng, S.k1, S.k2, S.k3, Keep.blk K1 S.X (Ne.symm hne), ?_, S.R4⟩
  show Mine base g _ (.slice _ (cur.svcs.set i c').length e1) _ _ _
  rw [List.length_set]
  exact M1
theorem AcSt.setNow {t : Int} (S : AcSt a Ae (some ⟨g1, 0, none⟩) A2 A3 ce e1 e2 e3 g ga base w1 cur U) : AcSt a Ae (some ⟨g1, 0, none⟩) A2 A3 ce e1 e2 e3 g ga base w1 { cur with now := t } (U.setCell ⟨g, 0, none⟩ (.int .i64 t)) := by
  have K : Keep g U (U.setCell ⟨g, 0, none⟩ (.int .i64 t)) := Keep.set (Keep.refl g U) rfl _
  have h1 := S.hb
  have h2 := S.M.low
  exact ⟨Keep.grow K S.G (by omega), S.hb, S.oa, S.ng, S.k1, S.k2, S.k3, Keep.blk K S.X S.ng, S.M.now, S.R4⟩
theorem AcSt.svc (S : AcSt a Ae (some ⟨g1, 0, none⟩) A2 A3 ce e1 e2 e3 g ga base w1 cur U) {c : Svc} (hc : cur.svcs[i]? = some c) : U.cell? ⟨g1, i * 13, none⟩ = some (.string c.name) ∧ U.cell? ⟨g1, i * 13 + 1, none⟩ = some (.int .i64 c.version) ∧ U.cell? ⟨g1, i * 13 + 2, none⟩ = some (.bool c.gone) ∧ U.cell? ⟨g1, i * 13 + 3, none⟩ = some (.int .i64 c.image) ∧
    U.cell? ⟨g1, i * 13 + 4, none⟩ = some (.int .i64 c.want) ∧ U.cell? ⟨g1, i * 13 + 6, none⟩ = some (.int .i64 c.over) ∧ U.cell? ⟨g1, i * 13 + 7, none⟩ = some (.int .i64 c.next) ∧ U.cell? ⟨g1, i * 13 + 8, none⟩ = some (.int .i64 c.per) ∧ U.cell? ⟨g1, i * 13 + 9, none⟩ = some (.int .i64 c.least) ∧ U.cell? ⟨g1, i * 13 + 10, none⟩ = some (.int .i64 c.most) ∧ U.cell? ⟨g1, i * 13 + 12, none⟩ = some (.int .i64 c.cool) := by
  obtain ⟨bq, oq, hqq, -, s0, s1, s2, s3, s4, s5, s6, s7, s8, s9, s10, s11, s12⟩ := svc_at S.rows.1 hc
  simp only [Option.some.injEq, Addr.mk.injEq] at hqq
  obtain ⟨rfl, rfl, -⟩ := hqq
  simp only [Nat.zero_add] at s0 s1 s2 s3 s4 s5 s6 s7 s8 s9 s10 s11 s12
  exact ⟨s0, s1, s2, s3, s4, s6, s7, s8, s9, s10, s12⟩
theorem AcSt.free (S : AcSt a Ae (some ⟨g1, 0, none⟩) A2 A3 ce e1 e2 e3 g ga base w1 cur U) (hi : i < cur.svcs.length) (k : Nat) : U.frozen? ⟨g1, k, none⟩ = false := by
  obtain ⟨g2, e, -, -, hf⟩ := own_head (xs := cur.svcs) S.M.rows.r1 (by intro e; rw [e] at hi; simp at hi)
  simp only [Option.some.injEq, Addr.mk.injEq] at e
  obtain ⟨rfl, -, -⟩ := e
  exact hf U (Grow.refl _) k
theorem acT29 (S : AcSt a Ae (some ⟨g1, 0, none⟩) A2 A3 ce e1 e2 e3 g ga base w1 ⟨b.now, b.svcs, cps, b.brs⟩ U) (hs : Hid (b.svcs[i]? = some s)) (lc : cps.length ≤ 2000000) (hct : Hid (cntOf cps s.name s.image = ct))
    (next : ∀ gn u V, w1.heap.size ≤ gn ∧ gn ≠ g1 → AcSt a Ae (some ⟨g1, 0, none⟩) A2 A3 ce e1 e2 e3 g ga base w1 ⟨b.now, b.svcs, cps, b.brs⟩ V → Hid (V.heap[gn]? = some (.cells #[.int .i64 ct.live, .int .i64 ct.serving, .int .i64 ct.old, .int .i64 ct.failed, .int .i64 ct.ending] 50 (0, 0))) → ac30.wp Try.prog (bodyPost Try.prog Try.f102 (Acted b a g base w1)) (fC g ga g1 i (.pointer (some ⟨gn, 0, none⟩)) (u 14) u) V) :
    ac29.wp Try.prog (bodyPost Try.prog Try.f102 (Acted b a g base w1)) (fB g ga (.pointer (some ⟨g1, i * 13, none⟩)) u) U := by
  have NX := Lib.hid next
  clear next
  refine wp_seq' (headOf ac29) ac30 (by kernel_rfl) ?_
  conv => arg 2; whnf
  unfold fB
  obtain ⟨s0, -, -, s3, -⟩ := S.svc hs.out
  go_wp2_with (go_at_call 80; refine (count_v ⟨b.now, b.svcs, cps, b.brs⟩ s.name s.image _ ct S.blk S.rows.2.1 lc s0 s3 hct.out).mono ?_; rintro e w3 ⟨rfl, hg3⟩; have HG3 := Lib.hid hg3; clear hg3)
  refine rename ?_
  intro V hV
  have G := Lib.hid (show Grow U V from grow_eq hV (by (repeat (first | with_reducible exact Grow.refl _ | with_reducible assumption | with_reducible refine Grow.drew ?_ | with_reducible refine Grow.alloc ?_ _ | (with_reducible refine Grow.set ?_ ?_ _; rotate_left; (first | (dsimp only; omega) | (simp <;> omega))) | refine Grow.trans ?_ HG3.out))))
  have XC := Lib.hid (heap_eq hV (heap_alloc_new _ _))
  clear hV
  refine reframe (fun u => fC g ga g1 i (.pointer (some ⟨w3.heap.size, 0, none⟩)) (u 14) u) (by kernel_rfl) ?_
  intro u
  have SV := S.grow G.out
  have l1 := S.G.size
  have l2 := HG3.out.size
  exact NX.out _ _ _ ⟨by omega, fun e => heap_ne SV.M.rows.r1 XC.out (by decide) (by rw [e]; rfl)⟩ SV XC

theorem acT30 (S : AcSt a Ae (some ⟨g1, 0, none⟩) A2 A3 ce e1 e2 e3 g ga base w1 ⟨b.now, b.svcs, cps, b.brs⟩ U) (hs : Hid (b.svcs[i]? = some s)) (XC : Hid (U.heap[gn]? = some (.cells #[.int .i64 ct.live, .int .i64 ct.serving, .int .i64 ct.old, .int .i64 ct.failed, .int .i64 ct.ending] 50 (0, 0)))) (hbd : 0 ≤ ct.live ∧ ct.live ≤ 200 ∧ 0 ≤ ct.ending ∧ ct.ending ≤ 200)
    (HR : Hid ((a.drop && (!s.gone || decide (0 < ct.live + ct.ending))) = true → actV b a = (b, 6)))
    (next : Hid ((a.drop && (!s.gone || decide (0 < ct.live + ct.ending))) = false) → ∀ u V, AcSt a Ae (some ⟨g1, 0, none⟩) A2 A3 ce e1 e2 e3 g ga base w1 ⟨b.now, b.svcs, cps, b.brs⟩ V → Hid (V.heap[gn]? = some (.cells #[.int .i64 ct.live, .int .i64 ct.serving, .int .i64 ct.old, .int .i64 ct.failed, .int .i64 ct.ending] 50 (0, 0))) → ac32.wp Try.prog (bodyPost Try.prog Try.f102 (Acted b a g base w1)) (fC g ga g1 i (.pointer (some ⟨gn, 0, none⟩)) x14 u) V) :
    ac30.wp Try.prog (bodyPost Try.prog Try.f102 (Acted b a g base w1)) (fC g ga g1 i (.pointer (some ⟨gn, 0, none⟩)) x14 u) U := by
  have NX := Lib.hid next
  clear next
  refine wp_seq' (headOf ac30) ac32 (by kernel_rfl) ?_
  conv => arg 2; whnf
  unfold fC
  obtain ⟨-, -, s2, -⟩ := S.svc hs.out
  obtain ⟨-, -, -, -, -, -, -, a7⟩ := S.cells
  have c0 := cell_of_row U _ 0 _ _ _ XC.out
  have c4 := cell_of_row U _ 4 _ _ _ XC.out
  rcases hd : a.drop
  · rw [hd] at a7
    have HD := Lib.hid (show (a.drop && (!s.gone || decide (0 < ct.live + ct.ending))) = false by rw [hd]; rfl)
    clear hd
    go_wp2
    refine reframe (fun u => fC g ga g1 i (.pointer (some ⟨gn, 0, none⟩)) x14 u) (by kernel_rfl) ?_
    intro u
    exact NX.out HD _ _ S XC
  · rw [hd] at a7
    rcases hg : s.gone
    · rw [hg] at s2
      have HR := Lib.hid (HR.out (by rw [hd, hg]; rfl))
      clear hd hg
      go_wp2
      go_ret
      exact Acted.refused HR (by decide) S.G
    · rw [hg] at s2
      by_cases hl : 0 < ct.live + ct.ending
      · have HR := Lib.hid (HR.out (by rw [hd, hg]; simp [hl]))
        clear hd hg
        go_wp2
        go_ret
        exact Acted.refused HR (by decide) S.G
      · have HD := Lib.hid (show (a.drop && (!s.gone || decide (0 < ct.live + ct.ending))) = false by rw [hd, hg]; simp [hl])
        clear hd hg
        go_wp2
        refine reframe (fun u => fC g ga g1 i (.pointer (some ⟨gn, 0, none⟩)) x14 u) (by kernel_rfl) ?_
        intro u
        exact NX.out HD _ _ S XC
theorem acT38 (S : AcSt a Ae (some ⟨g1, 0, none⟩) A2 A3 ce e1 e2 e3 g ga base w1 ⟨b.now, b.svcs.set i (scaled a s), cps, b.brs⟩ U) (hs : Hid (b.svcs[i]? = some s)) (XC : Hid (U.heap[gn]? = some (.cells #[.int .i64 ct.live, .int .i64 ct.serving, .int .i64 ct.old, .int .i64 ct.failed, .int .i64 ct.ending] 50 (0, 0)))) (hfc : 0 ≤ a.create ∧ a.create ≤ 20) (hcl : cps.length ≤ 200) (hnw : 0 ≤ b.now ∧ b.now ≤ 1000000) (hx : 1 ≤ s.next ∧ s.next ≤ 1000000)
    (HR : Hid ((decide (200 < (cps.length : Int) + a.create) || (decide (1000000 < s.next + a.create) || decide (1000000 ≤ b.now))) = true → actV b a = (b, 7)))
    (next : Hid ((decide (200 < (cps.length : Int) + a.create) || (decide (1000000 < s.next + a.create) || decide (1000000 ≤ b.now))) = false) → ∀ u V, AcSt a Ae (some ⟨g1, 0, none⟩) A2 A3 ce e1 e2 e3 g ga base w1 ⟨b.now, b.svcs.set i (scaled a s), cps, b.brs⟩ V → ac40.wp Try.prog (bodyPost Try.prog Try.f102 (Acted b a g base w1)) (fC g ga g1 i x13 x14 u) V) :
    ac38.wp Try.prog (bodyPost Try.prog Try.f102 (Acted b a g base w1)) (fC g ga g1 i x13 x14 u) U := by
  have NX := Lib.hid next
  clear next
  refine wp_seq' (headOf ac38) ac40 (by kernel_rfl) ?_
  conv => arg 2; whnf
  unfold fC
  have hil : i < b.svcs.length := (List.getElem?_eq_some_iff.1 hs.out).1
  have hsx : (scaled a s).next = s.next := by unfold scaled; split <;> rfl
  obtain ⟨-, -, -, -, -, -, s7, -⟩ := S.svc (i := i) (c := scaled a s) (by simp [hil])
  rw [hsx] at s7
  obtain ⟨-, -, a2, -⟩ := S.cells
  obtain ⟨x0, x1, x2, x3⟩ := box4 S.M.box
  have a2 := cell_p a2
  have s7 := cell_p s7
  have x0 := cell_p x0
  have x2 := cell_p x2
  have t1 : IntKind.i64.wrap ((cps.length : Int) + a.create) = (cps.length : Int) + a.create := IntWalk.i64_in _ (by omega)
  have t2 : IntKind.i64.wrap (s.next + a.create) = s.next + a.create := IntWalk.i64_in _ (by omega)
  go_upto_region 38 with fail
  refine at_plus ?_
  by_cases h1 : 200 < (cps.length : Int) + a.create
  · have HR := Lib.hid (HR.out (by simp [h1]))
    refine region_quiet ⟨_, rfl⟩ (by kernel_rfl) (by kernel_rfl) ?_
    repeat (first | go_big_quiet_step (fail) | quiet_step (fail))
    refine wpQuiet_nil ?_
    rintro w2 ⟨y, rfl⟩
    go_wp2
    go_ret
    exact Acted.refused HR (by decide) (S.G.trans (Grow.wplus _ _))
  · have h1' : decide (200 < (cps.length : Int) + a.create) = false := by simpa using h1
    by_cases h2 : 1000000 < s.next + a.create
    · have HR := Lib.hid (HR.out (by simp [h2]))
      refine region_quiet ⟨_, rfl⟩ (by kernel_rfl) (by kernel_rfl) ?_
      repeat (first | go_big_quiet_step (fail) | quiet_step (fail))
      refine wpQuiet_nil ?_
      rintro w2 ⟨y, rfl⟩
      go_wp2
      go_ret
      exact Acted.refused HR (by decide) (S.G.trans (Grow.wplus _ _))
    · have h2' : decide (1000000 < s.next + a.create) = false := by simpa using h2
      by_cases h3 : b.now = 1000000
      · have HR := Lib.hid (HR.out (by simp [h3]))
        have h3' : (b.now == 1000000) = true := by simp [h3]
        have H3 := Lib.hid h3
        clear h3
        refine region_quiet ⟨_, rfl⟩ (by kernel_rfl) (by kernel_rfl) ?_
        repeat (first | go_big_quiet_step (fail) | quiet_step (fail))
        refine wpQuiet_nil ?_
        rintro w2 ⟨y, rfl⟩
        go_wp2
        go_ret
        exact Acted.refused HR (by decide) (S.G.trans (Grow.wplus _ _))
      · have h3' : (b.now == 1000000) = false := by simpa using h3
        have HD := Lib.hid (show (decide (200 < (cps.length : Int) + a.create) || (decide (1000000 < s.next + a.create) || decide (1000000 ≤ b.now))) = false by rw [h1', h2']; simp; omega)
        refine region_quiet ⟨_, rfl⟩ (by kernel_rfl) (by kernel_rfl) ?_
        repeat (first | go_big_quiet_step (fail) | quiet_step (fail))
        refine wpQuiet_nil ?_
        rintro w2 ⟨y, rfl⟩
        go_wp2
        refine reframe (fun u => fC g ga g1 i x13 x14 u) (by kernel_rfl) ?_
        intro u
        exact NX.out HD _ _ (S.grow (Grow.wplus _ _))

theorem acT36 (S : AcSt a Ae (some ⟨g1, 0, none⟩) A2 A3 ce e1 e2 e3 g ga base w1 ⟨b.now, b.svcs.set i (scaled a s), cps, b.brs⟩ U) (hs : Hid (b.svcs[i]? = some s)) (XC : Hid (U.heap[gn]? = some (.cells #[.int .i64 ct.live, .int .i64 ct.serving, .int .i64 ct.old, .int .i64 ct.failed, .int .i64 ct.ending] 50 (0, 0)))) (hfc : 0 ≤ a.create ∧ a.create ≤ 20) (hbd : 0 ≤ ct.live ∧ ct.live ≤ 200) (hw : 0 ≤ (scaled a s).want ∧ (scaled a s).want ≤ 10) (ho : 0 ≤ s.over ∧ s.over ≤ 10)
    (HR : Hid ((decide (0 < a.create) && (s.gone || decide ((scaled a s).want + s.over < ct.live + a.create))) = true → actV b a = (b, 6)))
    (next : Hid ((decide (0 < a.create) && (s.gone || decide ((scaled a s).want + s.over < ct.live + a.create))) = false) → ∀ u V, AcSt a Ae (some ⟨g1, 0, none⟩) A2 A3 ce e1 e2 e3 g ga base w1 ⟨b.now, b.svcs.set i (scaled a s), cps, b.brs⟩ V → Hid (V.heap[gn]? = some (.cells #[.int .i64 ct.live, .int .i64 ct.serving, .int .i64 ct.old, .int .i64 ct.failed, .int .i64 ct.ending] 50 (0, 0))) → ac38.wp Try.prog (bodyPost Try.prog Try.f102 (Acted b a g base w1)) (fC g ga g1 i (.pointer (some ⟨gn, 0, none⟩)) x14 u) V) :
    ac36.wp Try.prog (bodyPost Try.prog Try.f102 (Acted b a g base w1)) (fC g ga g1 i (.pointer (some ⟨gn, 0, none⟩)) x14 u) U := by
  have NX := Lib.hid next
  clear next
  refine wp_seq' (headOf ac36) ac38 (by kernel_rfl) ?_
  conv => arg 2; whnf
  unfold fC
  have hil : i < b.svcs.length := (List.getElem?_eq_some_iff.1 hs.out).1
  have hso : (scaled a s).over = s.over := by unfold scaled; split <;> rfl
  have hsg : (scaled a s).gone = s.gone := by unfold scaled; split <;> rfl
  obtain ⟨-, -, s2, -, s4, s6, -⟩ := S.svc (i := i) (c := scaled a s) (by simp [hil])
  rw [hso] at s6
  rw [hsg] at s2
  have HSG := Lib.hid hsg
  clear hsg
  obtain ⟨-, -, a2, -⟩ := S.cells
  have c0 := fun y => blk_p XC.out 0 y
  have a2 := cell_p a2
  have s4 := cell_p s4
  have s6 := cell_p s6
  have s2 := cell_p s2
  have t1 : IntKind.i64.wrap (ct.live + a.create) = ct.live + a.create := IntWalk.i64_in _ (by omega)
  have t2 : IntKind.i64.wrap ((scaled a s).want + s.over) = (scaled a s).want + s.over := IntWalk.i64_in _ (by omega)
  go_upto_region 36 with fail
  refine at_plus ?_
  by_cases h0 : 0 < a.create
  · rcases hg : s.gone
    · rw [hg] at s2
      by_cases h5 : (scaled a s).want + s.over < ct.live + a.create
      · have HR := Lib.hid (HR.out (by simp [h0, h5]))
        refine region_quiet ⟨_, rfl⟩ (by kernel_rfl) (by kernel_rfl) ?_
        repeat (first | go_big_quiet_step (fail) | quiet_step (fail))
        refine wpQuiet_nil ?_
        rintro w2 ⟨y, rfl⟩
        go_wp2
        go_ret
        exact Acted.refused HR (by decide) (S.G.trans (Grow.wplus _ _))
      · have HD := Lib.hid (show (decide (0 < a.create) && (s.gone || decide ((scaled a s).want + s.over < ct.live + a.create))) = false by rw [hg]; simp [h5])
        refine region_quiet ⟨_, rfl⟩ (by kernel_rfl) (by kernel_rfl) ?_
        repeat (first | go_big_quiet_step (fail) | quiet_step (fail))
        refine wpQuiet_nil ?_
        rintro w2 ⟨y, rfl⟩
        go_wp2
        refine reframe (fun u => fC g ga g1 i (.pointer (some ⟨gn, 0, none⟩)) x14 u) (by kernel_rfl) ?_
        intro u
        exact NX.out HD _ _ (S.grow (Grow.wplus _ _)) (Lib.hid (blk_grow XC.out (Grow.wplus _ _)))
    · rw [hg] at s2
      have HR := Lib.hid (HR.out (by rw [hg]; simp [h0]))
      refine region_quiet ⟨_, rfl⟩ (by kernel_rfl) (by kernel_rfl) ?_
      repeat (first | go_big_quiet_step (fail) | quiet_step (fail))
      refine wpQuiet_nil ?_
      rintro w2 ⟨y, rfl⟩
      go_wp2
      go_ret
      exact Acted.refused HR (by decide) (S.G.trans (Grow.wplus _ _))
  · have h1 : decide (0 < a.create) = false := by simpa using h0
    have HD := Lib.hid (show (decide (0 < a.create) && (s.gone || decide ((scaled a s).want + s.over < ct.live + a.create))) = false by rw [h1]; rfl)
    refine region_quiet ⟨_, rfl⟩ (by kernel_rfl) (by kernel_rfl) ?_
    repeat (first | go_big_quiet_step (fail) | quiet_step (fail))
    refine wpQuiet_nil ?_
    rintro w2 ⟨y, rfl⟩
    go_wp2
    refine reframe (fun u => fC g ga g1 i (.pointer (some ⟨gn, 0, none⟩)) x14 u) (by kernel_rfl) ?_
    intro u
    exact NX.out HD _ _ (S.grow (Grow.wplus _ _)) (Lib.hid (blk_grow XC.out (Grow.wplus _ _)))

theorem within_r (n lo hi : Int) (r : Bool) (w : World) (h : inB lo n hi = r) : Calls Try.prog 68 #[.int .i64 n, .int .i64 lo, .int .i64 hi] w fun e w' => e = .returned (.bool r) ∧ w = w' := by
  subst h; exact within_c n lo hi w
theorem acT32 (S : AcSt a Ae (some ⟨g1, 0, none⟩) A2 A3 ce e1 e2 e3 g ga base w1 ⟨b.now, b.svcs, cps, b.brs⟩ U) (hs : Hid (b.svcs[i]? = some s)) (XC : Hid (U.heap[gn]? = some (.cells #[.int .i64 ct.live, .int .i64 ct.serving, .int .i64 ct.old, .int .i64 ct.failed, .int .i64 ct.ending] 50 (0, 0))))
    (HR : Hid ((a.scale && (decide (s.per = 0) || !inB s.least a.want s.most)) = true → actV b a = (b, 6)))
    (next : Hid ((a.scale && (decide (s.per = 0) || !inB s.least a.want s.most)) = false) → ∀ u V, AcSt a Ae (some ⟨g1, 0, none⟩) A2 A3 ce e1 e2 e3 g ga base w1 ⟨b.now, b.svcs.set i (scaled a s), cps, b.brs⟩ V → Hid (V.heap[gn]? = some (.cells #[.int .i64 ct.live, .int .i64 ct.serving, .int .i64 ct.old, .int .i64 ct.failed, .int .i64 ct.ending] 50 (0, 0))) → ac36.wp Try.prog (bodyPost Try.prog Try.f102 (Acted b a g base w1)) (fC g ga g1 i (.pointer (some ⟨gn, 0, none⟩)) x14 u) V) (hgn : w1.heap.size ≤ gn ∧ gn ≠ g1) :
    ac32.wp Try.prog (bodyPost Try.prog Try.f102 (Acted b a g base w1)) (fC g ga g1 i (.pointer (some ⟨gn, 0, none⟩)) x14 u) U := by
  have NX := Lib.hid next
  clear next
  have hil : i < b.svcs.length := (List.getElem?_eq_some_iff.1 hs.out).1
  refine wp_seq' (headOf ac32) ac36 (by kernel_rfl) ?_
  conv => arg 2; whnf
  unfold fC
  obtain ⟨-, -, -, -, -, a5, -⟩ := S.cells
  rcases hsc : a.scale
  · rw [hsc] at a5
    have HD := Lib.hid (show (a.scale && (decide (s.per = 0) || !inB s.least a.want s.most)) = false by rw [hsc]; rfl)
    have hss : scaled a s = s := by unfold scaled; rw [hsc]; rfl
    have S2 : AcSt a Ae (some ⟨g1, 0, none⟩) A2 A3 ce e1 e2 e3 g ga base w1 ⟨b.now, b.svcs.set i (scaled a s), cps, b.brs⟩ U := by
      rw [hss, show b.svcs.set i s = b.svcs from by
        obtain ⟨h, e⟩ := List.getElem?_eq_some_iff.1 hs.out
        rw [← e]; exact List.set_getElem_self h]
      exact S
    clear hsc hss
    go_wp2
    refine reframe (fun u => fC g ga g1 i (.pointer (some ⟨gn, 0, none⟩)) x14 u) (by kernel_rfl) ?_
    intro u
    exact NX.out HD _ _ S2 XC
  · rw [hsc] at a5
    obtain ⟨-, -, -, -, -, -, -, s8, s9, s10, -⟩ := S.svc hs.out
    obtain ⟨-, -, -, a3, -⟩ := S.cells
    go_upto_region 33 with fail
    clear a5
    have s8 := cell_p s8
    have s9 := cell_p s9
    have s10 := cell_p s10
    have a3 := cell_p a3
    refine at_plus ?_
    by_cases hp : s.per = 0
    · have HR := Lib.hid (HR.out (by rw [hsc]; simp [hp]))
      have hp2 : (s.per == 0) = true := by simp [hp]
      clear hp hsc
      refine region_quiet ⟨_, rfl⟩ (by kernel_rfl) (by kernel_rfl) ?_
      repeat (first | go_big_quiet_step (fail) | quiet_step (fail))
      refine wpQuiet_nil ?_
      rintro w2 ⟨y, rfl⟩
      go_wp2
      go_ret
      exact Acted.refused HR (by decide) (S.G.trans (Grow.wplus _ _))
    · have hp2 : (s.per == 0) = false := by simpa using hp
      rcases hin : inB s.least a.want s.most
      · have HR := Lib.hid (HR.out (by rw [hsc, hin]; simp))
        have HI := Lib.hid hin
        clear hp hsc hin
        refine region_quiet ⟨_, rfl⟩ (by kernel_rfl) (by kernel_rfl) ?_
        repeat (first | go_big_quiet_step ((go_at_call 68; exact quiet_same (within_r _ _ _ _ _ HI.out))) | quiet_step (fail))
        refine wpQuiet_nil ?_
        rintro w2 ⟨y, rfl⟩
        go_wp2
        go_ret
        exact Acted.refused HR (by decide) (S.G.trans (Grow.wplus _ _))
      · have HD := Lib.hid (show (a.scale && (decide (s.per = 0) || !inB s.least a.want s.most)) = false by rw [hin]; simp [hp])
        have HI := Lib.hid hin
        have HSC := Lib.hid hsc
        clear hp hsc hin
        refine region_quiet ⟨_, rfl⟩ (by kernel_rfl) (by kernel_rfl) ?_
        repeat (first | go_big_quiet_step ((go_at_call 68; exact quiet_same (within_r _ _ _ _ _ HI.out))) | quiet_step (fail))
        refine wpQuiet_nil ?_
        rintro w2 ⟨y, rfl⟩
        go_upto_region 35 with fail
        refine rename ?_
        intro V hV
        have G := Lib.hid (show Grow U V from grow_eq hV (Grow.wplus _ _))
        have S2 := S.grow G.out
        have XC2 := Lib.hid (blk_grow XC.out G.out)
        clear hV s8 s9 s10 a3
        obtain ⟨-, -, -, -, s4, -, -, -, -, -, s12⟩ := S2.svc hs.out
        obtain ⟨-, -, -, a3, a4, -⟩ := S2.cells
        have hfr := S2.free hil
        have d1 : ¬ ga = g1 := fun e => S2.k1 (by simp [Value.ownBlock, e])
        have d2 : ¬ g1 = ga := fun e => d1 e.symm
        have f4 := hfr (i * 13 + 4)
        have f12 := hfr (i * 13 + 12)
        clear hfr
        go_region_held3 (fun w' => w'.cell? ⟨ga, 3, none⟩ = some (.int .i64 a.want) ∧ w'.cell? ⟨ga, 4, none⟩ = some (.int .i64 a.cool)) (go_keep) (fail)
        have P1 := S2.put1 (r := 4) (v := .int .i64 a.want) (c' := { s with want := a.want }) hs.out (by decide) rfl
        have P2 := P1.put1 (i := i) (r := 12) (v := .int .i64 a.cool) (c := { s with want := a.want }) (c' := scaled a s) (by simp [hil]) (by decide) (by unfold scaled; rw [HSC.out]; rfl)
        have P3 := P2.grow (V := ((V.setCell ⟨g1, i * 13 + 4, none⟩ (.int .i64 a.want)).setCell ⟨g1, i * 13 + 12, none⟩ (.int .i64 a.cool)).drew) (Grow.drew (Grow.refl _))
        have XC3 := blk_far (p := ⟨g1, i * 13 + 12, none⟩) (blk_far (p := ⟨g1, i * 13 + 4, none⟩) XC2.out hgn.2 (.int .i64 a.want)) hgn.2 (.int .i64 a.cool)
        simp only [List.set_set] at P3
        show ac36.wp Try.prog _ _ _
        refine reframe (fun u => fC g ga g1 i (.pointer (some ⟨gn, 0, none⟩)) x14 u) (by kernel_rfl) ?_
        intro u
        exact NX.out HD _ _ P3 (Lib.hid XC3)

end
end Go.Proofs.Ytnmknkdbeccmhaa
namespace Go.Proofs.Ytnmknkdbeccmhaa
open Go.RowKit
set_option linter.unusedSimpArgs false
set_option linter.unusedVariables false
set_option maxRecDepth 1000000
set_option maxHeartbeats 2000000
noncomputable def acl6b : Code := (loop1 (headOf ac43)).getD .skip
noncomputable def acl8b : Code := (loop1 (headOf ac45)).getD .skip
section
variable {b cur : Book} {cps : List Cpy} {a : SAct} {s : Svc} {ct : Cnt} {i : Nat} {Ae A2 A3 : Option Addr} {ce e1 e2 e3 g g1 ga gn base : Nat} {w1 U V : World} {x13 x14 : Value} {u : Nat → Value}
theorem acT40 (S : AcSt a Ae (some ⟨g1, 0, none⟩) A2 A3 ce e1 e2 e3 g ga base w1 ⟨b.now, b.svcs.set i (scaled a s), cps, b.brs⟩ U) (hil : i < b.svcs.length) (hnw : 0 ≤ b.now ∧ b.now < 1000000)
    (next : ∀ u V, AcSt a Ae (some ⟨g1, 0, none⟩) A2 A3 ce e1 e2 e3 g ga base w1 ⟨b.now + 1, b.svcs.set i { scaled a s with version := b.now + 1 }, cps, b.brs⟩ V → ac43.wp Try.prog (bodyPost Try.prog Try.f102 (Acted b a g base w1)) (fC g ga g1 i x13 (.int .i64 (0 : Nat)) u) V) :
    ac40.wp Try.prog (bodyPost Try.prog Try.f102 (Acted b a g base w1)) (fC g ga g1 i x13 x14 u) U := by
  have NX := Lib.hid next
  clear next
  refine wp_seq' (headOf ac40) ac41 (by kernel_rfl) ?_
  conv => arg 2; whnf
  unfold fC
  obtain ⟨x0, x1, x2, x3⟩ := box4 S.M.box
  have f0 := frozen_of_row U _ 0 _ _ S.M.box
  go_wp2
  refine rename ?_
  intro V hV
  have S2 : Hid (AcSt a Ae (some ⟨g1, 0, none⟩) A2 A3 ce e1 e2 e3 g ga base w1 ⟨b.now + 1, b.svcs.set i (scaled a s), cps, b.brs⟩ V) := Lib.hid (by rw [hV.out]; exact S.setNow)
  clear hV x0 x1 x2 x3 f0
  refine reframe (fun u => fC g ga g1 i x13 x14 u) (by kernel_rfl) ?_
  intro u
  refine wp_seq' (headOf ac41) ac42 (by kernel_rfl) ?_
  conv => arg 2; whnf
  unfold fC
  obtain ⟨x0, x1, x2, x3⟩ := box4 S2.out.M.box
  obtain ⟨-, s1, -⟩ := S2.out.svc (i := i) (c := scaled a s) (by simp [hil])
  have f1 := S2.out.free (by simpa using hil) (i * 13 + 1)
  go_wp2
  refine rename ?_
  intro V2 hV2
  have P1 := S2.out.put1 (i := i) (r := 1) (v := .int .i64 (b.now + 1)) (c := scaled a s) (c' := { scaled a s with version := b.now + 1 }) (by simp [hil]) (by decide) rfl
  simp only [List.set_set] at P1
  have S3 : Hid (AcSt a Ae (some ⟨g1, 0, none⟩) A2 A3 ce e1 e2 e3 g ga base w1 ⟨b.now + 1, b.svcs.set i { scaled a s with version := b.now + 1 }, cps, b.brs⟩ V2) := Lib.hid (by rw [hV2.out]; exact P1)
  clear hV2 P1 x0 x1 x2 x3 s1 f1 S2
  refine reframe (fun u => fC g ga g1 i x13 x14 u) (by kernel_rfl) ?_
  intro u
  refine wp_seq' (headOf ac42) ac43 (by kernel_rfl) ?_
  conv => arg 2; whnf
  unfold fC
  go_wp2
  refine reframe (fun u => fC g ga g1 i x13 (.int .i64 (0 : Nat)) u) (by kernel_rfl) ?_
  intro u
  exact NX.out _ _ S3.out

theorem bl_or (x y : ByteArray) : (Op.bytesLess x.toList y.toList || x.toList == y.toList) = !ltN y x := by
  unfold ltN
  rw [bl_tri x.toList y.toList, Bool.not_not]
theorem acT43 {sv : Svc} {p : Nat} (hpp : Hid (p = place s.name cps)) (S : AcSt a Ae (some ⟨g1, 0, none⟩) A2 A3 ce e1 e2 e3 g ga base w1 ⟨b.now + 1, b.svcs.set i sv, cps, b.brs⟩ U) (hil : i < b.svcs.length) (hsn : Hid (sv.name = s.name)) (hcl : cps.length ≤ 200)
    (next : ∀ u V, AcSt a Ae (some ⟨g1, 0, none⟩) A2 A3 ce e1 e2 e3 g ga base w1 ⟨b.now + 1, b.svcs.set i sv, cps, b.brs⟩ V → ac45.wp Try.prog (bodyPost Try.prog Try.f102 (Acted b a g base w1)) (fC g ga g1 i x13 (.int .i64 (p : Nat)) u) V) :
    ac43.wp Try.prog (bodyPost Try.prog Try.f102 (Acted b a g base w1)) (fC g ga g1 i x13 (.int .i64 (0 : Nat)) u) U := by
  have NX := Lib.hid next
  clear next
  refine wp_seq' (headOf ac43) ac45 (by kernel_rfl) ?_
  refine wp_block' 6 (.loop acl6b) (by kernel_rfl) ?_
  refine wp_loopN (fun k u => fC g ga g1 i x13 (.int .i64 (k : Nat)) u) (fun _ V => Grow U V) p (fun a => (intOf (a.tmps.getD 14 undef)).toNat) (fun _ _ => rfl) 0 u rfl (Nat.zero_le _) (Grow.refl _) ?_
  intro j u V hj hV
  have S' := S.grow hV
  have hp : p ≤ cps.length := by rw [hpp.out]; exact place_le s.name cps
  have b0 := fun y => blk_p S'.M.box 2 y
  obtain ⟨s0, -⟩ := S'.svc (i := i) (c := sv) (by simp [hil])
  rw [hsn.out] at s0
  have s0 := cell_p s0
  have z1 : (0 : Int) ≤ (j : Nat) := by omega
  have HGV := Lib.hid hV
  clear hV
  conv => arg 2; whnf
  unfold fC
  by_cases hlt : j < p
  · obtain ⟨x, hx, ha⟩ := tw_lt (p := fun c : Cpy => !ltN s.name c.service) (xs := cps) (j := j) (by rw [hpp.out] at hlt; exact hlt)
    obtain ⟨bb, o, rfl, hbb, f0, -⟩ := cpy_p S'.rows.2.1 hx
    have z2 : ((j : Nat) : Int) < (cps.length : Nat) := by omega
    have z3 : j < cps.length := by omega
    have ha2 : (Op.bytesLess x.service.toList s.name.toList || x.service.toList == s.name.toList) = true := by rw [bl_or]; exact ha
    clear hx ha
    go_upto_region 43 with fail
    refine at_plus ?_
    refine region_quiet ⟨_, rfl⟩ (by kernel_rfl) (by kernel_rfl) ?_
    repeat (first | go_big_quiet_step (fail) | quiet_step (fail))
    refine wpQuiet_nil ?_
    rintro w2 ⟨y, rfl⟩
    go_wp2
    exact again (j + 1) (by kernel_rfl) (by omega) (by omega) (HGV.out.trans (Grow.wplus _ _))
  · obtain rfl : j = p := by omega
    by_cases hl2 : j < cps.length
    · obtain ⟨x, hx, ha⟩ := tw_at (p := fun c : Cpy => !ltN s.name c.service) (xs := cps) (by rw [hpp.out] at hl2; exact hl2)
      rw [show (cps.takeWhile fun c : Cpy => !ltN s.name c.service).length = j from hpp.out.symm] at hx
      obtain ⟨bb, o, rfl, hbb, f0, -⟩ := cpy_p S'.rows.2.1 hx
      have z2 : ((j : Nat) : Int) < (cps.length : Nat) := by omega
      have z3 : j < cps.length := by omega
      have ha2 : (Op.bytesLess x.service.toList s.name.toList || x.service.toList == s.name.toList) = false := by rw [bl_or]; exact ha
      clear hx ha
      go_upto_region 43 with fail
      refine at_plus ?_
      refine region_quiet ⟨_, rfl⟩ (by kernel_rfl) (by kernel_rfl) ?_
      repeat (first | go_big_quiet_step (fail) | quiet_step (fail))
      refine wpQuiet_nil ?_
      rintro w2 ⟨y, rfl⟩
      go_wp2
      show ac45.wp Try.prog _ _ _
      refine reframe (fun u => fC g ga g1 i x13 (.int .i64 (j : Nat)) u) (by kernel_rfl) ?_
      intro u
      exact NX.out _ _ (S'.grow (Grow.wplus _ _))
    · have z3 : decide (j < cps.length) = false := by simp; omega
      go_upto_region 43 with fail
      refine at_plus ?_
      refine region_quiet ⟨_, rfl⟩ (by kernel_rfl) (by kernel_rfl) ?_
      repeat (first | go_big_quiet_step (fail) | quiet_step (fail))
      refine wpQuiet_nil ?_
      rintro w2 ⟨y, rfl⟩
      go_wp2
      show ac45.wp Try.prog _ _ _
      refine reframe (fun u => fC g ga g1 i x13 (.int .i64 (j : Nat)) u) (by kernel_rfl) ?_
      intro u
      exact NX.out _ _ (S'.grow (Grow.wplus _ _))

def fD (g ga g1 i p : Nat) (cr : Int) (x13 : Value) (k : Nat) (u : Nat → Value) : Act := ⟨#[.pointer (some ⟨g, 0, none⟩), u 1, u 2, .pointer (some ⟨ga, 0, none⟩), u 4, .pointer (some ⟨g1, i * 13, none⟩), u 6, u 7, u 8, u 9, u 10, u 11, u 12, x13, .int .i64 (p + k : Nat), u 15, u 16, u 17, u 18, u 19, u 20, u 21, u 22, u 23, u 24, u 25, u 26, u 27, u 28, u 29, u 30, u 31, u 32, u 33, u 34, u 35, u 36, u 37, u 38, u 39, u 40, u 41, u 42, u 43, u 44, u 45, u 46, u 47, u 48, u 49, u 50, u 51, u 52, u 53, u 54, u 55, u 56, u 57, u 58, u 59, u 60, u 61, u 62, u 63, u 64, u 65, u 66, u 67, u 68, u 69, u 70, u 71, u 72, u 73, u 74, u 75, u 76, u 77, u 78, u 79, u 80, u 81, u 82, u 83, u 84, u 85, u 86, u 87, u 88, u 89, u 90, u 91, u 92, u 93, u 94, u 95, u 96, u 97, u 98, u 99, u 100, u 101, u 102, u 103, u 104, u 105, u 106, u 107, u 108, u 109, u 110, u 111, u 112, u 113, u 114, u 115, u 116, u 117, u 118, u 119, u 120, u 121, u 122, u 123, u 124, u 125, u 126, u 127, u 128, u 129, u 130, u 131, u 132, u 133, u 134, u 135, u 136, u 137, u 138, u 139, u 140, u 141, u 142, u 143, u 144, u 145, u 146, u 147, u 148, u 149, u 150, u 151, u 152, u 153, u 154, u 155, u 156, u 157, u 158, u 159, u 160, u 161, u 162, u 163, u 164, u 165, u 166, u 167, u 168, u 169, u 170, u 171, u 172, u 173, u 174, u 175, u 176, u 177, u 178, u 179, u 180, u 181, u 182, u 183, u 184, u 185, u 186, u 187, u 188, u 189, u 190, u 191, u 192, u 193, u 194, u 195, u 196, u 197, u 198, u 199, u 200, u 201, u 202, u 203, u 204, u 205, u 206, u 207, u 208, u 209, u 210, u 211, u 212, u 213, u 214, u 215, u 216, u 217, u 218, u 219, u 220, u 221, u 222, u 223, u 224, u 225, u 226, u 227, u 228, u 229, u 230, u 231, u 232, u 233, u 234, u 235, u 236, u 237, .int .i64 cr, .int .i64 (k : Nat), u 240, u 241, u 242, u 243, u 244, u 245, u 246, u 247, u 248, u 249, u 250, u 251, u 252, u 253, u 254, u 255, u 256, u 257, u 258, u 259, u 260, u 261, u 262, u 263, u 264, u 265, u 266, u 267, u 268, u 269, u 270, u 271, u 272, u 273, u 274, u 275, u 276, u 277, u 278, u 279, u 280, u 281, u 282, u 283, u 284, u 285, u 286, u 287, u 288], []⟩
theorem insCpy_c (xs : List Cpy) (x : Cpy) {A : Option Addr} {N c base h k : Nat} {kz : Int} (w : World) (hkz : kz = (k : Nat)) (hN : N = xs.length) (hb : base ≤ w.heap.size) (own : w.ownsRow base 65 7 (.slice A N c) xs.length (xs.flatMap cpyC)) (hl : xs.length ≤ 1000000) (hk : k ≤ xs.length) (hx : BlkIs w h 65 (cpyC x)) (hne : (Value.slice A N c).ownBlock ≠ some h) :
    Calls Try.prog 136 #[.slice A N c, .int .i64 kz, .slice (some ⟨h, 0, none⟩) 1 1] w (RowBack base 65 7 cpyC (putIn k [x] xs) w (Value.slice A N c).ownBlock) := by
  subst hkz hN; exact InsertCpy_c xs x _ w hb own hl hk hx hne
theorem AcSt.after {c : Svc} {w4 : World} (S : AcSt a Ae (some ⟨g1, 0, none⟩) A2 A3 ce e1 e2 e3 g ga base w1 cur U) (hg : U.grownBy w4 (Value.slice A2 cur.cps.length e2).ownBlock) (hc : cur.svcs[i]? = some c) : w4.cell? ⟨g, 0, none⟩ = some (.int .i64 cur.now) ∧ w4.cell? ⟨g, 2, none⟩ = some (.slice A2 cur.cps.length e2) ∧ w4.frozen? ⟨g, 2, none⟩ = false ∧
    w4.cell? ⟨g1, i * 13, none⟩ = some (.string c.name) ∧ w4.cell? ⟨g1, i * 13 + 3, none⟩ = some (.int .i64 c.image) ∧ w4.cell? ⟨g1, i * 13 + 7, none⟩ = some (.int .i64 c.next) := by
  have hbx := S.M.kept hg (heap_ne S.M.rows.r2 S.M.box (by decide))
  have h1 := S.M.rows.r1.kept hg (own_ne S.M.rows.r2 S.M.rows.r1 (by decide))
  obtain ⟨A', c', e', -, hr⟩ := own_rows svcC_len rfl h1
  cases e'
  obtain ⟨bq, oq, hqq, -, s0, -, -, s3, -, -, -, s7, -⟩ := svc_at hr hc
  simp only [Option.some.injEq, Addr.mk.injEq] at hqq
  obtain ⟨rfl, rfl, -⟩ := hqq
  simp only [Nat.zero_add] at s0 s3 s7
  exact ⟨cell_of_row _ _ 0 _ _ _ hbx, cell_of_row _ _ 2 _ _ _ hbx, frozen_of_row _ _ 2 _ _ hbx, s0, s3, s7⟩
theorem AcSt.copies {cps' : List Cpy} {v : Value} (S : AcSt a Ae (some ⟨g1, 0, none⟩) A2 A3 ce e1 e2 e3 g ga base w1 cur U) (hg : U.grownBy V (Value.slice A2 cur.cps.length e2).ownBlock) (ho : V.ownsRow base 65 7 v cps'.length (cps'.flatMap cpyC)) (hv : v.ownBlock = (Value.slice A2 cur.cps.length e2).ownBlock ∨ ∀ k, v.ownBlock = some k → U.heap.size ≤ k) :
    ∃ A2' e2', v = .slice A2' cps'.length e2' ∧ AcSt a Ae (some ⟨g1, 0, none⟩) A2' A3 ce e1 e2' e3 g ga base w1 { cur with cps := cps' } (V.setCell ⟨g, 2, none⟩ v) := by
  obtain ⟨B', c', rfl, -, -⟩ := own_rows cpyC_len rfl ho
  have M' := S.M.row2 hg ho
  have h1 := S.hb
  have h2 := S.M.low
  have K : Keep g V (V.setCell ⟨g, 2, none⟩ (.slice B' cps'.length c')) := Keep.set (Keep.refl g V) rfl _
  have hga := blk_lt S.X
  refine ⟨B', c', rfl, Keep.grow K (S.M.grown2 S.hb S.G hg) (by omega), S.hb, S.oa, S.ng, S.k1, fun e => ?_, S.k3, Keep.blk K ((hg.block ga hga (Ne.symm S.k2)).trans S.X) S.ng, M', S.R4⟩
  rcases hv with h | h
  · exact S.k2 (h ▸ e)
  · have := h ga e
    omega

end
end Go.Proofs.Ytnmknkdbeccmhaa
namespace Go.Proofs.Ytnmknkdbeccmhaa
open Go.RowKit
set_option linter.unusedSimpArgs false
set_option linter.unusedVariables false
/-- The last one waits for all others, itself or by one that it waits for. -/
def lastC (l : List Oper) (n : Nat) : Bool := match l[n]? with
  | none => false
  | some o => (List.range n).all fun j => o.after.any fun e => Region.binds .any e && (e.on == j || (decide (e.on < n) && (match l[e.on]? with | none => false | some o2 => o2.after.any fun e2 => Region.binds .any e2 && e2.on == j)))
theorem lastC_spec {l : List Oper} {n : Nat} {o : Oper} (h : lastC l n = true) (ho : l[n]? = some o) : ∀ j, j < n → ∃ e ∈ o.after, Region.binds .any e = true ∧ (e.on = j ∨ (e.on < n ∧ ∃ o2, l[e.on]? = some o2 ∧ ∃ e2 ∈ o2.after, Region.binds .any e2 = true ∧ e2.on = j)) := by
  intro j hj
  unfold lastC at h
  rw [ho] at h
  obtain ⟨e, he, h2⟩ := Array.any_eq_true'.1 (List.all_eq_true.1 h j (List.mem_range.2 hj))
  simp only [Bool.and_eq_true, Bool.or_eq_true, beq_iff_eq, decide_eq_true_eq] at h2
  refine ⟨e, he, h2.1, h2.2.imp id fun ⟨h3, h4⟩ => ⟨h3, ?_⟩⟩
  rcases hq : l[e.on]? with _ | o2
  · rw [hq] at h4; cases h4
  · rw [hq] at h4
    obtain ⟨e2, he2, h5⟩ := Array.any_eq_true'.1 h4
    simp only [Bool.and_eq_true, beq_iff_eq] at h5
    exact ⟨o2, rfl, e2, he2, h5.1, h5.2⟩
theorem getD_set_mono {d : Array Bool} {i k : Nat} (h : d.getD k true = true) : (d.setIfInBounds i true).getD k true = true := by
  by_cases e : i = k
  · subst e
    rw [Array.getD_eq_getD_getElem?]
    by_cases hs : i < d.size
    · rw [Array.getElem?_setIfInBounds_self_of_lt hs]; rfl
    · rw [Array.getElem?_eq_none (by simp; omega)]; rfl
  · rw [getD_set_ne true e]; exact h
theorem region_chainJ {P : Program} {id : Nat} {Q : Exit → Act → World → Prop} {a0 : Act} {W w : World} {l : List Oper} {n : Nat} {last : Oper} (made : Nat → Bool) (eats : Nat → Option Nat) (hn : l.length = n + 1) (hlast : l[n]? = some last) (hL : lastC l n = true) (Φ : Nat → Value → World → Prop) (J : Array Bool → World → Prop) (hJ : J (Array.replicate l.length false) w.drew) (wr : Nat) (rX : Option Nat) (hrX : ∀ k, rX = some k → W.heap.size ≤ k) (hsX : ∀ i v w, i ≠ wr → made i = true → Φ i v w → v.ownBlock = none ∨ v.ownBlock ≠ rX) (F : (Nat → Value) → Act) (x0 : Nat → Value)
    (hm : P.follows .mixedOrders = true) (hg : l.all (fun o => o.guard.isNone) = true) (hE : earlyB l = true) (hT : eatsB l eats made n = true) (hw : Grow W w) (ha : a0 = F x0) (hΦ : Kinds W Φ made)
    (hput : ∀ (i : Nat) (o : Oper) (x : Nat → Value) (v : Value), i < n → l[i]? = some o → (F x).put o.dst v = F (fun j => if j = i then v else x j))
    (step : ∀ (d : Array Bool) (i : Nat) (o : Oper) (x : Nat → Value) (w : World), i < n → l[i]? = some o → d.size = l.length → d.getD i true = false → Grow W w → J d w → (∀ e ∈ o.after, Region.binds .any e = true → soleB eats n e.on i = true → Φ e.on (x e.on) w) →
      ∀ K : Act → World → Prop, (∀ v w' r, w.grownBy w' r → (r = none ∨ (∃ j, eats i = some j ∧ r = (x j).ownBlock) ∨ (r = rX ∧ i = wr)) → J (d.setIfInBounds i true) w' → Φ i v w' → (made i = true → v.ownBlock = none ∨ v.ownBlock = r ∨ ∀ k, v.ownBlock = some k → w.heap.size ≤ k) → K ((F x).put o.dst v) w') → o.wp P (F x) w K Q)
    (fin : ∀ (d : Array Bool) (x : Nat → Value) (w' : World), Grow W w' → J d w' → (∀ i, i < n → (∀ j, j < n → eats j ≠ some i) → Φ i (x i) w') → ∀ K : Act → World → Prop, (∀ a' w'', Q .normal a' w'' → K a' w'') → last.wp P (F x) w' K Q) : (Code.region id l.toArray true).wp P Q a0 w := by
  refine wp_region_any hm ?_
  refine any_inv (fun d a w' => d.size = l.length ∧ ((d.getD n true = true ∧ (∀ j, j < n → d.getD j true = true) ∧ Q .normal a w') ∨ (d.getD n true = false ∧ ∃ x, a = F x ∧ Grow W w' ∧ J d w' ∧ (∀ i o, i < n → l[i]? = some o → d.getD i true = true → ∀ e ∈ o.after, Region.binds .any e = true → d.getD e.on true = true) ∧
    (∀ i, i < n → d.getD i true = true → (∀ j, j < n → eats j = some i → d.getD j true = false) → Φ i (x i) w') ∧
    (∀ i j, i < n → j < n → i ≠ j → d.getD i true = true → d.getD j true = true → made i = true → made j = true → (∀ k, k < n → eats k = some i → d.getD k true = false) → (∀ k, k < n → eats k = some j → d.getD k true = false) → (x i).ownBlock = none ∨ (x i).ownBlock ≠ (x j).ownBlock)))) ?_ ?_ _ _ _ _ (by simp) ?_ ⟨by simp, .inr ⟨?_, x0, ha, hw.drew, hJ, fun i o hi ho h => ?_, fun i hi h => ?_, fun i j hi hj hij h => ?_⟩⟩
  · rintro d a w' i ⟨hs, hcase⟩ hi
    obtain ⟨h0, o, ho, hdep⟩ := mem_ready.1 hi
    have ho' : l[i]? = some o := by simpa using ho
    have hl : i < l.length := (List.getElem?_eq_some_iff.1 ho').1
    have hgd : o.guard = none := by
      have := List.all_eq_true.1 hg o (List.mem_of_getElem? ho')
      simpa using this
    have listed : ∀ e ∈ o.after, Region.binds .any e = true → e.on < l.length ∧ d.getD e.on true = true := fun e he hb => by
      have h1 := hdep e he hb
      have hle : e.on < l.length := by
        rcases Nat.lt_or_ge e.on d.size with h | h
        · omega
        · simp [Array.getElem?_eq_none h] at h1
      refine ⟨hle, ?_⟩
      rw [Array.getD_eq_getD_getElem?] at h1 ⊢
      rw [Array.getElem?_eq_getElem (by omega)] at h1 ⊢
      exact h1
    have hnl : d.getD n true = false := by
      rcases Nat.lt_or_ge i n with hin | hin
      · cases hq : d.getD n true with
        | false => rfl
        | true =>
          rcases hcase with ⟨-, h3, -⟩ | ⟨h2, -⟩
          · have := h3 i hin
            rw [h0] at this; cases this
          · rw [hq] at h2; cases h2
      · have : i = n := by omega
        rw [← this]; exact h0
    rcases hcase with ⟨h2, -⟩ | ⟨-, x, rfl, hgw, hj, hclo, hall, hsep⟩
    · rw [hnl] at h2; cases h2
    · by_cases e : i = n
      · subst e
        have e2 : o = last := Option.some.inj (ho'.symm.trans hlast)
        subst e2
        have hdone : ∀ j, j < i → d.getD j true = true := fun j hj => by
          obtain ⟨e, he, hb, h | ⟨h1, o2, h2, e2, h3, h4, h5⟩⟩ := lastC_spec hL hlast j hj
          · rw [← h]; exact (listed e he hb).2
          · rw [← h5]; exact hclo e.on o2 h1 h2 (listed e he hb).2 e2 h3 h4
        have hst := fin d x w' hgw hj fun j hj hne => hall _ hj (hdone j hj) fun k hk hek => absurd hek (hne k hk)
        unfold wpOp
        simp only [ho]
        rw [if_pos (by simp [Region.wanted, hgd])]
        exact .inl (hst _ (fun a' w'' h' => ⟨by simp [hs], .inl ⟨by simp [hs, hl], fun j hj => by
          rw [getD_set_ne true (by omega)]
          exact hdone j hj, h'⟩⟩))
      · have hin : i < n := by omega
        have fresh : ∀ j, soleB eats n j i = true → ∀ k, k < n → eats k = some j → d.getD k true = false := fun j hj k hk hek => by
          have := soleB_spec hj k hk hek
          subst this
          exact h0
        have hst := step d i o x w' hin ho' hs h0 hgw hj fun e he hb hso => hall _ (by have := earlyB_spec hE ho' e he; omega) (listed e he hb).2 (fresh _ hso)
        unfold wpOp
        simp only [ho]
        rw [if_pos (by simp [Region.wanted, hgd])]
        refine .inl (hst _ fun v w'' r hg2 hr hj2 hv hown => ?_)
        -- what the one that is written over is
        have eaten : ∀ j, eats i = some j → d.getD j true = true ∧ (∀ k, k < n → eats k = some j → d.getD k true = false) ∧ made j = true ∧ j < n ∧ j ≠ i := fun j hj => by
          obtain ⟨⟨e, he, hb, e2⟩, h2, h3, h4, h5⟩ := eatsB_spec hT hin ho' hj
          exact ⟨by rw [← e2]; exact (listed e he hb).2, fresh _ h2, h3, h4, h5⟩
        have hgr : Grow W w'' := by
          rcases hr with rfl | ⟨j, hj, rfl⟩ | ⟨rfl, hwr⟩
          · exact Grow.grown hgw hg2 fun k hk => by cases hk
          · obtain ⟨q1, q2, q3, q4, -⟩ := eaten j hj
            exact Grow.grown hgw hg2 fun k hk => (hΦ.lt j (x j) w' k q3 (hall j q4 q1 q2) hk).1
          · exact Grow.grown hgw hg2 fun k hk => hrX k hk
        -- others are apart from what is written
        have apart : ∀ j, j < n → d.getD j true = true → (∀ k, k < n → eats k = some j → d.getD k true = false) → eats i ≠ some j → made j = true → (x j).ownBlock = none ∨ (x j).ownBlock ≠ r := fun j hj hd hu hne hmj => by
          rcases hr with rfl | ⟨j0, hj0, rfl⟩ | ⟨rfl, hwr⟩
          · by_cases q : (x j).ownBlock = none
            · exact .inl q
            · exact .inr q
          · obtain ⟨q1, q2, q3, q4, -⟩ := eaten j0 hj0
            have hjj : j ≠ j0 := fun e => hne (e ▸ hj0)
            exact hsep j j0 hj q4 hjj hd q1 hmj q3 hu q2
          · exact hsX j (x j) w' (fun e => by rw [e, ← hwr, h0] at hd; cases hd) hmj (hall j hj hd hu)
        have undo : ∀ j, j < n → j ≠ i → (d.setIfInBounds i true).getD j true = true → d.getD j true = true := fun j hj hji h => by
          rwa [getD_set_ne true (Ne.symm hji)] at h
        have uneat : ∀ j, (∀ k, k < n → eats k = some j → (d.setIfInBounds i true).getD k true = false) → (∀ k, k < n → eats k = some j → d.getD k true = false) ∧ eats i ≠ some j := fun j h => by
          have hne : eats i ≠ some j := fun e => by
            have := h i hin e
            rw [Array.getD_eq_getD_getElem?, Array.getElem?_setIfInBounds_self_of_lt (by omega)] at this
            cases this
          refine ⟨fun k hk hek => ?_, hne⟩
          have := h k hk hek
          rwa [getD_set_ne true (by rintro rfl; exact hne hek)] at this
        refine ⟨by simp [hs], .inr ⟨by rw [getD_set_ne true e]; exact hnl, _, hput i o x v hin ho', hgr, hj2, fun j oj hjn hoj hdj ed hed hbd => ?_, fun j hj hd hu => ?_, fun j k hj hk hjk hdj hdk hmj hmk huj huk => ?_⟩⟩
        · by_cases ej : j = i
          · subst ej
            have eo : oj = o := Option.some.inj (hoj.symm.trans ho')
            subst eo
            exact getD_set_mono (listed ed hed hbd).2
          · exact getD_set_mono (hclo j oj hjn hoj (by rwa [getD_set_ne true (Ne.symm ej)] at hdj) ed hed hbd)
        · by_cases e' : j = i
          · subst e'
            simpa using hv
          · simp only [if_neg e']
            obtain ⟨hu1, hne⟩ := uneat j hu
            have hd' := undo j hj e' hd
            have hold := hall j hj hd' hu1
            cases hmj : made j with
            | false => exact hΦ.still j _ _ _ hmj hold
            | true => exact hΦ.kept j _ _ _ r hmj hold hg2 (apart j hj hd' hu1 hne hmj)
        · by_cases ej : j = i
          · subst ej
            have ek : k ≠ j := Ne.symm hjk
            simp only [if_true, if_neg ek]
            obtain ⟨hu1, hne⟩ := uneat k huk
            have hd' := undo k hk ek hdk
            rcases hown hmj with q | q | q
            · exact .inl q
            · rcases apart k hk hd' hu1 hne hmk with p | p
              · by_cases h : v.ownBlock = none
                · exact .inl h
                · exact .inr (by rw [p]; exact h)
              · exact .inr fun e => p (by rw [← e, q])
            · by_cases h : v.ownBlock = none
              · exact .inl h
              · refine .inr fun e => ?_
                cases hb : v.ownBlock with
                | none => exact h hb
                | some z =>
                  have h1 := q z hb
                  have h2 := (hΦ.lt k _ _ z hmk (hall k hk hd' hu1) (by rw [← e, hb])).2
                  omega
          · by_cases ek : k = i
            · subst ek
              simp only [if_neg ej, if_true]
              obtain ⟨hu1, hne⟩ := uneat j huj
              have hd' := undo j hj ej hdj
              rcases hown hmk with q | q | q
              · by_cases h : (x j).ownBlock = none
                · exact .inl h
                · exact .inr (by rw [q]; exact h)
              · rcases apart j hj hd' hu1 hne hmj with p | p
                · exact .inl p
                · exact .inr fun e => p (by rw [e, q])
              · cases hb : (x j).ownBlock with
                | none => exact .inl rfl
                | some z =>
                  refine .inr fun e => ?_
                  have h1 := q z e.symm
                  have h2 := (hΦ.lt j _ _ z hmj (hall j hj hd' hu1) hb).2
                  omega
            · simp only [if_neg ej, if_neg ek]
              exact hsep j k hj hk hjk (undo j hj ej hdj) (undo k hk ek hdk) hmj hmk (uneat j huj).1 (uneat k huk).1
  · rintro d a w' ⟨hs, hcase⟩ hds hr
    rcases hcase with ⟨-, -, h2⟩ | ⟨h2, -⟩
    · exact h2
    · have := all_listed hE hs hr n (by omega)
      rw [h2] at this; cases this
  · have : (List.range l.toArray.size).countP (fun j => !((Array.replicate l.toArray.size false).getD j true)) = (List.range l.toArray.size).length := List.countP_eq_length.2 fun j hj => by
      have := List.mem_range.1 hj
      simp at this
      simp [this]
    simpa [countOff] using this
  · simp [hn]
  · simp [show i < l.length by omega] at h
  · simp [show i < l.length by omega] at h
  · simp [show i < l.length by omega] at h

end Go.Proofs.Ytnmknkdbeccmhaa
