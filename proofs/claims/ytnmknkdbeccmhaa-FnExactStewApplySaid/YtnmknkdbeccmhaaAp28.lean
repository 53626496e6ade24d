/- The walk of the program's act: a new copy put in by slices.Insert. The walk of the program's act: the loop that puts new copies in. The walk of the program's act: the drop of a service that is gone; the end. The walk of the program's act: its head; act as a whole. The walk of the program's act, as a whole. -/
import Derived.Test.YtnmknkdbeccmhaaAp27
import Derived.Test.YtnmknkdbeccmhaaAp2
namespace Go.Proofs.Ytnmknkdbeccmhaa
open Go.RowKit
set_option linter.unusedSimpArgs false
set_option linter.unusedVariables false
set_option maxRecDepth 1000000
set_option maxHeartbeats 2000000
def fE (g ga g1 i p : Nat) (cr : Int) (x13 : Value) (k : Nat) (u x : Nat → Value) : Act := ⟨#[.pointer (some ⟨g, 0, none⟩), u 1, u 2, .pointer (some ⟨ga, 0, none⟩), u 4, .pointer (some ⟨g1, i * 13, none⟩), u 6, u 7, u 8, u 9, u 10, u 11, u 12, x13, .int .i64 (p + k : Nat), u 15, u 16, u 17, u 18, u 19, u 20, u 21, u 22, u 23, u 24, u 25, u 26, u 27, u 28, u 29, u 30, u 31, u 32, u 33, u 34, u 35, u 36, u 37, u 38, u 39, u 40, u 41, u 42, u 43, u 44, u 45, u 46, u 47, u 48, u 49, u 50, u 51, u 52, u 53, u 54, u 55, u 56, u 57, u 58, u 59, u 60, u 61, u 62, u 63, u 64, u 65, u 66, u 67, u 68, u 69, u 70, u 71, u 72, u 73, u 74, u 75, u 76, u 77, u 78, u 79, u 80, u 81, u 82, u 83, u 84, u 85, u 86, u 87, u 88, u 89, u 90, u 91, u 92, u 93, u 94, u 95, u 96, u 97, u 98, u 99, u 100, u 101, u 102, u 103, u 104, u 105, u 106, u 107, u 108, u 109, u 110, u 111, u 112, u 113, u 114, u 115, u 116, u 117, u 118, u 119, u 120, u 121, u 122, u 123, u 124, u 125, u 126, u 127, u 128, u 129, u 130, u 131, u 132, u 133, u 134, u 135, u 136, u 137, u 138, u 139, u 140, u 141, u 142, u 143, u 144, u 145, u 146, u 147, u 148, u 149, u 150, u 151, u 152, u 153, u 154, u 155, u 156, u 157, u 158, u 159, u 160, u 161, u 162, u 163, u 164, u 165, u 166, u 167, u 168, u 169, u 170, u 171, u 172, u 173, u 174, u 175, u 176, u 177, u 178, u 179, u 180, u 181, u 182, u 183, u 184, u 185, u 186, u 187, u 188, u 189, u 190, u 191, u 192, u 193, u 194, u 195, u 196, u 197, u 198, u 199, u 200, u 201, u 202, u 203, u 204, u 205, u 206, u 207, u 208, u 209, u 210, u 211, u 212, u 213, u 214, u 215, u 216, u 217, u 218, u 219, u 220, u 221, u 222, u 223, u 224, u 225, u 226, u 227, u 228, u 229, u 230, u 231, u 232, u 233, u 234, u 235, u 236, u 237, .int .i64 cr, .int .i64 (k : Nat), u 240, x 0, x 1, x 2, x 3, x 4, x 5, x 6, x 7, x 8, x 9, x 10, x 11, x 12, x 13, x 14, x 15, x 16, x 17, x 18, x 19, x 20, x 21, x 22, x 23, x 24, x 25, x 26, u 268, u 269, u 270, u 271, u 272, u 273, u 274, u 275, u 276, u 277, u 278, u 279, u 280, u 281, u 282, u 283, u 284, u 285, u 286, u 287, u 288], []⟩
/- What is known of the memory at hand, whatever has been done: all but the copies' row; that too, as long as Insert has not been called. -/
structure J47 (t : Int) (svcs : List Svc) (cps : List Cpy) (brs : List Brt) (ACT : Array Value) (v1 v2 v3 : Value) (g ga base lo : Nat) (d : Array Bool) (w : World) : Prop where
  sz : lo ≤ w.heap.size
  X : w.heap[ga]? = some (.cells ACT 77 (0, 0))
  B : w.heap[g]? = some (.cells #[.int .i64 t, v1, v2, v3] 34 (0, 0))
  r1 : w.ownsRow base 83 13 v1 svcs.length (svcs.flatMap svcC)
  r3 : w.ownsRow base 104 2 v3 brs.length (brs.flatMap brtC)
  r2 : d.getD 24 true = false → w.ownsRow base 65 7 v2 cps.length (cps.flatMap cpyC)
section
variable {t : Int} {svcs : List Svc} {cps : List Cpy} {brs : List Brt} {ACT : Array Value} {v1 v2 v3 : Value} {g ga base lo : Nat} {d : Array Bool} {w w' : World}
theorem J47.grow (h : J47 t svcs cps brs ACT v1 v2 v3 g ga base lo d w) (k : Grow w w') : J47 t svcs cps brs ACT v1 v2 v3 g ga base lo d w' :=
  ⟨Nat.le_trans h.sz k.size, blk_grow h.X k, blk_grow h.B k, own_grow h.r1 k, own_grow h.r3 k, fun e => own_grow (h.r2 e) k⟩
theorem J47.next {i : Nat} (h : J47 t svcs cps brs ACT v1 v2 v3 g ga base lo d w) (hi : i ≠ 24) : J47 t svcs cps brs ACT v1 v2 v3 g ga base lo (d.setIfInBounds i true) w :=
  ⟨h.sz, h.X, h.B, h.r1, h.r3, fun e => h.r2 (by rwa [getD_set_ne true hi] at e)⟩
theorem J47.called (h : J47 t svcs cps brs ACT v1 v2 v3 g ga base lo d w) (h2 : w.ownsRow base 65 7 v2 cps.length (cps.flatMap cpyC)) (hs : 24 < d.size) (hga : v2.ownBlock ≠ some ga) (k : w.grownBy w' v2.ownBlock) : J47 t svcs cps brs ACT v1 v2 v3 g ga base lo (d.setIfInBounds 24 true) w' :=
  ⟨Nat.le_trans h.sz k.size, (k.block ga (blk_lt h.X) (Ne.symm hga)).trans h.X, (k.block g (blk_lt h.B) (heap_ne h2 h.B (by decide))).trans h.B, h.r1.kept k (own_ne h2 h.r1 (by decide)), h.r3.kept k (own_ne h2 h.r3 (by decide)), fun e => by
    rw [Array.getD_eq_getD_getElem?, Array.getElem?_setIfInBounds_self_of_lt hs] at e
    cases e⟩
theorem J47.svc {g1 N1 e1 i : Nat} {sv : Svc} (h : J47 t svcs cps brs ACT (.slice (some ⟨g1, 0, none⟩) N1 e1) v2 v3 g ga base lo d w) (hs : svcs[i]? = some sv) : w.cell? ⟨g1, i * 13, none⟩ = some (.string sv.name) ∧ w.cell? ⟨g1, i * 13 + 3, none⟩ = some (.int .i64 sv.image) ∧ w.cell? ⟨g1, i * 13 + 7, none⟩ = some (.int .i64 sv.next) := by
  obtain ⟨A', c', e', -, hr⟩ := own_rows svcC_len rfl h.r1
  cases e'
  obtain ⟨bq, oq, hqq, -, s0, -, -, s3, -, -, -, s7, -⟩ := svc_at hr hs
  simp only [Option.some.injEq, Addr.mk.injEq] at hqq
  obtain ⟨rfl, rfl, -⟩ := hqq
  simp only [Nat.zero_add] at s0 s3 s7
  exact ⟨s0, s3, s7⟩
end
def copyOf (sv : Svc) (t : Int) : Cpy := ⟨sv.name, sv.next, t, sv.image, 1, false, ⟨#[]⟩⟩
def Phi47 (t : Int) (sv : Svc) (cps : List Cpy) (A2 : Option Addr) (e2 g g1 i p k ga base lo : Nat) : Nat → Value → World → Prop
  | 0, v, w => v = .pointer (some ⟨g, 0, none⟩)
  | 1, v, w => v = .pointer (some ⟨g, 0, none⟩)
  | 2, v, w => v = .pointer (some ⟨g, 0, none⟩)
  | 3, v, w => v = .pointer (some ⟨g, 2, none⟩)
  | 4, v, w => v = .slice A2 cps.length e2
  | 5, v, w => v = .int .i64 (p + k : Nat)
  | 6, v, w => v = .pointer (some ⟨g1, i * 13, none⟩)
  | 7, v, w => v = .pointer (some ⟨g1, i * 13, none⟩)
  | 8, v, w => v = .pointer (some ⟨g1, i * 13, none⟩)
  | 9, v, w => v = .string sv.name
  | 10, v, w => v = .pointer (some ⟨g1, i * 13, none⟩)
  | 11, v, w => v = .pointer (some ⟨g1, i * 13, none⟩)
  | 12, v, w => v = .pointer (some ⟨g1, i * 13 + 7, none⟩)
  | 13, v, w => v = .int .i64 sv.next
  | 14, v, w => v = .pointer (some ⟨g, 0, none⟩)
  | 15, v, w => v = .pointer (some ⟨g, 0, none⟩)
  | 16, v, w => v = .pointer (some ⟨g, 0, none⟩)
  | 17, v, w => v = .int .i64 t
  | 18, v, w => v = .pointer (some ⟨g1, i * 13, none⟩)
  | 19, v, w => v = .pointer (some ⟨g1, i * 13, none⟩)
  | 20, v, w => v = .pointer (some ⟨g1, i * 13 + 3, none⟩)
  | 21, v, w => v = .int .i64 sv.image
  | 22, v, w => v = .agg (cpyC (copyOf sv t)).toArray
  | 23, v, w => ∃ h, v = .slice (some ⟨h, 0, none⟩) 1 1 ∧ lo ≤ h ∧ w.heap[h]? = some (.cells (cpyC (copyOf sv t)).toArray 65 (0, 0))
  | 24, v, w => w.ownsRow base 65 7 v (putIn (p + k) [copyOf sv t] cps).length ((putIn (p + k) [copyOf sv t] cps).flatMap cpyC) ∧ v.ownBlock ≠ some ga
  | 25, v, w => v = .pointer (some ⟨g, 0, none⟩)
  | 26, v, w => v = .pointer (some ⟨g, 2, none⟩)
  | _, _, _ => True
def made47 (i : Nat) : Bool := [23, 24].contains i
def eats47 : Nat → Option Nat := fun _ => none
theorem kinds47 (t : Int) (sv : Svc) (cps : List Cpy) (A2 : Option Addr) (e2 g g1 i p k ga base lo : Nat) (W : World) (hb : W.heap.size ≤ base) (hlo : W.heap.size ≤ lo) : Kinds W (Phi47 t sv cps A2 e2 g g1 i p k ga base lo) made47 where
  still := by
    intro j v w w' hm h
    match j, hm, h with
    | 0, hm, h => exact h
    | 1, hm, h => exact h
    | 2, hm, h => exact h
    | 3, hm, h => exact h
    | 4, hm, h => exact h
    | 5, hm, h => exact h
    | 6, hm, h => exact h
    | 7, hm, h => exact h
    | 8, hm, h => exact h
    | 9, hm, h => exact h
    | 10, hm, h => exact h
    | 11, hm, h => exact h
    | 12, hm, h => exact h
    | 13, hm, h => exact h
    | 14, hm, h => exact h
    | 15, hm, h => exact h
    | 16, hm, h => exact h
    | 17, hm, h => exact h
    | 18, hm, h => exact h
    | 19, hm, h => exact h
    | 20, hm, h => exact h
    | 21, hm, h => exact h
    | 22, hm, h => exact h
    | 23, hm, h => cases hm
    | 24, hm, h => cases hm
    | 25, hm, h => exact h
    | 26, hm, h => exact h
    | n + 27, _, _ => exact trivial
  kept := by
    intro j v w w' r hm h hg hr
    match j, hm, h with
    | 0, hm, h => cases hm
    | 1, hm, h => cases hm
    | 2, hm, h => cases hm
    | 3, hm, h => cases hm
    | 4, hm, h => cases hm
    | 5, hm, h => cases hm
    | 6, hm, h => cases hm
    | 7, hm, h => cases hm
    | 8, hm, h => cases hm
    | 9, hm, h => cases hm
    | 10, hm, h => cases hm
    | 11, hm, h => cases hm
    | 12, hm, h => cases hm
    | 13, hm, h => cases hm
    | 14, hm, h => cases hm
    | 15, hm, h => cases hm
    | 16, hm, h => cases hm
    | 17, hm, h => cases hm
    | 18, hm, h => cases hm
    | 19, hm, h => cases hm
    | 20, hm, h => cases hm
    | 21, hm, h => cases hm
    | 22, hm, h => cases hm
    | 23, hm, h => (obtain ⟨q, rfl, h1, h2⟩ := h; exact ⟨q, rfl, h1, (hg.block q (blk_lt h2) (by simpa [Value.ownBlock] using hr)).trans h2⟩)
    | 24, hm, h => exact ⟨h.1.kept hg hr, h.2⟩
    | 25, hm, h => cases hm
    | 26, hm, h => cases hm
    | n + 27, hm, _ => exact trivial
  lt := by
    intro j v w q hm h hq
    match j, hm, h with
    | 0, hm, h => cases hm
    | 1, hm, h => cases hm
    | 2, hm, h => cases hm
    | 3, hm, h => cases hm
    | 4, hm, h => cases hm
    | 5, hm, h => cases hm
    | 6, hm, h => cases hm
    | 7, hm, h => cases hm
    | 8, hm, h => cases hm
    | 9, hm, h => cases hm
    | 10, hm, h => cases hm
    | 11, hm, h => cases hm
    | 12, hm, h => cases hm
    | 13, hm, h => cases hm
    | 14, hm, h => cases hm
    | 15, hm, h => cases hm
    | 16, hm, h => cases hm
    | 17, hm, h => cases hm
    | 18, hm, h => cases hm
    | 19, hm, h => cases hm
    | 20, hm, h => cases hm
    | 21, hm, h => cases hm
    | 22, hm, h => cases hm
    | 23, hm, h => (obtain ⟨z, rfl, h1, h2⟩ := h; simp only [Value.ownBlock, Option.some.injEq] at hq; subst hq; exact ⟨Nat.le_trans hlo h1, blk_lt h2⟩)
    | 24, hm, h => (have := h.1.lt q hq; exact ⟨Nat.le_trans hb this.1, this.2⟩)
    | 25, hm, h => cases hm
    | 26, hm, h => cases hm
    | n + 27, hm, h => simp [made47] at hm
noncomputable def ac47 : Code := match headOf (restOf (restOf acl8b)) with | .block _ c => headOf c | _ => .skip
theorem chain47 {t cr : Int} {svcs : List Svc} {sv : Svc} {cps : List Cpy} {brs : List Brt} {ACT : Array Value} {A2 : Option Addr} {N1 e1 e2 g g1 ga i p k base : Nat} {v3 x13 : Value} {u : Nat → Value} {w1 U : World} {Q : Exit → Act → World → Prop} (hJ : J47 t svcs cps brs ACT (.slice (some ⟨g1, 0, none⟩) N1 e1) (.slice A2 cps.length e2) v3 g ga base U.heap.size (Array.replicate 28 false) U)
    (hs : Hid (svcs[i]? = some sv)) (G : Grow w1 U) (hb : w1.heap.size ≤ base) (hbU : base ≤ U.heap.size) (hga : (Value.slice A2 cps.length e2).ownBlock ≠ some ga) (hgaU : ga < U.heap.size) (hpk : p + k ≤ cps.length) (hl : cps.length ≤ 1000000)
    (fin : ∀ d v u V, Grow w1 V → J47 t svcs cps brs ACT (.slice (some ⟨g1, 0, none⟩) N1 e1) (.slice A2 cps.length e2) v3 g ga base U.heap.size d V → V.ownsRow base 65 7 v (putIn (p + k) [copyOf sv t] cps).length ((putIn (p + k) [copyOf sv t] cps).flatMap cpyC) → v.ownBlock ≠ some ga → Q .normal (fD g ga g1 i p cr x13 k u) (V.setCell ⟨g, 2, none⟩ v)) :
    ac47.wp Try.prog Q (fD g ga g1 i p cr x13 k u) U := by
  have FIN := Lib.hid fin
  have hb2 : w1.heap.size ≤ U.heap.size := G.size
  clear fin
  conv => arg 2; whnf
  refine reframe (fun u => fE g ga g1 i p cr x13 k u (fun j => u (j + 241))) (by kernel_rfl) ?_
  intro u
  refine region_chainJ (W := w1) (n := 27) made47 eats47 rfl rfl (by kernel_rfl) (Phi47 t sv cps A2 e2 g g1 i p k ga base U.heap.size) (J47 t svcs cps brs ACT (.slice (some ⟨g1, 0, none⟩) N1 e1) (.slice A2 cps.length e2) v3 g ga base U.heap.size) ?_ 24 (Value.slice A2 cps.length e2).ownBlock ?_ ?_ (fun x => fE g ga g1 i p cr x13 k u x) (fun j => u (j + 241)) (by kernel_rfl) (by kernel_rfl) (by kernel_rfl) (by kernel_rfl) G rfl (kinds47 t sv cps A2 e2 g g1 i p k ga base U.heap.size w1 hb hb2) ?_ ?_ ?_
  · exact hJ.grow (Grow.drew (Grow.refl _))
  · intro q hq
    exact Nat.le_trans hb ((hJ.r2 (by simp)).lt q hq).1
  · intro j v w hj hm h
    match j, hj, hm, h with
    | 0, hj, hm, h => cases hm
    | 1, hj, hm, h => cases hm
    | 2, hj, hm, h => cases hm
    | 3, hj, hm, h => cases hm
    | 4, hj, hm, h => cases hm
    | 5, hj, hm, h => cases hm
    | 6, hj, hm, h => cases hm
    | 7, hj, hm, h => cases hm
    | 8, hj, hm, h => cases hm
    | 9, hj, hm, h => cases hm
    | 10, hj, hm, h => cases hm
    | 11, hj, hm, h => cases hm
    | 12, hj, hm, h => cases hm
    | 13, hj, hm, h => cases hm
    | 14, hj, hm, h => cases hm
    | 15, hj, hm, h => cases hm
    | 16, hj, hm, h => cases hm
    | 17, hj, hm, h => cases hm
    | 18, hj, hm, h => cases hm
    | 19, hj, hm, h => cases hm
    | 20, hj, hm, h => cases hm
    | 21, hj, hm, h => cases hm
    | 22, hj, hm, h => cases hm
    | 23, hj, hm, h => (obtain ⟨z, rfl, h1, h2⟩ := h; exact .inr fun e => absurd ((hJ.r2 (by simp)).lt z (e ▸ rfl)).2 (by omega))
    | 24, hj, hm, h => exact absurd rfl hj
    | 25, hj, hm, h => cases hm
    | 26, hj, hm, h => cases hm
    | n + 27, _, hm, h => simp [made47] at hm
  · intro ii oo x v hi ho
    match ii, hi, ho with
    | 0, _, ho => cases ho; rfl
    | 1, _, ho => cases ho; rfl
    | 2, _, ho => cases ho; rfl
    | 3, _, ho => cases ho; rfl
    | 4, _, ho => cases ho; rfl
    | 5, _, ho => cases ho; rfl
    | 6, _, ho => cases ho; rfl
    | 7, _, ho => cases ho; rfl
    | 8, _, ho => cases ho; rfl
    | 9, _, ho => cases ho; rfl
    | 10, _, ho => cases ho; rfl
    | 11, _, ho => cases ho; rfl
    | 12, _, ho => cases ho; rfl
    | 13, _, ho => cases ho; rfl
    | 14, _, ho => cases ho; rfl
    | 15, _, ho => cases ho; rfl
    | 16, _, ho => cases ho; rfl
    | 17, _, ho => cases ho; rfl
    | 18, _, ho => cases ho; rfl
    | 19, _, ho => cases ho; rfl
    | 20, _, ho => cases ho; rfl
    | 21, _, ho => cases ho; rfl
    | 22, _, ho => cases ho; rfl
    | 23, _, ho => cases ho; rfl
    | 24, _, ho => cases ho; rfl
    | 25, _, ho => cases ho; rfl
    | 26, _, ho => cases ho; rfl
    | n + 27, hi, _ => omega
  · intro d ii oo x w2 hi ho hds hd0 hg hj hd
    match ii, hi, ho, hd0, hd with
    | 0, _, ho, hd0, hd =>
      cases ho
      intro K hK
      have e0 : (fE g ga g1 i p cr x13 k u x).tmps[0]?.getD undef = .pointer (some ⟨g, 0, none⟩) := rfl
      generalize (fE g ga g1 i p cr x13 k u x) = AA at *
      go_simp
      exact hK (.pointer (some ⟨g, 0, none⟩)) _ none (World.grownBy.refl _ _) (.inl rfl) (hj.next (by decide)) rfl (fun h => by cases h)
    | 1, _, ho, hd0, hd =>
      cases ho
      intro K hK
      have e0 : (fE g ga g1 i p cr x13 k u x).tmps[0]?.getD undef = .pointer (some ⟨g, 0, none⟩) := rfl
      generalize (fE g ga g1 i p cr x13 k u x) = AA at *
      go_simp
      exact hK (.pointer (some ⟨g, 0, none⟩)) _ none (World.grownBy.refl _ _) (.inl rfl) (hj.next (by decide)) rfl (fun h => by cases h)
    | 2, _, ho, hd0, hd =>
      cases ho
      intro K hK
      have d1 : x 1 = .pointer (some ⟨g, 0, none⟩) := hd ⟨1, .data⟩ (by simp) rfl rfl
      have e242 : (fE g ga g1 i p cr x13 k u x).tmps[242]?.getD undef = .pointer (some ⟨g, 0, none⟩) := (show _ = x 1 from rfl).trans d1
      generalize (fE g ga g1 i p cr x13 k u x) = AA at *
      go_simp
      exact hK (.pointer (some ⟨g, 0, none⟩)) _ none (World.grownBy.refl _ _) (.inl rfl) (hj.next (by decide)) rfl (fun h => by cases h)
    | 3, _, ho, hd0, hd =>
      cases ho
      intro K hK
      have d2 : x 2 = .pointer (some ⟨g, 0, none⟩) := hd ⟨2, .data⟩ (by simp) rfl rfl
      have e243 : (fE g ga g1 i p cr x13 k u x).tmps[243]?.getD undef = .pointer (some ⟨g, 0, none⟩) := (show _ = x 2 from rfl).trans d2
      generalize (fE g ga g1 i p cr x13 k u x) = AA at *
      go_simp
      exact hK (.pointer (some ⟨g, 2, none⟩)) _ none (World.grownBy.refl _ _) (.inl rfl) (hj.next (by decide)) rfl (fun h => by cases h)
    | 4, _, ho, hd0, hd =>
      cases ho
      intro K hK
      have d3 : x 3 = .pointer (some ⟨g, 2, none⟩) := hd ⟨3, .data⟩ (by simp) rfl rfl
      have e244 : (fE g ga g1 i p cr x13 k u x).tmps[244]?.getD undef = .pointer (some ⟨g, 2, none⟩) := (show _ = x 3 from rfl).trans d3
      obtain ⟨b0, b1, b2, b3⟩ := box4 hj.B
      generalize (fE g ga g1 i p cr x13 k u x) = AA at *
      go_simp
      exact hK (.slice A2 cps.length e2) _ none (World.grownBy.refl _ _) (.inl rfl) (hj.next (by decide)) rfl (fun h => by cases h)
    | 5, _, ho, hd0, hd =>
      cases ho
      intro K hK
      have e14 : (fE g ga g1 i p cr x13 k u x).tmps[14]?.getD undef = .int .i64 (p + k : Nat) := rfl
      generalize (fE g ga g1 i p cr x13 k u x) = AA at *
      go_simp
      exact hK (.int .i64 (p + k : Nat)) _ none (World.grownBy.refl _ _) (.inl rfl) (hj.next (by decide)) rfl (fun h => by cases h)
    | 6, _, ho, hd0, hd =>
      cases ho
      intro K hK
      have e5 : (fE g ga g1 i p cr x13 k u x).tmps[5]?.getD undef = .pointer (some ⟨g1, i * 13, none⟩) := rfl
      generalize (fE g ga g1 i p cr x13 k u x) = AA at *
      go_simp
      exact hK (.pointer (some ⟨g1, i * 13, none⟩)) _ none (World.grownBy.refl _ _) (.inl rfl) (hj.next (by decide)) rfl (fun h => by cases h)
    | 7, _, ho, hd0, hd =>
      cases ho
      intro K hK
      have d6 : x 6 = .pointer (some ⟨g1, i * 13, none⟩) := hd ⟨6, .data⟩ (by simp) rfl rfl
      have e247 : (fE g ga g1 i p cr x13 k u x).tmps[247]?.getD undef = .pointer (some ⟨g1, i * 13, none⟩) := (show _ = x 6 from rfl).trans d6
      generalize (fE g ga g1 i p cr x13 k u x) = AA at *
      go_simp
      exact hK (.pointer (some ⟨g1, i * 13, none⟩)) _ none (World.grownBy.refl _ _) (.inl rfl) (hj.next (by decide)) rfl (fun h => by cases h)
    | 8, _, ho, hd0, hd =>
      cases ho
      intro K hK
      have d7 : x 7 = .pointer (some ⟨g1, i * 13, none⟩) := hd ⟨7, .data⟩ (by simp) rfl rfl
      have e248 : (fE g ga g1 i p cr x13 k u x).tmps[248]?.getD undef = .pointer (some ⟨g1, i * 13, none⟩) := (show _ = x 7 from rfl).trans d7
      generalize (fE g ga g1 i p cr x13 k u x) = AA at *
      go_simp
      exact hK (.pointer (some ⟨g1, i * 13, none⟩)) _ none (World.grownBy.refl _ _) (.inl rfl) (hj.next (by decide)) rfl (fun h => by cases h)
    | 9, _, ho, hd0, hd =>
      cases ho
      intro K hK
      have d8 : x 8 = .pointer (some ⟨g1, i * 13, none⟩) := hd ⟨8, .data⟩ (by simp) rfl rfl
      have e249 : (fE g ga g1 i p cr x13 k u x).tmps[249]?.getD undef = .pointer (some ⟨g1, i * 13, none⟩) := (show _ = x 8 from rfl).trans d8
      obtain ⟨s0, s3, s7⟩ := hj.svc hs.out
      generalize (fE g ga g1 i p cr x13 k u x) = AA at *
      go_simp
      exact hK (.string sv.name) _ none (World.grownBy.refl _ _) (.inl rfl) (hj.next (by decide)) rfl (fun h => by cases h)
    | 10, _, ho, hd0, hd =>
      cases ho
      intro K hK
      have e5 : (fE g ga g1 i p cr x13 k u x).tmps[5]?.getD undef = .pointer (some ⟨g1, i * 13, none⟩) := rfl
      generalize (fE g ga g1 i p cr x13 k u x) = AA at *
      go_simp
      exact hK (.pointer (some ⟨g1, i * 13, none⟩)) _ none (World.grownBy.refl _ _) (.inl rfl) (hj.next (by decide)) rfl (fun h => by cases h)
    | 11, _, ho, hd0, hd =>
      cases ho
      intro K hK
      have d10 : x 10 = .pointer (some ⟨g1, i * 13, none⟩) := hd ⟨10, .data⟩ (by simp) rfl rfl
      have e251 : (fE g ga g1 i p cr x13 k u x).tmps[251]?.getD undef = .pointer (some ⟨g1, i * 13, none⟩) := (show _ = x 10 from rfl).trans d10
      generalize (fE g ga g1 i p cr x13 k u x) = AA at *
      go_simp
      exact hK (.pointer (some ⟨g1, i * 13, none⟩)) _ none (World.grownBy.refl _ _) (.inl rfl) (hj.next (by decide)) rfl (fun h => by cases h)
    | 12, _, ho, hd0, hd =>
      cases ho
      intro K hK
      have d11 : x 11 = .pointer (some ⟨g1, i * 13, none⟩) := hd ⟨11, .data⟩ (by simp) rfl rfl
      have e252 : (fE g ga g1 i p cr x13 k u x).tmps[252]?.getD undef = .pointer (some ⟨g1, i * 13, none⟩) := (show _ = x 11 from rfl).trans d11
      generalize (fE g ga g1 i p cr x13 k u x) = AA at *
      go_simp
      exact hK (.pointer (some ⟨g1, i * 13 + 7, none⟩)) _ none (World.grownBy.refl _ _) (.inl rfl) (hj.next (by decide)) rfl (fun h => by cases h)
    | 13, _, ho, hd0, hd =>
      cases ho
      intro K hK
      have d12 : x 12 = .pointer (some ⟨g1, i * 13 + 7, none⟩) := hd ⟨12, .data⟩ (by simp) rfl rfl
      have e253 : (fE g ga g1 i p cr x13 k u x).tmps[253]?.getD undef = .pointer (some ⟨g1, i * 13 + 7, none⟩) := (show _ = x 12 from rfl).trans d12
      obtain ⟨s0, s3, s7⟩ := hj.svc hs.out
      generalize (fE g ga g1 i p cr x13 k u x) = AA at *
      go_simp
      exact hK (.int .i64 sv.next) _ none (World.grownBy.refl _ _) (.inl rfl) (hj.next (by decide)) rfl (fun h => by cases h)
    | 14, _, ho, hd0, hd =>
      cases ho
      intro K hK
      have e0 : (fE g ga g1 i p cr x13 k u x).tmps[0]?.getD undef = .pointer (some ⟨g, 0, none⟩) := rfl
      generalize (fE g ga g1 i p cr x13 k u x) = AA at *
      go_simp
      exact hK (.pointer (some ⟨g, 0, none⟩)) _ none (World.grownBy.refl _ _) (.inl rfl) (hj.next (by decide)) rfl (fun h => by cases h)
    | 15, _, ho, hd0, hd =>
      cases ho
      intro K hK
      have d14 : x 14 = .pointer (some ⟨g, 0, none⟩) := hd ⟨14, .data⟩ (by simp) rfl rfl
      have e255 : (fE g ga g1 i p cr x13 k u x).tmps[255]?.getD undef = .pointer (some ⟨g, 0, none⟩) := (show _ = x 14 from rfl).trans d14
      generalize (fE g ga g1 i p cr x13 k u x) = AA at *
      go_simp
      exact hK (.pointer (some ⟨g, 0, none⟩)) _ none (World.grownBy.refl _ _) (.inl rfl) (hj.next (by decide)) rfl (fun h => by cases h)
    | 16, _, ho, hd0, hd =>
      cases ho
      intro K hK
      have d15 : x 15 = .pointer (some ⟨g, 0, none⟩) := hd ⟨15, .data⟩ (by simp) rfl rfl
      have e256 : (fE g ga g1 i p cr x13 k u x).tmps[256]?.getD undef = .pointer (some ⟨g, 0, none⟩) := (show _ = x 15 from rfl).trans d15
      generalize (fE g ga g1 i p cr x13 k u x) = AA at *
      go_simp
      exact hK (.pointer (some ⟨g, 0, none⟩)) _ none (World.grownBy.refl _ _) (.inl rfl) (hj.next (by decide)) rfl (fun h => by cases h)
    | 17, _, ho, hd0, hd =>
      cases ho
      intro K hK
      have d16 : x 16 = .pointer (some ⟨g, 0, none⟩) := hd ⟨16, .data⟩ (by simp) rfl rfl
      have e257 : (fE g ga g1 i p cr x13 k u x).tmps[257]?.getD undef = .pointer (some ⟨g, 0, none⟩) := (show _ = x 16 from rfl).trans d16
      obtain ⟨b0, b1, b2, b3⟩ := box4 hj.B
      generalize (fE g ga g1 i p cr x13 k u x) = AA at *
      go_simp
      exact hK (.int .i64 t) _ none (World.grownBy.refl _ _) (.inl rfl) (hj.next (by decide)) rfl (fun h => by cases h)
    | 18, _, ho, hd0, hd =>
      cases ho
      intro K hK
      have e5 : (fE g ga g1 i p cr x13 k u x).tmps[5]?.getD undef = .pointer (some ⟨g1, i * 13, none⟩) := rfl
      generalize (fE g ga g1 i p cr x13 k u x) = AA at *
      go_simp
      exact hK (.pointer (some ⟨g1, i * 13, none⟩)) _ none (World.grownBy.refl _ _) (.inl rfl) (hj.next (by decide)) rfl (fun h => by cases h)
    | 19, _, ho, hd0, hd =>
      cases ho
      intro K hK
      have d18 : x 18 = .pointer (some ⟨g1, i * 13, none⟩) := hd ⟨18, .data⟩ (by simp) rfl rfl
      have e259 : (fE g ga g1 i p cr x13 k u x).tmps[259]?.getD undef = .pointer (some ⟨g1, i * 13, none⟩) := (show _ = x 18 from rfl).trans d18
      generalize (fE g ga g1 i p cr x13 k u x) = AA at *
      go_simp
      exact hK (.pointer (some ⟨g1, i * 13, none⟩)) _ none (World.grownBy.refl _ _) (.inl rfl) (hj.next (by decide)) rfl (fun h => by cases h)
    | 20, _, ho, hd0, hd =>
      cases ho
      intro K hK
      have d19 : x 19 = .pointer (some ⟨g1, i * 13, none⟩) := hd ⟨19, .data⟩ (by simp) rfl rfl
      have e260 : (fE g ga g1 i p cr x13 k u x).tmps[260]?.getD undef = .pointer (some ⟨g1, i * 13, none⟩) := (show _ = x 19 from rfl).trans d19
      generalize (fE g ga g1 i p cr x13 k u x) = AA at *
      go_simp
      exact hK (.pointer (some ⟨g1, i * 13 + 3, none⟩)) _ none (World.grownBy.refl _ _) (.inl rfl) (hj.next (by decide)) rfl (fun h => by cases h)
    | 21, _, ho, hd0, hd =>
      cases ho
      intro K hK
      have d20 : x 20 = .pointer (some ⟨g1, i * 13 + 3, none⟩) := hd ⟨20, .data⟩ (by simp) rfl rfl
      have e261 : (fE g ga g1 i p cr x13 k u x).tmps[261]?.getD undef = .pointer (some ⟨g1, i * 13 + 3, none⟩) := (show _ = x 20 from rfl).trans d20
      obtain ⟨s0, s3, s7⟩ := hj.svc hs.out
      generalize (fE g ga g1 i p cr x13 k u x) = AA at *
      go_simp
      exact hK (.int .i64 sv.image) _ none (World.grownBy.refl _ _) (.inl rfl) (hj.next (by decide)) rfl (fun h => by cases h)
    | 22, _, ho, hd0, hd =>
      cases ho
      intro K hK
      have d9 : x 9 = .string sv.name := hd ⟨9, .data⟩ (by simp) rfl rfl
      have e250 : (fE g ga g1 i p cr x13 k u x).tmps[250]?.getD undef = .string sv.name := (show _ = x 9 from rfl).trans d9
      have d13 : x 13 = .int .i64 sv.next := hd ⟨13, .data⟩ (by simp) rfl rfl
      have e254 : (fE g ga g1 i p cr x13 k u x).tmps[254]?.getD undef = .int .i64 sv.next := (show _ = x 13 from rfl).trans d13
      have d17 : x 17 = .int .i64 t := hd ⟨17, .data⟩ (by simp) rfl rfl
      have e258 : (fE g ga g1 i p cr x13 k u x).tmps[258]?.getD undef = .int .i64 t := (show _ = x 17 from rfl).trans d17
      have d21 : x 21 = .int .i64 sv.image := hd ⟨21, .data⟩ (by simp) rfl rfl
      have e262 : (fE g ga g1 i p cr x13 k u x).tmps[262]?.getD undef = .int .i64 sv.image := (show _ = x 21 from rfl).trans d21
      generalize (fE g ga g1 i p cr x13 k u x) = AA at *
      go_simp
      exact hK (.agg (cpyC (copyOf sv t)).toArray) _ none (World.grownBy.refl _ _) (.inl rfl) (hj.next (by decide)) rfl (fun h => by cases h)
    | 23, _, ho, hd0, hd =>
      cases ho
      intro K hK
      have d22 : x 22 = .agg (cpyC (copyOf sv t)).toArray := hd ⟨22, .data⟩ (by simp) rfl rfl
      have e263 : (fE g ga g1 i p cr x13 k u x).tmps[263]?.getD undef = .agg (cpyC (copyOf sv t)).toArray := (show _ = x 22 from rfl).trans d22
      generalize (fE g ga g1 i p cr x13 k u x) = AA at *
      go_simp
      exact hK (.slice (some ⟨w2.heap.size, 0, none⟩) 1 1) _ none (grown_alloc _ _) (.inl rfl) ((hj.grow (Grow.alloc (Grow.refl _) _)).next (by decide)) ⟨_, rfl, hj.sz, heap_alloc_new _ _⟩ (fun _ => .inr (.inr fun k hk => by cases hk; exact Nat.le_refl _))
    | 24, _, ho, hd0, hd =>
      cases ho
      intro K hK
      have d23 := hd ⟨23, .data⟩ (by simp) rfl rfl
      have d4 : x 4 = .slice A2 cps.length e2 := hd ⟨4, .data⟩ (by simp) rfl rfl
      have d5 : x 5 = .int .i64 (p + k : Nat) := hd ⟨5, .data⟩ (by simp) rfl rfl
      obtain ⟨h, e23, hlo, hblk⟩ := (show ∃ h, x 23 = .slice (some ⟨h, 0, none⟩) 1 1 ∧ U.heap.size ≤ h ∧ w2.heap[h]? = some (.cells (cpyC (copyOf sv t)).toArray 65 (0, 0)) from d23)
      have r2 := hj.r2 hd0
      have e245 : (fE g ga g1 i p cr x13 k u x).tmps[245]?.getD undef = .slice A2 cps.length e2 := (show _ = x 4 from rfl).trans d4
      have e246 : (fE g ga g1 i p cr x13 k u x).tmps[246]?.getD undef = .int .i64 (p + k : Nat) := (show _ = x 5 from rfl).trans d5
      have e264 : (fE g ga g1 i p cr x13 k u x).tmps[264]?.getD undef = .slice (some ⟨h, 0, none⟩) 1 1 := (show _ = x 23 from rfl).trans e23
      generalize (fE g ga g1 i p cr x13 k u x) = AA at *
      go_simp
      refine (insCpy_c cps (copyOf sv t) (base := base) (h := h) (k := p + k) (kz := (p : Int) + (k : Int)) w2 (by omega) rfl (Nat.le_trans hbU hj.sz) r2 hl hpk hblk (fun e => absurd ((hJ.r2 (by simp)).lt h e).2 (by omega))).mono ?_
      rintro e w4 ⟨v', rfl, ho, hgr, hw⟩
      refine hK v' w4 _ hgr (.inr (.inr ⟨rfl, rfl⟩)) (hj.called r2 (by rw [hds]; decide) hga hgr) ⟨ho, fun e => ?_⟩ (fun _ => .inr hw)
      rcases hw with h' | h'
      · exact hga (h' ▸ e)
      · have h1 := h' ga e
        have h2 := hj.sz
        omega
    | 25, _, ho, hd0, hd =>
      cases ho
      intro K hK
      have d0 : x 0 = .pointer (some ⟨g, 0, none⟩) := hd ⟨0, .data⟩ (by simp) rfl rfl
      have e241 : (fE g ga g1 i p cr x13 k u x).tmps[241]?.getD undef = .pointer (some ⟨g, 0, none⟩) := (show _ = x 0 from rfl).trans d0
      generalize (fE g ga g1 i p cr x13 k u x) = AA at *
      go_simp
      exact hK (.pointer (some ⟨g, 0, none⟩)) _ none (World.grownBy.refl _ _) (.inl rfl) (hj.next (by decide)) rfl (fun h => by cases h)
    | 26, _, ho, hd0, hd =>
      cases ho
      intro K hK
      have d25 : x 25 = .pointer (some ⟨g, 0, none⟩) := hd ⟨25, .data⟩ (by simp) rfl rfl
      have e266 : (fE g ga g1 i p cr x13 k u x).tmps[266]?.getD undef = .pointer (some ⟨g, 0, none⟩) := (show _ = x 25 from rfl).trans d25
      generalize (fE g ga g1 i p cr x13 k u x) = AA at *
      go_simp
      exact hK (.pointer (some ⟨g, 2, none⟩)) _ none (World.grownBy.refl _ _) (.inl rfl) (hj.next (by decide)) rfl (fun h => by cases h)
    | n + 27, hi, _, _, _ => omega
  · intro d x w2 hg hj hall K hK
    have d24 : w2.ownsRow base 65 7 (x 24) (putIn (p + k) [copyOf sv t] cps).length ((putIn (p + k) [copyOf sv t] cps).flatMap cpyC) ∧ (x 24).ownBlock ≠ some ga := hall 24 (by omega) fun j hj => by simp [eats47]
    have d26 : x 26 = .pointer (some ⟨g, 2, none⟩) := hall 26 (by omega) fun j hj => by simp [eats47]
    obtain ⟨B', c', hx, -, -⟩ := own_rows cpyC_len rfl d24.1
    have HF := Lib.hid (FIN.out d (x 24) (fun j => (fE g ga g1 i p cr x13 k u x).tmps.getD j undef) w2 hg hj d24.1 d24.2)
    have HK := Lib.hid hK
    have HE := Lib.hid (show fE g ga g1 i p cr x13 k u x = fD g ga g1 i p cr x13 k (fun j => (fE g ga g1 i p cr x13 k u x).tmps.getD j undef) by kernel_rfl)
    obtain ⟨q0, q1, q2, q3⟩ := box4 hj.B
    have f2 := frozen_of_row w2 _ 2 _ _ hj.B
    have e267 : (fE g ga g1 i p cr x13 k u x).tmps[267]?.getD undef = .pointer (some ⟨g, 2, none⟩) := (show _ = x 26 from rfl).trans d26
    have e265 : (fE g ga g1 i p cr x13 k u x).tmps[265]?.getD undef = .slice B' _ c' := (show _ = x 24 from rfl).trans hx
    rw [hx] at HF
    generalize (putIn (p + k) [copyOf sv t] cps).length = LL at HF e265
    clear hall hK FIN d24 d26 hx hj
    generalize fE g ga g1 i p cr x13 k u x = AA at *
    go_simp
    refine HK.out _ _ ?_
    rw [HE.out]
    exact HF.out

end Go.Proofs.Ytnmknkdbeccmhaa
namespace Go.Proofs.Ytnmknkdbeccmhaa
open Go.RowKit
set_option linter.unusedSimpArgs false
set_option linter.unusedVariables false
set_option maxRecDepth 1000000
set_option maxHeartbeats 2000000
noncomputable def ac9 : Code := match headOf (restOf (restOf acl8b)) with | .block _ c => c | _ => .skip
section
variable {b cur : Book} {cps : List Cpy} {a : SAct} {s : Svc} {ct : Cnt} {i : Nat} {Ae A2 A3 : Option Addr} {ce e1 e2 e3 g g1 ga gn base : Nat} {w1 U V : World} {x13 x14 : Value} {u : Nat → Value}
theorem acRd8 {n k p : Nat} (S : AcSt a Ae (some ⟨g1, 0, none⟩) A2 A3 ce e1 e2 e3 g ga base w1 ⟨b.now + 1, b.svcs.set i { scaled a s with version := b.now + 1, next := s.next + (k : Nat) }, (putIn (place s.name cps) (news s (b.now + 1) k) cps), b.brs⟩ V) (hp : Hid (p = place s.name cps)) (hil : i < b.svcs.length) (hn2 : n ≤ 20) (hk : k ≤ n) (hl : cps.length ≤ 200) (hnw : 0 ≤ b.now ∧ b.now < 1000000) (hx : 1 ≤ s.next ∧ s.next + (n : Nat) ≤ 1000000) {Q : Exit → Act → World → Prop}
    (out : ∀ u V, (∃ A2 e2, AcSt a Ae (some ⟨g1, 0, none⟩) A2 A3 ce e1 e2 e3 g ga base w1 ⟨b.now + 1, b.svcs.set i { scaled a s with version := b.now + 1, next := s.next + (n : Nat) }, (putIn (place s.name cps) (news s (b.now + 1) n) cps), b.brs⟩ V) → Q (.exit 8) (fD g ga g1 i p (n : Nat) x13 n u) V) :
    acl8b.wp Try.prog (Exit.then (Again (fun k u => fD g ga g1 i p (n : Nat) x13 k u) (fun k V => ∃ A2 e2, AcSt a Ae (some ⟨g1, 0, none⟩) A2 A3 ce e1 e2 e3 g ga base w1 ⟨b.now + 1, b.svcs.set i { scaled a s with version := b.now + 1, next := s.next + (k : Nat) }, (putIn (place s.name cps) (news s (b.now + 1) k) cps), b.brs⟩ V) n k) Q) (fD g ga g1 i p (n : Nat) x13 k u) V := by
  have OUT := Lib.hid out
  clear out
  have z1 : (0 : Int) ≤ (k : Nat) := by omega
  refine wp_seq' (headOf acl8b) (restOf acl8b) (by kernel_rfl) ?_
  conv => arg 2; whnf
  unfold fD
  by_cases hlt : k < n
  · have z2 : ((k : Nat) : Int) < (n : Nat) := by omega
    go_wp2
    refine wp_seq' (headOf (restOf acl8b)) (restOf (restOf acl8b)) (by kernel_rfl) ?_
    conv => arg 2; whnf
    go_wp2
    refine reframe (fun u => fD g ga g1 i p (n : Nat) x13 k u) (by kernel_rfl) ?_
    intro u
    refine wp_seq' (headOf (restOf (restOf acl8b))) (restOf (restOf (restOf acl8b))) (by kernel_rfl) ?_
    refine wp_block' 9 ac9 (by kernel_rfl) ?_
    refine wp_seq' ac47 (restOf ac9) (by kernel_rfl) ?_
    have hlen := putIn_length (s := s) (t := b.now + 1) (cps := cps) k
    have hpl : p ≤ cps.length := by rw [hp.out]; exact place_le s.name cps
    have hco : copyOf ({ scaled a s with version := b.now + 1, next := s.next + (k : Nat) }) (b.now + 1) = newCpy s (b.now + 1) k := by unfold copyOf newCpy scaled; split <;> rfl
    have hlow := S.M.low
    have hgl := blk_lt S.M.box
    refine chain47 (t := b.now + 1) (svcs := b.svcs.set i { scaled a s with version := b.now + 1, next := s.next + (k : Nat) }) (sv := { scaled a s with version := b.now + 1, next := s.next + (k : Nat) }) (cps := (putIn (place s.name cps) (news s (b.now + 1) k) cps)) (brs := b.brs) (base := base) (ga := ga) (w1 := w1) ⟨Nat.le_refl _, S.X, S.M.box, S.M.rows.r1, S.M.rows.r3, fun _ => S.M.rows.r2⟩ (Lib.hid (by simp [hil])) S.G S.hb (by omega) S.k2 (blk_lt S.X) (by omega) (by omega) ?_
    intro d v u V2 hg hj ho hga
    have hput : putIn (p + k) [newCpy s (b.now + 1) k] (putIn (place s.name cps) (news s (b.now + 1) k) cps) = (putIn (place s.name cps) (news s (b.now + 1) (k + 1)) cps) := by rw [hp.out]; exact news_put k
    rw [hco, hput] at ho
    obtain ⟨B', c', rfl, -, -⟩ := own_rows cpyC_len rfl ho
    have K : Keep g V2 (V2.setCell ⟨g, 2, none⟩ (.slice B' (putIn (place s.name cps) (news s (b.now + 1) (k + 1)) cps).length c')) := Keep.set (Keep.refl g V2) rfl _
    have hb1 := S.hb
    have M5 : Mine base g (V2.setCell ⟨g, 2, none⟩ (.slice B' (putIn (place s.name cps) (news s (b.now + 1) (k + 1)) cps).length c')) (.slice (some ⟨g1, 0, none⟩) (b.svcs.set i { scaled a s with version := b.now + 1, next := s.next + (k : Nat) }).length e1) (.slice B' (putIn (place s.name cps) (news s (b.now + 1) (k + 1)) cps).length c') (.slice A3 b.brs.length e3) ⟨b.now + 1, b.svcs.set i { scaled a s with version := b.now + 1, next := s.next + (k : Nat) }, (putIn (place s.name cps) (news s (b.now + 1) (k + 1)) cps), b.brs⟩ :=
      ⟨blk_set hj.B 2 _, hlow, ⟨hj.r1.kept K (.inr fun e => heap_ne hj.r1 hj.B (by decide) e.symm), ho.kept K (.inr fun e => heap_ne ho hj.B (by decide) e.symm), hj.r3.kept K (.inr fun e => heap_ne hj.r3 hj.B (by decide) e.symm)⟩⟩
    have S5 : AcSt a Ae (some ⟨g1, 0, none⟩) B' A3 ce e1 c' e3 g ga base w1 ⟨b.now + 1, b.svcs.set i { scaled a s with version := b.now + 1, next := s.next + (k : Nat) }, (putIn (place s.name cps) (news s (b.now + 1) (k + 1)) cps), b.brs⟩ (V2.setCell ⟨g, 2, none⟩ (.slice B' (putIn (place s.name cps) (news s (b.now + 1) (k + 1)) cps).length c')) :=
      ⟨Keep.grow K hg (by omega), S.hb, S.oa, S.ng, S.k1, hga, S.k3, Keep.blk K hj.X S.ng, M5, S.R4⟩
    clear M5 K hj ho hg
    show (restOf ac9).wp Try.prog _ _ _
    refine rename ?_
    intro V5 hV5
    have S6 : Hid (AcSt a Ae (some ⟨g1, 0, none⟩) B' A3 ce e1 c' e3 g ga base w1 ⟨b.now + 1, b.svcs.set i { scaled a s with version := b.now + 1, next := s.next + (k : Nat) }, (putIn (place s.name cps) (news s (b.now + 1) (k + 1)) cps), b.brs⟩ V5) := Lib.hid (hV5.out ▸ S5)
    clear hV5 S5
    conv => arg 2; whnf
    unfold fD
    obtain ⟨-, -, -, -, -, -, s7, -⟩ := S6.out.svc (i := i) (c := { scaled a s with version := b.now + 1, next := s.next + (k : Nat) }) (by simp [hil])
    have f7 := S6.out.free (by simpa using hil) (i * 13 + 7)
    have P7 := Lib.hid (S6.out.put1 (i := i) (r := 7) (v := .int .i64 (s.next + (k : Nat) + 1)) (c := { scaled a s with version := b.now + 1, next := s.next + (k : Nat) }) (c' := { scaled a s with version := b.now + 1, next := s.next + ((k + 1 : Nat) : Int) }) (by simp [hil]) (by decide) (by simp [svcC, Int.add_assoc]))
    go_wp2
    refine rename ?_
    intro V6 hV6
    have S7 := P7.out
    simp only [List.set_set] at S7
    rw [← hV6.out] at S7
    have HS7 := Lib.hid S7
    clear S7 P7 hV6 s7 f7
    conv => arg 2; whnf
    go_wp2
    exact again (k + 1) (by kernel_rfl) (by omega) (by omega) ⟨B', c', HS7.out⟩
  · obtain rfl : k = n := by omega
    have z2 : decide ((k : Int) < (k : Nat)) = false := by simp
    go_wp2
    refine wp_seq' (headOf (restOf acl8b)) (restOf (restOf acl8b)) (by kernel_rfl) ?_
    conv => arg 2; whnf
    go_wp2
    refine requit (fun u => fD g ga g1 i p (k : Nat) x13 k u) (by kernel_rfl) ?_
    intro u
    exact OUT.out _ _ ⟨A2, e2, S⟩
theorem acT45 {n p : Nat} (S : AcSt a Ae (some ⟨g1, 0, none⟩) A2 A3 ce e1 e2 e3 g ga base w1 ⟨b.now + 1, b.svcs.set i { scaled a s with version := b.now + 1 }, cps, b.brs⟩ U) (hn : Hid (a.create = (n : Nat))) (hp : Hid (p = place s.name cps)) (hil : i < b.svcs.length) (hn2 : n ≤ 20) (hl : cps.length ≤ 200) (hnw : 0 ≤ b.now ∧ b.now < 1000000) (hx : 1 ≤ s.next ∧ s.next + (n : Nat) ≤ 1000000)
    (next : ∀ u V, (∃ A2 e2, AcSt a Ae (some ⟨g1, 0, none⟩) A2 A3 ce e1 e2 e3 g ga base w1 ⟨b.now + 1, b.svcs.set i { scaled a s with version := b.now + 1, next := s.next + (n : Nat) }, (putIn (place s.name cps) (news s (b.now + 1) n) cps), b.brs⟩ V) → ac51.wp Try.prog (bodyPost Try.prog Try.f102 (Acted b a g base w1)) (fC g ga g1 i x13 (.int .i64 (p + n : Nat)) u) V) :
    ac45.wp Try.prog (bodyPost Try.prog Try.f102 (Acted b a g base w1)) (fC g ga g1 i x13 (.int .i64 (p : Nat)) u) U := by
  have NX := Lib.hid next
  clear next
  refine wp_seq' (headOf ac45) ac51 (by kernel_rfl) ?_
  refine wp_seq' (headOf (headOf ac45)) (restOf (headOf ac45)) (by kernel_rfl) ?_
  conv => arg 2; whnf
  unfold fC
  obtain ⟨-, -, a2, -⟩ := S.cells
  rw [hn.out] at a2
  go_wp2
  refine reframe (fun u => fD g ga g1 i p (n : Nat) x13 0 u) (by kernel_rfl) ?_
  intro u
  refine wp_block' 8 (.loop acl8b) (by kernel_rfl) ?_
  refine wp_loopN (fun k u => fD g ga g1 i p (n : Nat) x13 k u) (fun k V => ∃ A2 e2, AcSt a Ae (some ⟨g1, 0, none⟩) A2 A3 ce e1 e2 e3 g ga base w1 ⟨b.now + 1, b.svcs.set i { scaled a s with version := b.now + 1, next := s.next + (k : Nat) }, (putIn (place s.name cps) (news s (b.now + 1) k) cps), b.brs⟩ V) n (fun a => (intOf (a.tmps.getD 239 undef)).toNat) (fun _ _ => rfl) 0 u rfl (Nat.zero_le _) ⟨A2, e2, ?_⟩ ?_
  · have h : (putIn (place s.name cps) (news s (b.now + 1) 0) cps) = cps := putIn_none _ _
    rw [h]
    have hsx : (scaled a s).next = s.next := by unfold scaled; split <;> rfl
    simpa [← hsx] using S
  · rintro k u V hk ⟨A2', e2', S'⟩
    refine acRd8 S' hp hil hn2 hk hl hnw hx ?_
    intro u V hV
    refine inBlock_out ?_
    show ac51.wp Try.prog _ _ _
    refine reframe (fun u => fC g ga g1 i x13 (.int .i64 (p + n : Nat)) u) (by kernel_rfl) ?_
    intro u
    exact NX.out _ _ hV

end
end Go.Proofs.Ytnmknkdbeccmhaa
namespace Go.Proofs.Ytnmknkdbeccmhaa
open Go.RowKit
set_option linter.unusedSimpArgs false
set_option linter.unusedVariables false
set_option maxRecDepth 1000000
set_option maxHeartbeats 2000000
theorem act1_c (x : Svc) (nm : ByteArray) {ga : Nat} (w : World) (h : w.cell? ⟨ga, 0, none⟩ = some (.string nm)) : Calls Try.prog 138 #[.agg (svcC x).toArray, .pointer (some ⟨ga, 0, none⟩)] w fun e w' => e = .returned (.bool (eqN x.name nm)) ∧ Grow w w' := by
  have hga := World.block_lt_of_cell? w _ h
  unfold svcC
  go_enter Try.func138, Try.ntmps138
  go_wp2
  go_ret
  exact ⟨rfl, by (repeat (first | with_reducible exact Grow.refl _ | with_reducible assumption | with_reducible refine Grow.drew ?_ | with_reducible refine Grow.alloc ?_ _ | (with_reducible refine Grow.set ?_ ?_ _; rotate_left; (first | (dsimp only; omega) | (simp <;> omega)))))⟩
/-- The one of the name struck out is the one at its place struck out. -/
theorem drop_one {nm : ByteArray} : ∀ {xs : List Svc} {i : Nat}, NoTwice xs → svcAt xs nm = some i → xs.filter (fun x => !eqN x.name nm) = xs.eraseIdx i
  | [], i, _, h => by simp [svcAt, fIdx] at h
  | x :: xs, i, hn, h => by
    have hn' : NoTwice xs := fun a b p q h1 h2 h3 => by
      have := hn (a + 1) (b + 1) p q (by simpa using h1) (by simpa using h2) h3
      omega
    rw [svcAt_cons] at h
    by_cases hx : eqN x.name nm = true
    · rw [if_pos hx] at h
      obtain rfl := Option.some.inj h
      have hr : xs.filter (fun x => !eqN x.name nm) = xs := List.filter_eq_self.2 fun y hy => by
        obtain ⟨k, hk⟩ := List.mem_iff_getElem?.1 hy
        cases he : eqN y.name nm with
        | false => rfl
        | true =>
          have := hn 0 (k + 1) x y rfl (by simpa using hk) ((eqN_iff.1 hx).trans (eqN_iff.1 he).symm)
          omega
      simp [List.filter_cons, hx, hr]
    · rw [if_neg hx] at h
      obtain ⟨k, hk, rfl⟩ := Option.map_eq_some_iff.1 h
      have := drop_one hn' hk
      simp only [Bool.not_eq_true] at hx
      simp [List.filter_cons, hx, this]
noncomputable def ac51r : Code := restOf (headOf ac51)
section
variable {b cur : Book} {cps : List Cpy} {a : SAct} {s : Svc} {ct : Cnt} {i : Nat} {Ae A2 A3 : Option Addr} {ce e1 e2 e3 g g1 ga gn base : Nat} {w1 U V : World} {x13 x14 : Value} {u : Nat → Value}
theorem acT53 (HA : Hid (actV b a = (cur, 0))) (M : ∃ v1 v2 v3, Mine base g U v1 v2 v3 cur) (hG : Grow w1 U) : ac53.wp Try.prog (bodyPost Try.prog Try.f102 (Acted b a g base w1)) (fC g ga g1 i x13 x14 u) U := by
  have HM := Lib.hid M
  have HG := Lib.hid hG
  clear M hG
  conv => arg 2; whnf
  unfold fC
  go_wp2
  go_ret
  unfold Acted
  rw [HA.out]
  exact ⟨rfl, HG.out, fun _ => HM.out⟩
theorem acT51 (S : AcSt a Ae (some ⟨g1, 0, none⟩) A2 A3 ce e1 e2 e3 g ga base w1 cur U) (hcl : cur.svcs.length ≤ 1000000) (HN : Hid (a.drop = false → actV b a = (cur, 0))) (HY : Hid (a.drop = true → actV b a = ({ cur with svcs := cur.svcs.filter fun x => !eqN x.name a.service }, 0))) :
    ac51.wp Try.prog (bodyPost Try.prog Try.f102 (Acted b a g base w1)) (fC g ga g1 i x13 x14 u) U := by
  have HS := Lib.hid S
  refine wp_seq' (headOf ac51) ac53 (by kernel_rfl) ?_
  refine wp_seq' (headOf (headOf ac51)) (restOf (headOf ac51)) (by kernel_rfl) ?_
  conv => arg 2; whnf
  unfold fC
  obtain ⟨-, -, -, -, -, -, -, a7⟩ := S.cells
  rcases hd : a.drop with _ | _
  · rw [hd] at a7
    have HN2 := Lib.hid (HN.out hd)
    clear S hd
    go_wp2
    conv => arg 2; whnf
    go_wp2
    refine reframe (fun u => fC g ga g1 i x13 x14 u) (by kernel_rfl) ?_
    intro u
    exact acT53 HN2 ⟨_, _, _, HS.out.M⟩ HS.out.G
  · rw [hd] at a7
    have HY2 := Lib.hid (HY.out hd)
    obtain ⟨x0, x1, x2, x3⟩ := box4 S.M.box
    have hf1 := frozen_of_row U _ 1 _ _ S.M.box
    have eg : ∀ args w, (callFunc 138 args).run Try.prog w = .ok (.enter 138 args) w := fun _ _ => by kernel_rfl
    clear S hd
    go_wp2
    conv => arg 2; whnf
    go_wp2_with fail
    have k1 := HS.out.k1
    refine (DeleteSvc_c (base := base) (fun x => eqN x.name a.service) cur.svcs (.slice (some ⟨g1, 0, none⟩) cur.svcs.length e1) 138 #[.pointer (some ⟨ga, 0, none⟩)] U (fun W => W.heap[ga]? = some (.cells #[.string a.service, .int .i64 a.version, .int .i64 a.create, .int .i64 a.want, .int .i64 a.cool, .bool a.scale, .slice Ae a.ends.length ce, .bool a.drop] 77 (0, 0))) HS.out.X (fun W W' h hg => blk_grow h hg) (fun W W' h hg => (hg.block ga (blk_lt h) (Ne.symm k1)).trans h) eg (fun W x h => act1_c x a.service W (cell_of_row W _ 0 _ _ _ h)) HS.out.M.rows.r1 hcl).mono ?_
    rintro e w2 ⟨v', rfl, ho, hgb, -⟩
    obtain ⟨B', c', rfl, -, -⟩ := own_rows svcC_len rfl ho
    have M2 := HS.out.M.row1 hgb ho
    have hG := HS.out.M.grown1 HS.out.hb HS.out.G hgb
    have xb := HS.out.M.kept hgb (heap_ne HS.out.M.rows.r1 HS.out.M.box (by decide))
    obtain ⟨y0, y1, y2, y3⟩ := box4 xb
    have yf1 := frozen_of_row w2 _ 1 _ _ xb
    have hG2 : Grow w1 (w2.setCell ⟨g, 1, none⟩ (.slice B' (cur.svcs.filter fun x => !eqN x.name a.service).length c')) := Keep.grow (Keep.set (Keep.refl g w2) rfl _) hG (by have := HS.out.hb; have := HS.out.M.low; omega)
    have HM := Lib.hid M2
    have HG := Lib.hid hG2
    clear x0 x1 x2 x3 hf1 a7 ho hgb hG hG2 xb M2 eg
    go_wp2
    refine reframe (fun u => fC g ga g1 i x13 x14 u) (by kernel_rfl) ?_
    intro u
    exact acT53 HY2 ⟨_, _, _, HM.out⟩ HG.out
end
end Go.Proofs.Ytnmknkdbeccmhaa
namespace Go.Proofs.Ytnmknkdbeccmhaa
open Go.RowKit
set_option linter.unusedSimpArgs false
set_option linter.unusedVariables false
set_option maxRecDepth 1000000
set_option maxHeartbeats 2000000
def fAc (g ga : Nat) (u : Nat → Value) : Act := ⟨#[.pointer (some ⟨g, 0, none⟩), u 1, u 2, .pointer (some ⟨ga, 0, none⟩), u 4, u 5, u 6, u 7, u 8, u 9, u 10, u 11, u 12, u 13, u 14, u 15, u 16, u 17, u 18, u 19, u 20, u 21, u 22, u 23, u 24, u 25, u 26, u 27, u 28, u 29, u 30, u 31, u 32, u 33, u 34, u 35, u 36, u 37, u 38, u 39, u 40, u 41, u 42, u 43, u 44, u 45, u 46, u 47, u 48, u 49, u 50, u 51, u 52, u 53, u 54, u 55, u 56, u 57, u 58, u 59, u 60, u 61, u 62, u 63, u 64, u 65, u 66, u 67, u 68, u 69, u 70, u 71, u 72, u 73, u 74, u 75, u 76, u 77, u 78, u 79, u 80, u 81, u 82, u 83, u 84, u 85, u 86, u 87, u 88, u 89, u 90, u 91, u 92, u 93, u 94, u 95, u 96, u 97, u 98, u 99, u 100, u 101, u 102, u 103, u 104, u 105, u 106, u 107, u 108, u 109, u 110, u 111, u 112, u 113, u 114, u 115, u 116, u 117, u 118, u 119, u 120, u 121, u 122, u 123, u 124, u 125, u 126, u 127, u 128, u 129, u 130, u 131, u 132, u 133, u 134, u 135, u 136, u 137, u 138, u 139, u 140, u 141, u 142, u 143, u 144, u 145, u 146, u 147, u 148, u 149, u 150, u 151, u 152, u 153, u 154, u 155, u 156, u 157, u 158, u 159, u 160, u 161, u 162, u 163, u 164, u 165, u 166, u 167, u 168, u 169, u 170, u 171, u 172, u 173, u 174, u 175, u 176, u 177, u 178, u 179, u 180, u 181, u 182, u 183, u 184, u 185, u 186, u 187, u 188, u 189, u 190, u 191, u 192, u 193, u 194, u 195, u 196, u 197, u 198, u 199, u 200, u 201, u 202, u 203, u 204, u 205, u 206, u 207, u 208, u 209, u 210, u 211, u 212, u 213, u 214, u 215, u 216, u 217, u 218, u 219, u 220, u 221, u 222, u 223, u 224, u 225, u 226, u 227, u 228, u 229, u 230, u 231, u 232, u 233, u 234, u 235, u 236, u 237, u 238, u 239, u 240, u 241, u 242, u 243, u 244, u 245, u 246, u 247, u 248, u 249, u 250, u 251, u 252, u 253, u 254, u 255, u 256, u 257, u 258, u 259, u 260, u 261, u 262, u 263, u 264, u 265, u 266, u 267, u 268, u 269, u 270, u 271, u 272, u 273, u 274, u 275, u 276, u 277, u 278, u 279, u 280, u 281, u 282, u 283, u 284, u 285, u 286, u 287, u 288], []⟩
section
variable {b : Book} {a : SAct} {s : Svc} {i : Nat} {Ae A1 A2 A3 : Option Addr} {ce e1 e2 e3 g g1 ga base : Nat} {w1 U : World} {u : Nat → Value}
theorem acH1 (S : AcSt a Ae A1 A2 A3 ce e1 e2 e3 g ga base w1 b U) (hl : a.ends.length ≤ 2000000) (HR : Hid (formedB a = false → actV b a = (b, 2)))
    (next : Hid (formedB a = true) → ∀ u V, AcSt a Ae A1 A2 A3 ce e1 e2 e3 g ga base w1 b V → ac3.wp Try.prog (bodyPost Try.prog Try.f102 (Acted b a g base w1)) (fAc g ga u) V) : ac1.wp Try.prog (bodyPost Try.prog Try.f102 (Acted b a g base w1)) (fAc g ga u) U := by
  have NX := Lib.hid next
  clear next
  refine wp_seq' (headOf ac1) ac3 (by kernel_rfl) ?_
  conv => arg 2; whnf
  unfold fAc
  obtain ⟨a0, a1, a2, a3, a4, a5, a6, a7⟩ := S.cells
  rcases hf : formedB a
  · have HR := Lib.hid (HR.out hf)
    go_wp2_with (go_at_call 135; refine (formed_c a U S.ends hl).mono ?_; rw [hf]; rintro e w2 ⟨rfl, hg2⟩)
    go_ret
    exact Acted.refused HR (by decide) (S.G.trans hg2)
  · go_wp2_with (go_at_call 135; refine (formed_c a U S.ends hl).mono ?_; rw [hf]; rintro e w2 ⟨rfl, hg2⟩)
    refine reframe (fun u => fAc g ga u) (by kernel_rfl) ?_
    intro u
    exact NX.out hf _ _ (S.grow hg2)
theorem acH3 (S : AcSt a Ae A1 A2 A3 ce e1 e2 e3 g ga base w1 b U) (hl1 : b.svcs.length ≤ 2000000) {r : Option Addr} (hr : Hid (elemPtr 13 A1 (svcAt b.svcs a.service) = r))
    (next : ∀ u, ac4.wp Try.prog (bodyPost Try.prog Try.f102 (Acted b a g base w1)) (fB g ga (.pointer r) u) U) : ac3.wp Try.prog (bodyPost Try.prog Try.f102 (Acted b a g base w1)) (fAc g ga u) U := by
  have NX := Lib.hid next
  clear next
  refine wp_seq' (headOf ac3) ac4 (by kernel_rfl) ?_
  conv => arg 2; whnf
  unfold fAc
  obtain ⟨a0, -⟩ := S.cells
  go_wp2_with (go_at_call 71; refine (service_r b a.service U _ S.blk S.rows.1 hl1 hr.out).mono ?_; rintro e w2 ⟨rfl, rfl⟩)
  refine reframe (fun u => fB g ga (.pointer r) u) (by kernel_rfl) ?_
  intro u
  exact NX.out _
theorem acH4n (S : AcSt a Ae A1 A2 A3 ce e1 e2 e3 g ga base w1 b U) (HR : Hid (actV b a = (b, 3))) : ac4.wp Try.prog (bodyPost Try.prog Try.f102 (Acted b a g base w1)) (fB g ga (.pointer none) u) U := by
  refine wp_seq' (headOf ac4) ac6 (by kernel_rfl) ?_
  conv => arg 2; whnf
  unfold fB
  go_wp2
  go_ret
  exact Acted.refused HR (by decide) S.G
theorem acH4 {q : Addr} (next : ∀ u, ac6.wp Try.prog (bodyPost Try.prog Try.f102 (Acted b a g base w1)) (fB g ga (.pointer (some q)) u) U) : ac4.wp Try.prog (bodyPost Try.prog Try.f102 (Acted b a g base w1)) (fB g ga (.pointer (some q)) u) U := by
  have NX := Lib.hid next
  clear next
  refine wp_seq' (headOf ac4) ac6 (by kernel_rfl) ?_
  conv => arg 2; whnf
  unfold fB
  go_wp2
  refine reframe (fun u => fB g ga (.pointer (some q)) u) (by kernel_rfl) ?_
  intro u
  exact NX.out _
theorem acH12 (S : AcSt a Ae (some ⟨g1, 0, none⟩) A2 A3 ce e1 e2 e3 g ga base w1 b U) (hs : Hid (b.svcs[i]? = some s)) (HR : Hid (decide (s.version = a.version) = false → actV b a = (b, 4)))
    (next : Hid (decide (s.version = a.version) = true) → ∀ u V, AcSt a Ae (some ⟨g1, 0, none⟩) A2 A3 ce e1 e2 e3 g ga base w1 b V → ac14.wp Try.prog (bodyPost Try.prog Try.f102 (Acted b a g base w1)) (fB g ga (.pointer (some ⟨g1, i * 13, none⟩)) u) V) :
    ac12.wp Try.prog (bodyPost Try.prog Try.f102 (Acted b a g base w1)) (fB g ga (.pointer (some ⟨g1, i * 13, none⟩)) u) U := by
  have NX := Lib.hid next
  clear next
  refine wp_seq' (headOf ac12) ac14 (by kernel_rfl) ?_
  conv => arg 2; whnf
  unfold fB
  obtain ⟨-, s1, -⟩ := S.svc hs.out
  obtain ⟨-, a1, -⟩ := S.cells
  have s1 := cell_p s1
  have a1 := cell_p a1
  go_upto_region 12 with fail
  refine at_plus ?_
  rcases hcv : decide (s.version = a.version)
  all_goals
    have HD := Lib.hid hcv
    simp only [decide_eq_false_iff_not, decide_eq_true_eq] at hcv
    refine region_quiet ⟨_, rfl⟩ (by kernel_rfl) (by kernel_rfl) ?_
    repeat (first | go_big_quiet_step (fail) | quiet_step (fail))
    refine wpQuiet_nil ?_
    rintro w2 ⟨y, rfl⟩
  · have HR := Lib.hid (HR.out HD.out)
    go_wp2
    go_ret
    exact Acted.refused HR (by decide) (S.G.trans (Grow.wplus _ _))
  · go_wp2
    refine reframe (fun u => fB g ga (.pointer (some ⟨g1, i * 13, none⟩)) u) (by kernel_rfl) ?_
    intro u
    exact NX.out HD _ _ (S.grow (Grow.wplus _ _))
end
end Go.Proofs.Ytnmknkdbeccmhaa
namespace Go.Proofs.Ytnmknkdbeccmhaa
open Go.RowKit
set_option linter.unusedSimpArgs false
set_option linter.unusedVariables false
set_option maxRecDepth 1000000
set_option maxHeartbeats 2000000
section
variable {b : Book} {a : SAct} {s : Svc} {i : Nat} {Ae A1 A2 A3 : Option Addr} {ce e1 e2 e3 g g1 ga base : Nat} {w1 U : World} {u : Nat → Value}
/-- The act done: from where nothing is refused any more. -/
theorem actGo {cps : List Cpy} {x13 x14 : Value} (hv : valid b = true) (hfo : formedB a = true) (hq : svcAt b.svcs a.service = some i) (hs : b.svcs[i]? = some s) (hcl : cps.length ≤ 200) (hnm : s.name = a.service ∨ eqN s.name a.service = true)
    (HA : actV b a = (actDone b ⟨b.now, b.svcs, cps, b.brs⟩ a s i, 0)) (h3 : d3 b a s cps.length = false) (S : AcSt a Ae (some ⟨g1, 0, none⟩) A2 A3 ce e1 e2 e3 g ga base w1 ⟨b.now, b.svcs.set i (scaled a s), cps, b.brs⟩ U) : ac40.wp Try.prog (bodyPost Try.prog Try.f102 (Acted b a g base w1)) (fC g ga g1 i x13 x14 u) U := by
  have hf := fit_of_valid hv
  have hil : i < b.svcs.length := (List.getElem?_eq_some_iff.1 hs).1
  have hnum := hf.num s (List.mem_of_getElem? hs)
  have hnow := hf.now
  obtain ⟨hc0, hc1⟩ := formed_create hfo
  unfold d3 at h3
  simp only [Bool.or_eq_false_iff, decide_eq_false_iff_not] at h3
  obtain ⟨h31, h32, h33⟩ := h3
  have hn : a.create = (a.create.toNat : Nat) := by omega
  obtain ⟨n, hnn⟩ : ∃ n, a.create.toNat = n := ⟨_, rfl⟩
  rw [hnn] at hn
  have l1 := hf.l1
  refine acT40 S hil (by omega) ?_
  intro u V S
  have hsn : ({ scaled a s with version := b.now + 1 } : Svc).name = s.name := by unfold scaled; split <;> rfl
  refine acT43 (p := place s.name cps) rfl S hil hsn hcl ?_
  intro u V S
  have hnx : 1 ≤ s.next ∧ s.next + (n : Nat) ≤ 1000000 := by unfold SvcNum at hnum; omega
  refine acT45 (n := n) S hn rfl hil (by omega) hcl (by omega) hnx ?_
  rintro u V ⟨A2', e2', S⟩
  have hX : ({ scaled a s with version := b.now + 1, next := s.next + (n : Nat) } : Svc) = grownS a (b.now + 1) s := by unfold grownS; rw [hn]
  rw [hX] at S
  have hgn : (grownS a (b.now + 1) s).name = s.name := by unfold grownS scaled; split <;> rfl
  refine acT51 S (by simp; omega) ?_ ?_
  · intro hd
    rw [HA]
    unfold actDone
    simp only [hd, hnn]
    rfl
  · intro hd
    rw [HA]
    unfold actDone
    have := drop_one (set_noTwice (x := grownS a (b.now + 1) s) hs hgn (valid_noTwice hv)) ((set_svcAt (nm := a.service) hs hgn).trans hq)
    simp only [hd, hnn]
    rw [this, set_erase]
    rfl
theorem actRun (hv : valid b = true) (l4 : a.ends.length ≤ 2000000) (S : AcSt a Ae A1 A2 A3 ce e1 e2 e3 g ga base w1 b U) : ac1.wp Try.prog (bodyPost Try.prog Try.f102 (Acted b a g base w1)) (fAc g ga u) U := by
  have hf := fit_of_valid hv
  have l1 := hf.l1
  have l2 := hf.l2
  have hnow := hf.now
  refine acH1 S l4 (fun h => actV_2 h) ?_
  intro hfo u V S
  rcases hq : svcAt b.svcs a.service with _ | i
  · refine acH3 S (by omega) (r := none) (by unfold Hid; rw [hq]; rfl) ?_
    intro u
    exact acH4n S (actV_3 hfo hq)
  · obtain ⟨s, hs, hn⟩ := fIdx_some0 hq
    have hil : i < b.svcs.length := (List.getElem?_eq_some_iff.1 hs).1
    have hnum := hf.num s (List.mem_of_getElem? hs)
    obtain ⟨g1, rfl, -⟩ := own_head (xs := b.svcs) S.M.rows.r1 (by intro e; rw [e] at hil; simp at hil)
    refine acH3 S (by omega) (r := some ⟨g1, i * 13, none⟩) (by unfold Hid; rw [hq]; simp [elemPtr]) ?_
    intro u
    refine acH4 ?_
    intro u
    have HA := actV_go hfo hq hs
    refine acLoop6 hf l4 S (fun h => by rw [HA, if_pos h]) ?_
    intro u V hT S
    rw [if_neg (by rw [hT.out]; decide)] at HA
    refine acH12 S hs (fun h => by rw [HA, if_pos h]) ?_
    intro hvv u V S
    rw [if_neg (by rw [hvv.out]; decide)] at HA
    refine acLoop14 hf l4 hT S (fun h => by rw [HA, if_pos h]) ?_
    intro u V hsm S
    rw [if_neg (by rw [hsm.out]; decide)] at HA
    refine acLoop20 hf l4 hs hq hT S (by simp [elemPtr]) HA ?_
    intro cps u V hE hF hcl S
    rw [hE.out] at HA
    have HA : actV b a = if whyNot b ⟨b.now, b.svcs, cps, b.brs⟩ a s = 0 then (actDone b ⟨b.now, b.svcs, cps, b.brs⟩ a s i, 0) else (b, whyNot b ⟨b.now, b.svcs, cps, b.brs⟩ a s) := HA
    have lc : cps.length ≤ 200 := by rw [hcl.out]; exact l2
    rw [whyNot_eq hfo hE.out hcl.out] at HA
    have bd := cntOf_bd (cps := cps) s.name s.image (by omega)
    obtain ⟨ct, hct⟩ : ∃ ct, cntOf cps s.name s.image = ct := ⟨_, rfl⟩
    rw [hct] at HA bd
    refine acT29 S hs (by omega) hct ?_
    intro gn u V hgn S XC
    have HA6 : (d0 b a s ct || (d1 a s || d2 a s ct)) = true → actV b a = (b, 6) := fun h => by rw [HA, if_pos h]; rfl
    refine acT30 S hs XC (by omega) (fun h => HA6 (by unfold d0; rw [h]; rfl)) ?_
    intro h0 u V S XC
    refine acT32 S hs XC (fun h => HA6 (by unfold d1; rw [h]; simp)) ?_ hgn
    intro h1 u V S XC
    refine acT36 S hs XC (formed_create hfo) (by omega) (scaled_want hf hfo hs) (by unfold SvcNum at hnum; omega) (fun h => HA6 (by unfold d2; rw [h]; simp)) ?_
    intro h2 u V S XC
    have e0 : d0 b a s ct = false := h0.out
    have e1 : d1 a s = false := h1.out
    have e2 : d2 a s ct = false := h2.out
    rw [e0, e1, e2] at HA
    simp only [Bool.or_false, Bool.false_eq_true, if_false] at HA
    refine acT38 S hs XC (formed_create hfo) lc hnow (by unfold SvcNum at hnum; omega) (fun h => by have h' : d3 b a s cps.length = true := h; rw [HA, h']; rfl) ?_
    intro h3 u V S
    have h3' : d3 b a s cps.length = false := h3.out
    rw [h3'] at HA
    simp only [Bool.false_eq_true, if_false, if_true] at HA
    exact actGo hv hfo hq hs lc (.inr hn) HA h3' S
end
theorem act_c (b : Book) (a : SAct) {Ae A1 A2 A3 : Option Addr} {ce e1 e2 e3 g base : Nat} (w1 w : World) (hv : valid b = true) (hG : Grow w1 w) (hb : w1.heap.size ≤ base) (M : Mine base g w (.slice A1 b.svcs.length e1) (.slice A2 b.cps.length e2) (.slice A3 b.brs.length e3) b) (h4 : Rows 2 endC w1 Ae a.ends) (l4 : a.ends.length ≤ 2000000) :
    Calls Try.prog 102 #[.pointer (some ⟨g, 0, none⟩), .agg #[.string a.service, .int .i64 a.version, .int .i64 a.create, .int .i64 a.want, .int .i64 a.cool, .bool a.scale, .slice Ae a.ends.length ce, .bool a.drop]] w (Acted b a g base w1) := by
  have HM := Lib.hid M
  obtain ⟨n0, n1, n2, n3⟩ := M.ne (Nat.le_refl w.heap.size)
  clear M
  go_enter Try.func102, Try.ntmps102
  refine wp_seq' (headOf ((Try.f102.body).getD .skip)) ac1 (by kernel_rfl) ?_
  conv => arg 2; whnf
  go_wp2
  refine rename ?_
  intro W hW
  have GW := Lib.hid (show Grow w W from grow_eq hW (by (repeat (first | with_reducible exact Grow.refl _ | with_reducible assumption | with_reducible refine Grow.drew ?_ | with_reducible refine Grow.alloc ?_ _ | (with_reducible refine Grow.set ?_ ?_ _; rotate_left; (first | (dsimp only; omega) | (simp <;> omega)))))))
  have X := Lib.hid (heap_eq hW (heap_alloc_new w _))
  clear hW
  have S : AcSt a Ae A1 A2 A3 ce e1 e2 e3 g w.heap.size base w1 b W := ⟨hG.trans GW.out, hb, hG.size, n0, n1, n2, n3, X.out, HM.out.grow GW.out, h4⟩
  refine reframe (fun u => fAc g w.heap.size u) (by kernel_rfl) ?_
  intro u
  exact actRun hv l4 S
end Go.Proofs.Ytnmknkdbeccmhaa
