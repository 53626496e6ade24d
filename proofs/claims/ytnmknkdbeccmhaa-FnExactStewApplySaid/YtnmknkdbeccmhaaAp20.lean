/- The walk of the reference's l4Apply from region 41 on: new copies put in. Whole elements stored into the rows of a book of the call's own. -/
import Derived.Test.YtnmknkdbeccmhaaAp17
import Derived.Test.YtnmknkdbeccmhaaAp19
import Derived.Test.YtnmknkdbeccmhaaAp2
namespace Go.Proofs.Ytnmknkdbeccmhaa
open Go.RowKit
set_option linter.unusedSimpArgs false
set_option linter.unusedVariables false
set_option maxRecDepth 1000000
set_option maxHeartbeats 2000000
noncomputable def l4body : Code := (loop1 l4t41).getD .skip
noncomputable def l4blk : Code := headOf (restOf l4body)
noncomputable def l4in : Code := match l4blk with | .block _ c => c | _ => .skip
def fA (gb ga gr i g : Nat) (t : Int) (gs : Nat) (x15 x16 x17 : Value) (u : Nat → Value) : Act := ⟨#[u 0, u 1, .pointer (some ⟨gb, 0, none⟩), .pointer (some ⟨ga, 0, none⟩), .pointer (some ⟨gr, 0, none⟩), u 5, .int .i64 i, u 7, u 8, .pointer (some ⟨g, 0, none⟩), .int .i64 t, u 11, u 12, .pointer (some ⟨gs, 0, none⟩), u 14, x15, x16, x17, u 18, u 19, u 20, u 21, u 22, u 23, u 24, u 25, u 26, u 27, u 28, u 29, u 30, u 31, u 32, u 33, u 34, u 35, u 36, u 37, u 38, u 39, u 40, u 41, u 42, u 43, u 44, u 45, u 46, u 47, u 48, u 49, u 50, u 51, u 52, u 53, u 54, u 55, u 56, u 57, u 58, u 59, u 60, u 61, u 62, u 63, u 64, u 65, u 66, u 67, u 68, u 69, u 70, u 71, u 72, u 73, u 74, u 75, u 76, u 77, u 78, u 79, u 80, u 81, u 82, u 83, u 84, u 85, u 86, u 87, u 88, u 89, u 90, u 91, u 92, u 93, u 94, u 95, u 96, u 97, u 98, u 99, u 100, u 101, u 102, u 103, u 104, u 105, u 106, u 107, u 108, u 109, u 110, u 111, u 112, u 113, u 114, u 115, u 116, u 117, u 118, u 119, u 120, u 121, u 122, u 123, u 124, u 125, u 126, u 127, u 128, u 129, u 130, u 131, u 132, u 133, u 134, u 135, u 136, u 137, u 138, u 139, u 140, u 141, u 142, u 143, u 144, u 145, u 146, u 147, u 148, u 149, u 150, u 151, u 152, u 153, u 154, u 155, u 156, u 157, u 158, u 159, u 160, u 161, u 162, u 163, u 164, u 165, u 166, u 167, u 168, u 169, u 170, u 171, u 172, u 173, u 174, u 175, u 176, u 177, u 178, u 179, u 180, u 181, u 182, u 183, u 184, u 185, u 186, u 187, u 188, u 189, u 190, u 191, u 192, u 193, u 194, u 195, u 196, u 197, u 198, u 199, u 200, u 201, u 202, u 203, u 204, u 205, u 206, u 207, u 208, u 209, u 210, u 211, u 212, u 213, u 214, u 215, u 216, u 217, u 218, u 219, u 220, u 221, u 222, u 223, u 224, u 225, u 226, u 227, u 228, u 229, u 230, u 231, u 232, u 233, u 234, u 235, u 236, u 237, u 238, u 239, u 240, u 241, u 242, u 243, u 244, u 245, u 246, u 247, u 248, u 249, u 250, u 251, u 252, u 253, u 254, u 255, u 256, u 257, u 258, u 259, u 260, u 261, u 262, u 263, u 264, u 265, u 266, u 267, u 268, u 269, u 270, u 271, u 272, u 273, u 274, u 275, u 276, u 277, u 278, u 279, u 280, u 281, u 282, u 283, u 284, u 285, u 286, u 287, u 288, u 289, u 290, u 291, u 292, u 293, u 294, u 295, u 296, u 297, u 298, u 299, u 300, u 301, u 302], []⟩

def fX (gb ga gr i g : Nat) (t : Int) (gs gc p : Nat) (x15 : Value) (u x : Nat → Value) : Act := ⟨#[u 0, u 1, .pointer (some ⟨gb, 0, none⟩), .pointer (some ⟨ga, 0, none⟩), .pointer (some ⟨gr, 0, none⟩), u 5, .int .i64 i, u 7, u 8, .pointer (some ⟨g, 0, none⟩), .int .i64 t, u 11, u 12, .pointer (some ⟨gs, 0, none⟩), u 14, x15, .pointer (some ⟨gc, 0, none⟩), .int .i64 (p : Nat), u 18, u 19, u 20, u 21, u 22, u 23, u 24, u 25, u 26, u 27, u 28, u 29, u 30, u 31, u 32, u 33, u 34, u 35, u 36, u 37, u 38, u 39, u 40, u 41, u 42, u 43, u 44, u 45, u 46, u 47, u 48, u 49, u 50, u 51, u 52, u 53, u 54, u 55, u 56, u 57, u 58, u 59, u 60, u 61, u 62, u 63, u 64, u 65, u 66, u 67, u 68, u 69, u 70, u 71, u 72, u 73, u 74, u 75, u 76, u 77, u 78, u 79, u 80, u 81, u 82, u 83, u 84, u 85, u 86, u 87, u 88, u 89, u 90, u 91, u 92, u 93, u 94, u 95, u 96, u 97, u 98, u 99, u 100, u 101, u 102, u 103, u 104, u 105, u 106, u 107, u 108, u 109, u 110, u 111, u 112, u 113, u 114, u 115, u 116, u 117, u 118, u 119, u 120, u 121, u 122, u 123, u 124, u 125, u 126, u 127, u 128, u 129, u 130, u 131, u 132, u 133, u 134, u 135, u 136, u 137, u 138, u 139, u 140, u 141, u 142, u 143, u 144, u 145, u 146, u 147, u 148, u 149, u 150, u 151, u 152, u 153, u 154, u 155, u 156, u 157, u 158, u 159, u 160, u 161, u 162, u 163, u 164, u 165, u 166, u 167, u 168, u 169, u 170, u 171, u 172, u 173, u 174, u 175, u 176, u 177, u 178, u 179, u 180, u 181, u 182, u 183, u 184, u 185, u 186, u 187, u 188, u 189, u 190, u 191, u 192, u 193, u 194, u 195, u 196, u 197, u 198, u 199, u 200, u 201, u 202, u 203, u 204, u 205, u 206, u 207, u 208, u 209, u 210, u 211, u 212, u 213, u 214, u 215, u 216, u 217, u 218, u 219, u 220, u 221, u 222, u 223, u 224, u 225, u 226, u 227, u 228, u 229, u 230, u 231, u 232, u 233, u 234, u 235, u 236, u 237, u 238, u 239, u 240, u 241, u 242, u 243, u 244, u 245, u 246, u 247, u 248, u 249, u 250, u 251, u 252, u 253, u 254, u 255, u 256, u 257, u 258, x 0, x 1, x 2, x 3, x 4, x 5, x 6, x 7, x 8, x 9, x 10, x 11, x 12, x 13, x 14, u 274, u 275, u 276, u 277, u 278, u 279, u 280, u 281, u 282, u 283, u 284, u 285, u 286, u 287, u 288, u 289, u 290, u 291, u 292, u 293, u 294, u 295, u 296, u 297, u 298, u 299, u 300, u 301, u 302], []⟩
def PhiR48 (cps : List Cpy) (c : Cpy) (B2 : Option Addr) (n2 e2 p g : Nat) (base : Nat) : Nat → Value → World → Prop
  | 0, v, w => (∃ g, v = .slice (some ⟨g, 0, none⟩) 0 0) ∧ w.ownsRow base 65 7 v 0 []
  | 1, v, w => v = .pointer (some ⟨g, 2, none⟩)
  | 2, v, w => v = .slice B2 n2 e2
  | 3, v, w => v = .int .i64 (p : Nat)
  | 4, v, w => v = .slice B2 p e2
  | 5, v, w => w.ownsRow base 65 7 v (cps.take p).length ((cps.take p).flatMap cpyC)
  | 6, v, w => v = .agg (cpyC c).toArray
  | 7, v, w => ∃ h, v = .slice (some ⟨h, 0, none⟩) 1 1 ∧ base ≤ h ∧ w.heap[h]? = some (.cells (cpyC c).toArray 65 (0, 0))
  | 8, v, w => w.ownsRow base 65 7 v (cps.take p ++ [c]).length ((cps.take p ++ [c]).flatMap cpyC)
  | 9, v, w => v = .pointer (some ⟨g, 2, none⟩)
  | 10, v, w => v = .slice B2 n2 e2
  | 11, v, w => v = .int .i64 (p : Nat)
  | 12, v, w => v = .slice (if e2 = p then B2 else B2.map (·.add (p * 7))) (n2 - p) (e2 - p)
  | 13, v, w => w.ownsRow base 65 7 v (cps.take p ++ [c] ++ cps.drop p).length ((cps.take p ++ [c] ++ cps.drop p).flatMap cpyC)
  | 14, v, w => v = .pointer (some ⟨g, 2, none⟩)
  | _, _, _ => True
def madeR48 (i : Nat) : Bool := [0, 5, 7, 8, 13].contains i
def eatsR48 : Nat → Option Nat
  | 5 => some 0
  | 8 => some 5
  | 13 => some 8
  | _ => none
theorem kindsR48 (cps : List Cpy) (c : Cpy) (B2 : Option Addr) (n2 e2 p g : Nat) (W : World) : Kinds W (PhiR48 cps c B2 n2 e2 p g W.heap.size) madeR48 where
  still := by
    intro i v w w' hm h
    match i, hm, h with
    | 0, hm, h => cases hm
    | 1, hm, h => exact h
    | 2, hm, h => exact h
    | 3, hm, h => exact h
    | 4, hm, h => exact h
    | 5, hm, h => cases hm
    | 6, hm, h => exact h
    | 7, hm, h => cases hm
    | 8, hm, h => cases hm
    | 9, hm, h => exact h
    | 10, hm, h => exact h
    | 11, hm, h => exact h
    | 12, hm, h => exact h
    | 13, hm, h => cases hm
    | 14, hm, h => exact h
    | n + 15, _, _ => exact trivial
  kept := by
    intro i v w w' r hm h hg hr
    match i, hm, h with
    | 0, hm, h => exact ⟨h.1, h.2.kept hg hr⟩
    | 1, hm, h => cases hm
    | 2, hm, h => cases hm
    | 3, hm, h => cases hm
    | 4, hm, h => cases hm
    | 5, hm, h => exact World.ownsRow.kept h hg hr
    | 6, hm, h => cases hm
    | 7, hm, h => (obtain ⟨k, rfl, h1, h2⟩ := h; exact ⟨k, rfl, h1, (hg.block k (blk_lt h2) (by simpa [Value.ownBlock] using hr)).trans h2⟩)
    | 8, hm, h => exact World.ownsRow.kept h hg hr
    | 9, hm, h => cases hm
    | 10, hm, h => cases hm
    | 11, hm, h => cases hm
    | 12, hm, h => cases hm
    | 13, hm, h => exact World.ownsRow.kept h hg hr
    | 14, hm, h => cases hm
    | n + 15, hm, _ => exact trivial
  lt := by
    intro i v w k hm h hk
    match i, hm, h with
    | 0, hm, h => exact h.2.lt k hk
    | 1, hm, h => cases hm
    | 2, hm, h => cases hm
    | 3, hm, h => cases hm
    | 4, hm, h => cases hm
    | 5, hm, h => exact World.ownsRow.lt h k hk
    | 6, hm, h => cases hm
    | 7, hm, h => (obtain ⟨q, rfl, h1, h2⟩ := h; simp only [Value.ownBlock, Option.some.injEq] at hk; subst hk; exact ⟨h1, blk_lt h2⟩)
    | 8, hm, h => exact World.ownsRow.lt h k hk
    | 9, hm, h => cases hm
    | 10, hm, h => cases hm
    | 11, hm, h => cases hm
    | 12, hm, h => cases hm
    | 13, hm, h => exact World.ownsRow.lt h k hk
    | 14, hm, h => cases hm
    | n + 15, hm, h => simp [madeR48] at hm
theorem chainR48 (cps : List Cpy) (c : Cpy) {B2 : Option Addr} {n2 e2 p g gb ga gr i gs gc N1 c1 N3 c3 : Nat} {A1 A3 : Option Addr} {t now : Int} {x15 : Value} {u : Nat → Value} {U : World} {Q : Exit → Act → World → Prop}
    (HB : Hid (U.heap[g]? = some (.cells #[.int .i64 now, .slice A1 N1 c1, .slice B2 n2 e2, .slice A3 N3 c3] 34 (0, 0)))) (HC : Hid (U.heap[gc]? = some (.cells (cpyC c).toArray 65 (0, 0)))) (hr : Rows 7 cpyC U B2 cps)
    (hn : n2 = cps.length) (hl : cps.length ≤ 2000000) (hc : n2 ≤ e2) (hp : p ≤ n2)
    (fin : ∀ v u V, V.ownsRow U.heap.size 65 7 v (cps.take p ++ [c] ++ cps.drop p).length ((cps.take p ++ [c] ++ cps.drop p).flatMap cpyC) → Grow U V → Q .normal (fA gb ga gr i g t gs x15 (.pointer (some ⟨gc, 0, none⟩)) (.int .i64 (p : Nat)) u) (V.setCell ⟨g, 2, none⟩ v)) :
    (headOf (fromR 48 l4in)).wp Try.prog Q (fA gb ga gr i g t gs x15 (.pointer (some ⟨gc, 0, none⟩)) (.int .i64 (p : Nat)) u) U := by
  obtain ⟨i2, hi2, hz2, hs2, hb2⟩ := info_parts info_Cpy
  have R2 := Lib.hid (fun (w' : World) (hg : Grow U w') => hr.below hg)
  have hN : n2 ≤ 2000000 := by omega
  have HN := Lib.hid hn
  have hn1 : n2 ≤ cps.length := by omega
  have hn2 : cps.length ≤ n2 := by omega
  clear hr hn
  conv => arg 2; whnf
  refine reframe (fun u => fX gb ga gr i g t gs gc p x15 u fun j => u (j + 259)) (by kernel_rfl) ?_
  intro u
  refine region_chain (W := U) (n := 15) madeR48 eatsR48 rfl rfl (by kernel_rfl) (PhiR48 cps c B2 n2 e2 p g U.heap.size) (fun x => fX gb ga gr i g t gs gc p x15 u x) (fun j => u (j + 259)) (by kernel_rfl) (by kernel_rfl) (by kernel_rfl) (by kernel_rfl) (Grow.refl _) (by kernel_rfl) (kindsR48 cps c B2 n2 e2 p g U) ?_ ?_ ?_
  · intro ii oo x v hi ho
    match ii, hi, ho with
    | 0, _, ho => cases ho; rfl
    | 1, _, ho => cases ho; rfl
    | 2, _, ho => cases ho; rfl
    | 3, _, ho => cases ho; rfl
    | 4, _, ho => cases ho; rfl
    | 5, _, ho => cases ho; rfl
    | 6, _, ho => cases ho; rfl
    | 7, _, ho => cases ho; rfl
    | 8, _, ho => cases ho; rfl
    | 9, _, ho => cases ho; rfl
    | 10, _, ho => cases ho; rfl
    | 11, _, ho => cases ho; rfl
    | 12, _, ho => cases ho; rfl
    | 13, _, ho => cases ho; rfl
    | 14, _, ho => cases ho; rfl
    | k + 15, hi, _ => omega
  · intro ii oo x w2 hi ho hg hd
    match ii, hi, ho, hd with
    | 0, _, ho, hd =>
      cases ho
      intro K hK
      generalize (fX gb ga gr i g t gs gc p x15 u x) = AA at *
      go_simp
      exact hK (.slice (some ⟨w2.heap.size, 0, none⟩) 0 0) _ none (grown_alloc _ _) (.inl rfl) ⟨⟨_, rfl⟩, own_base (own_empty w2 65 7) hg.size⟩ (fun _ => .inr (.inr fun k hk => by cases hk; exact Nat.le_refl _))
    | 1, _, ho, hd =>
      cases ho
      intro K hK
      have e9 : (fX gb ga gr i g t gs gc p x15 u x).tmps[9]?.getD undef = .pointer (some ⟨g, 0, none⟩) := rfl
      generalize (fX gb ga gr i g t gs gc p x15 u x) = AA at *
      go_simp
      exact hK (.pointer (some ⟨g, 2, none⟩)) _ none (World.grownBy.refl _ _) (.inl rfl) rfl (fun h => by cases h)
    | 2, _, ho, hd =>
      cases ho
      intro K hK
      have d1 : x 1 = .pointer (some ⟨g, 2, none⟩) := hd ⟨1, .data⟩ (by simp) rfl rfl
      obtain ⟨q0, q1, q2, q3⟩ := box4 (blk_grow HB.out hg)
      have e260 : (fX gb ga gr i g t gs gc p x15 u x).tmps[260]?.getD undef = .pointer (some ⟨g, 2, none⟩) := (show _ = x 1 from rfl).trans d1
      generalize (fX gb ga gr i g t gs gc p x15 u x) = AA at *
      go_simp
      exact hK (.slice B2 n2 e2) _ none (World.grownBy.refl _ _) (.inl rfl) rfl (fun h => by cases h)
    | 3, _, ho, hd =>
      cases ho
      intro K hK
      have e17 : (fX gb ga gr i g t gs gc p x15 u x).tmps[17]?.getD undef = .int .i64 (p : Nat) := rfl
      generalize (fX gb ga gr i g t gs gc p x15 u x) = AA at *
      go_simp
      exact hK (.int .i64 (p : Nat)) _ none (World.grownBy.refl _ _) (.inl rfl) rfl (fun h => by cases h)
    | 4, _, ho, hd =>
      cases ho
      intro K hK
      have d2 : x 2 = .slice B2 n2 e2 := hd ⟨2, .data⟩ (by simp) rfl rfl
      have d3 : x 3 = .int .i64 (p : Nat) := hd ⟨3, .data⟩ (by simp) rfl rfl
      have z1 : (0 : Int) ≤ (p : Nat) := by omega
      have z2 : ((p : Nat) : Int) ≤ (e2 : Nat) := by omega
      have e261 : (fX gb ga gr i g t gs gc p x15 u x).tmps[261]?.getD undef = .slice B2 n2 e2 := (show _ = x 2 from rfl).trans d2
      have e262 : (fX gb ga gr i g t gs gc p x15 u x).tmps[262]?.getD undef = .int .i64 (p : Nat) := (show _ = x 3 from rfl).trans d3
      generalize (fX gb ga gr i g t gs gc p x15 u x) = AA at *
      go_simp
      exact hK (.slice B2 p e2) _ none (World.grownBy.refl _ _) (.inl rfl) rfl (fun h => by cases h)
    | 5, _, ho, hd =>
      cases ho
      intro K hK
      have dv := hd ⟨0, .data⟩ (by simp) rfl rfl
      have da := hd ⟨4, .data⟩ (by simp) rfl rfl
      replace dv : w2.ownsRow U.heap.size 65 7 (x 0) 0 [] := dv.2
      refine wp_append_at (base := U.heap.size) (.tmp 259) (.tmp 263) 31 rfl 65 i2 _ Try.underlying31 hi2 hz2 hs2 hb2 rfl (by decide) cpyC_len cpyC_one (x 0) ([]) (cps.take p) rfl dv B2 p e2 da (by rw [List.length_take]; omega) ((R2.out _ hg).take p) (by unfold maxLen; simp only [List.length_append, List.length_take, List.length_drop, List.length_cons, List.length_nil]; omega) (by simp only [List.length_append, List.length_take, List.length_drop, List.length_cons, List.length_nil]; omega) hg.size ?_
      intro v' w' h2 h3 h4
      exact hK v' w' _ h3 (.inr ⟨0, rfl, rfl⟩) h2 (fun _ => .inr (h4.imp id fun h k hk => by rw [h] at hk; cases hk; exact Nat.le_refl _))
    | 6, _, ho, hd =>
      cases ho
      intro K hK
      obtain ⟨q0, q1, q2, q3, q4, q5, q6⟩ := cpy_blk (blk_grow HC.out hg)
      have e16 : (fX gb ga gr i g t gs gc p x15 u x).tmps[16]?.getD undef = .pointer (some ⟨gc, 0, none⟩) := rfl
      generalize (fX gb ga gr i g t gs gc p x15 u x) = AA at *
      go_simp
      exact hK (.agg (cpyC c).toArray) _ none (World.grownBy.refl _ _) (.inl rfl) rfl (fun h => by cases h)
    | 7, _, ho, hd =>
      cases ho
      intro K hK
      have d6 : x 6 = .agg (cpyC c).toArray := hd ⟨6, .data⟩ (by simp) rfl rfl
      have e265 : (fX gb ga gr i g t gs gc p x15 u x).tmps[265]?.getD undef = .agg (cpyC c).toArray := (show _ = x 6 from rfl).trans d6
      generalize (fX gb ga gr i g t gs gc p x15 u x) = AA at *
      go_simp
      exact hK (.slice (some ⟨w2.heap.size, 0, none⟩) 1 1) _ none (grown_alloc _ _) (.inl rfl) ⟨_, rfl, hg.size, heap_alloc_new _ _⟩ (fun _ => .inr (.inr fun k hk => by cases hk; exact Nat.le_refl _))
    | 8, _, ho, hd =>
      cases ho
      intro K hK
      have dv := hd ⟨5, .data⟩ (by simp) rfl rfl
      have da := hd ⟨7, .data⟩ (by simp) rfl rfl
      replace dv : w2.ownsRow U.heap.size 65 7 (x 5) (cps.take p).length ((cps.take p).flatMap cpyC) := dv
      obtain ⟨h7, e7, -, k7⟩ := da
      refine wp_append_at (base := U.heap.size) (.tmp 264) (.tmp 266) 31 rfl 65 i2 _ Try.underlying31 hi2 hz2 hs2 hb2 rfl (by decide) cpyC_len cpyC_one (x 5) (cps.take p) ([c]) rfl dv (some ⟨h7, 0, none⟩) 1 1 e7 rfl (Rows.one k7) (by unfold maxLen; simp only [List.length_append, List.length_take, List.length_drop, List.length_cons, List.length_nil]; omega) (by simp only [List.length_append, List.length_take, List.length_drop, List.length_cons, List.length_nil]; omega) hg.size ?_
      intro v' w' h2 h3 h4
      exact hK v' w' _ h3 (.inr ⟨5, rfl, rfl⟩) h2 (fun _ => .inr (h4.imp id fun h k hk => by rw [h] at hk; cases hk; exact Nat.le_refl _))
    | 9, _, ho, hd =>
      cases ho
      intro K hK
      have e9 : (fX gb ga gr i g t gs gc p x15 u x).tmps[9]?.getD undef = .pointer (some ⟨g, 0, none⟩) := rfl
      generalize (fX gb ga gr i g t gs gc p x15 u x) = AA at *
      go_simp
      exact hK (.pointer (some ⟨g, 2, none⟩)) _ none (World.grownBy.refl _ _) (.inl rfl) rfl (fun h => by cases h)
    | 10, _, ho, hd =>
      cases ho
      intro K hK
      have d9 : x 9 = .pointer (some ⟨g, 2, none⟩) := hd ⟨9, .data⟩ (by simp) rfl rfl
      obtain ⟨q0, q1, q2, q3⟩ := box4 (blk_grow HB.out hg)
      have e268 : (fX gb ga gr i g t gs gc p x15 u x).tmps[268]?.getD undef = .pointer (some ⟨g, 2, none⟩) := (show _ = x 9 from rfl).trans d9
      generalize (fX gb ga gr i g t gs gc p x15 u x) = AA at *
      go_simp
      exact hK (.slice B2 n2 e2) _ none (World.grownBy.refl _ _) (.inl rfl) rfl (fun h => by cases h)
    | 11, _, ho, hd =>
      cases ho
      intro K hK
      have e17 : (fX gb ga gr i g t gs gc p x15 u x).tmps[17]?.getD undef = .int .i64 (p : Nat) := rfl
      generalize (fX gb ga gr i g t gs gc p x15 u x) = AA at *
      go_simp
      exact hK (.int .i64 (p : Nat)) _ none (World.grownBy.refl _ _) (.inl rfl) rfl (fun h => by cases h)
    | 12, _, ho, hd =>
      cases ho
      intro K hK
      have d10 : x 10 = .slice B2 n2 e2 := hd ⟨10, .data⟩ (by simp) rfl rfl
      have d11 : x 11 = .int .i64 (p : Nat) := hd ⟨11, .data⟩ (by simp) rfl rfl
      have z1 : (0 : Int) ≤ (p : Nat) := by omega
      have z2 : ((p : Nat) : Int) ≤ (n2 : Nat) := by omega
      have e269 : (fX gb ga gr i g t gs gc p x15 u x).tmps[269]?.getD undef = .slice B2 n2 e2 := (show _ = x 10 from rfl).trans d10
      have e270 : (fX gb ga gr i g t gs gc p x15 u x).tmps[270]?.getD undef = .int .i64 (p : Nat) := (show _ = x 11 from rfl).trans d11
      generalize (fX gb ga gr i g t gs gc p x15 u x) = AA at *
      go_simp
      exact hK (.slice (if e2 = p then B2 else B2.map (·.add (p * 7))) (n2 - p) (e2 - p)) _ none (World.grownBy.refl _ _) (.inl rfl) rfl (fun h => by cases h)
    | 13, _, ho, hd =>
      cases ho
      intro K hK
      have dv := hd ⟨8, .data⟩ (by simp) rfl rfl
      have da := hd ⟨12, .data⟩ (by simp) rfl rfl
      replace dv : w2.ownsRow U.heap.size 65 7 (x 8) (cps.take p ++ [c]).length ((cps.take p ++ [c]).flatMap cpyC) := dv
      refine wp_append_at (base := U.heap.size) (.tmp 267) (.tmp 271) 31 rfl 65 i2 _ Try.underlying31 hi2 hz2 hs2 hb2 rfl (by decide) cpyC_len cpyC_one (x 8) (cps.take p ++ [c]) (cps.drop p) rfl dv _ (n2 - p) (e2 - p) da (by rw [List.length_drop]; omega) ((R2.out _ hg).drop (by omega)) (by unfold maxLen; simp only [List.length_append, List.length_take, List.length_drop, List.length_cons, List.length_nil]; omega) (by simp only [List.length_append, List.length_take, List.length_drop, List.length_cons, List.length_nil]; omega) hg.size ?_
      intro v' w' h2 h3 h4
      exact hK v' w' _ h3 (.inr ⟨8, rfl, rfl⟩) h2 (fun _ => .inr (h4.imp id fun h k hk => by rw [h] at hk; cases hk; exact Nat.le_refl _))
    | 14, _, ho, hd =>
      cases ho
      intro K hK
      have e9 : (fX gb ga gr i g t gs gc p x15 u x).tmps[9]?.getD undef = .pointer (some ⟨g, 0, none⟩) := rfl
      generalize (fX gb ga gr i g t gs gc p x15 u x) = AA at *
      go_simp
      exact hK (.pointer (some ⟨g, 2, none⟩)) _ none (World.grownBy.refl _ _) (.inl rfl) rfl (fun h => by cases h)
    | k + 15, hi, _, _ => omega
  · intro x w2 hg hall K hK
    have d13 : w2.ownsRow U.heap.size 65 7 (x 13) _ _ := hall 13 (by omega) fun j hj => by unfold eatsR48; split <;> simp
    have d14 : x 14 = .pointer (some ⟨g, 2, none⟩) := hall 14 (by omega) fun j hj => by unfold eatsR48; split <;> simp
    obtain ⟨B', c', hx, -, -⟩ := own_rows cpyC_len rfl d13
    have HF := Lib.hid (fin (x 13) (fun j => (fX gb ga gr i g t gs gc p x15 u x).tmps.getD j undef) w2 d13 hg)
    have HK := Lib.hid hK
    have HE := Lib.hid (show fX gb ga gr i g t gs gc p x15 u x = fA gb ga gr i g t gs x15 (.pointer (some ⟨gc, 0, none⟩)) (.int .i64 (p : Nat)) (fun j => (fX gb ga gr i g t gs gc p x15 u x).tmps.getD j undef) by kernel_rfl)
    have Xg := blk_grow HB.out hg
    have q0 := cell_of_row w2 _ 0 _ _ _ Xg
    have q1 := cell_of_row w2 _ 1 _ _ _ Xg
    have q2 := cell_of_row w2 _ 2 _ _ _ Xg
    have q3 := cell_of_row w2 _ 3 _ _ _ Xg
    have z0 := frozen_of_row w2 _ 0 _ _ Xg
    have z1 := frozen_of_row w2 _ 1 _ _ Xg
    have z2 := frozen_of_row w2 _ 2 _ _ Xg
    have z3 := frozen_of_row w2 _ 3 _ _ Xg
    have e273 : (fX gb ga gr i g t gs gc p x15 u x).tmps[273]?.getD undef = .pointer (some ⟨g, 2, none⟩) := (show _ = x 14 from rfl).trans d14
    have e272 : (fX gb ga gr i g t gs gc p x15 u x).tmps[272]?.getD undef = .slice B' _ c' := (show _ = x 13 from rfl).trans hx
    rw [hx] at HF
    generalize (cps.take p ++ [c] ++ cps.drop p).length = LL at HF e272
    clear hall hK fin d13 d14 hx Xg
    generalize fX gb ga gr i g t gs gc p x15 u x = AA at *
    go_simp
    refine HK.out _ _ ?_
    rw [HE.out]
    exact HF.out

section
variable {b : Book} {cps : List Cpy} {a : SAct} {s : Svc} {i : Nat} {A1 A2 A3 Ae B2 B3 : Option Addr} {c1 c2 c3 ne ce n2 e1 e2 e3 gb ga gr g gs g1 base : Nat} {ver : Int} {w U : World}
theorem L4St.copies {cps' : List Cpy} {sv : Array Value} {V : World} {v : Value} (h : L4St b cps a A1 A2 A3 Ae B2 B3 c1 c2 c3 ne ce n2 e1 e2 e3 gb ga gr g gs g1 base sv w U) (k : Grow U V) (ho : V.ownsRow U.heap.size 65 7 v cps'.length (cps'.flatMap cpyC)) : ∃ B2' n2' e2', L4St b cps' a A1 A2 A3 Ae B2' B3 c1 c2 c3 ne ce n2' e1 e2' e3 gb ga gr g gs g1 base sv w (V.setCell ⟨g, 2, none⟩ v) := by
  obtain ⟨B', c', rfl, -, -⟩ := own_rows cpyC_len rfl ho
  have h' := h.grow k
  have gl := blk_lt h.M.box
  have sl := blk_lt h.XS
  have q1 := h.o1
  have q2 := h.o2
  have q3 := h.o3
  have q4 := h.o4
  have q5 := h.o5
  have q6 := h.o6
  have K : Keep g V (V.setCell ⟨g, 2, none⟩ (.slice B' cps'.length c')) := Keep.set (Keep.refl g V) rfl _
  refine ⟨B', cps'.length, c', Keep.grow K h'.G (by omega), h.o1, h.o2, h.o3, h.o4, h.o5, h.o6, h.k1, fun e => ?_, h.k3, Keep.blk K h'.X1 (by omega), Keep.blk K h'.X2 (by omega), Keep.blk K h'.X3 (by omega), Keep.blk K h'.XS (by omega), h'.M.setBox (i := 2) rfl ⟨h'.M.rows.r1, own_base ho (by omega), h'.M.rows.r3⟩⟩
  have := (ho.lt _ e).1
  omega
/-- What holds when k new copies have been put in. -/
def L4I (b : Book) (cps : List Cpy) (a : SAct) (s : Svc) (A1 A2 A3 Ae B3 : Option Addr) (c1 c2 c3 ne ce e1 e3 gb ga gr g gs g1 base : Nat) (ver : Int) (w : World) (k : Nat) (U : World) : Prop := ∃ B2 n2 e2, L4St b (putIn (place s.name cps) (news s (b.now + 1) k) cps) a A1 A2 A3 Ae B2 B3 c1 c2 c3 ne ce n2 e1 e2 e3 gb ga gr g gs g1 base #[.string s.name, .int .i64 ver, .bool s.gone, .int .i64 s.image, .int .i64 (scaled a s).want, .int .i64 s.down, .int .i64 s.over, .int .i64 (s.next + (k : Nat)), .int .i64 s.per, .int .i64 s.least, .int .i64 s.most, .int .i64 s.load, .int .i64 (scaled a s).cool] w U
theorem l4R48 {gc k : Nat} {x15 : Value} {u : Nat → Value} {Q : Exit → Act → World → Prop} (S : L4St b (putIn (place s.name cps) (news s (b.now + 1) k) cps) a A1 A2 A3 Ae B2 B3 c1 c2 c3 ne ce n2 e1 e2 e3 gb ga gr g gs g1 base #[.string s.name, .int .i64 ver, .bool s.gone, .int .i64 s.image, .int .i64 (scaled a s).want, .int .i64 s.down, .int .i64 s.over, .int .i64 (s.next + (k : Nat)), .int .i64 s.per, .int .i64 s.least, .int .i64 s.most, .int .i64 s.load, .int .i64 (scaled a s).cool] w U) (hl : cps.length + k ≤ 2000000) (hx : 0 ≤ s.next ∧ s.next + (k : Nat) ≤ 1000000)
    (HC : U.heap[gc]? = some (.cells (cpyC (newCpy s (b.now + 1) k)).toArray 65 (0, 0)))
    (fin : ∀ u V, L4I b cps a s A1 A2 A3 Ae B3 c1 c2 c3 ne ce e1 e3 gb ga gr g gs g1 base ver w (k + 1) V → Q .normal (fA gb ga gr i g (b.now + 1) gs x15 (.pointer (some ⟨gc, 0, none⟩)) (.int .i64 (place s.name cps + k : Nat)) u) V) :
    (fromR 48 l4in).wp Try.prog Q (fA gb ga gr i g (b.now + 1) gs x15 (.pointer (some ⟨gc, 0, none⟩)) (.int .i64 (place s.name cps + k : Nat)) u) U := by
  have hlen := putIn_length (s := s) (t := b.now + 1) (cps := cps) k
  have hn2 : n2 = (putIn (place s.name cps) (news s (b.now + 1) k) cps).length := (rows_of S.M.rows).1.2.1
  have hp := place_le s.name cps
  refine wp_seq' (headOf (fromR 48 l4in)) (restOf (fromR 48 l4in)) (by kernel_rfl) ?_
  refine chainR48 (putIn (place s.name cps) (news s (b.now + 1) k) cps) (newCpy s (b.now + 1) k) (Lib.hid S.M.box) (Lib.hid HC) (rows_of S.M.rows).2.2.1 hn2 (by omega) (own_cap (by rw [hn2]; have := S.M.rows.r2; rw [hn2] at this; exact this)) (by omega) ?_
  intro v u V hv hg
  rw [news_put] at hv
  obtain ⟨B2', n2', e2', S'⟩ := S.copies hg hv
  have FIN := Lib.hid fin
  have HS' := Lib.hid S'
  clear hn2 hlen hp hv hg S' fin
  show (restOf (fromR 48 l4in)).wp Try.prog Q _ _
  refine rename ?_
  intro V2 hV2
  have S2 : Hid (L4St b (putIn (place s.name cps) (news s (b.now + 1) (k + 1)) cps) a A1 A2 A3 Ae B2' B3 c1 c2 c3 ne ce n2' e1 e2' e3 gb ga gr g gs g1 base #[.string s.name, .int .i64 ver, .bool s.gone, .int .i64 s.image, .int .i64 (scaled a s).want, .int .i64 s.down, .int .i64 s.over, .int .i64 (s.next + (k : Nat)), .int .i64 s.per, .int .i64 s.least, .int .i64 s.most, .int .i64 s.load, .int .i64 (scaled a s).cool] w V2) := Lib.hid (hV2.out ▸ HS'.out)
  clear hV2 HS' S HC
  conv => arg 2; whnf
  unfold fA
  have s7 := cell_of_row V2 _ 7 _ _ _ S2.out.XS
  have sf7 := frozen_of_row V2 _ 7 _ _ S2.out.XS
  go_wp2
  refine requit (fun u => fA gb ga gr i g (b.now + 1) gs x15 (.pointer (some ⟨gc, 0, none⟩)) (.int .i64 (place s.name cps + k : Nat)) u) (by kernel_rfl) ?_
  intro u
  refine FIN.out _ _ ⟨B2', n2', e2', ?_⟩
  refine S2.out.keep (by (repeat (first | with_reducible exact Keep.refl _ _ | with_reducible assumption | with_reducible refine Keep.drew ?_ | with_reducible refine Keep.alloc ?_ _ | with_reducible refine Keep.set ?_ rfl _ | (with_reducible refine Keep.setNew ?_ ?_ _; rotate_left; (first | (dsimp only; omega) | (simp <;> omega)))))) ?_
  refine (blk_set S2.out.XS 7 _).trans ?_
  simp [Int.add_assoc]
end

noncomputable def l4lp8 : Code := (loop1 (headOf (restOf (restOf l4in)))).getD .skip
theorem l1Ahead_r (a b : Cpy) (r : Bool) (w : World) (h : ahead a b = r) : Calls Try.prog 64 #[.agg #[.string a.service, .int .i64 a.number, .int .i64 a.version, .int .i64 a.image, .int .i64 a.state, .bool a.ending, .string a.berth], .agg #[.string b.service, .int .i64 b.number, .int .i64 b.version, .int .i64 b.image, .int .i64 b.state, .bool b.ending, .string b.berth]] w fun e w' => e = .returned (.bool r) ∧ Grow w w' := by
  subst h; exact l1Ahead_c a b w
section
variable {b : Book} {cps : List Cpy} {a : SAct} {s : Svc} {i : Nat} {A1 A2 A3 Ae B2 B3 : Option Addr} {c1 c2 c3 ne ce n2 e1 e2 e3 gb ga gr g gs g1 base : Nat} {ver : Int} {w U : World}
theorem l4Rd8 {gc p : Nat} {c : Cpy} {x15 : Value} {u : Nat → Value} {Q : Exit → Act → World → Prop} {sv : Array Value} (S : L4St b cps a A1 A2 A3 Ae B2 B3 c1 c2 c3 ne ce n2 e1 e2 e3 gb ga gr g gs g1 base sv w U) (hl : cps.length ≤ 2000000)
    (HC : U.heap[gc]? = some (.cells (cpyC c).toArray 65 (0, 0))) (hp : Hid (p = (cps.takeWhile fun x => ahead x c).length)) (V : World) (hV : Grow U V) (j : Nat) (hj : j ≤ p)
    (out : ∀ u V, Grow U V → Q (.exit 8) (fA gb ga gr i g (b.now + 1) gs x15 (.pointer (some ⟨gc, 0, none⟩)) (.int .i64 (p : Nat)) u) V) :
    l4lp8.wp Try.prog (Exit.then (Again (fun k' u => fA gb ga gr i g (b.now + 1) gs x15 (.pointer (some ⟨gc, 0, none⟩)) (.int .i64 (k' : Nat)) u) (fun _ V => Grow U V) p j) Q) (fA gb ga gr i g (b.now + 1) gs x15 (.pointer (some ⟨gc, 0, none⟩)) (.int .i64 (j : Nat)) u) V := by
  have S' := S.grow hV
  have HC' := blk_grow HC hV
  have hn2 := Lib.hid (show n2 = cps.length from (rows_of S.M.rows).1.2.1)
  have hle : p ≤ cps.length := by rw [hp.out]; exact tw_le _ _
  have hn3 : n2 ≤ cps.length := by have := hn2.out; omega
  have hn4 : cps.length ≤ n2 := by have := hn2.out; omega
  have b0 := fun y => blk_p S'.M.box 0 y
  have b1 := fun y => blk_p S'.M.box 1 y
  have b2 := fun y => blk_p S'.M.box 2 y
  have b3 := fun y => blk_p S'.M.box 3 y
  have k0 := fun y => (cpy_blk (blk_grow HC' (Grow.wplus V y))).1
  have k1 := fun y => (cpy_blk (blk_grow HC' (Grow.wplus V y))).2.1
  have k2 := fun y => (cpy_blk (blk_grow HC' (Grow.wplus V y))).2.2.1
  have k3 := fun y => (cpy_blk (blk_grow HC' (Grow.wplus V y))).2.2.2.1
  have k4 := fun y => (cpy_blk (blk_grow HC' (Grow.wplus V y))).2.2.2.2.1
  have k5 := fun y => (cpy_blk (blk_grow HC' (Grow.wplus V y))).2.2.2.2.2.1
  have k6 := fun y => (cpy_blk (blk_grow HC' (Grow.wplus V y))).2.2.2.2.2.2
  have z1 : (0 : Int) ≤ (j : Nat) := by omega
  have OUT := Lib.hid out
  have HGV := Lib.hid hV
  clear out HC hV
  conv => arg 2; whnf
  unfold fA
  by_cases hlt : j < p
  · obtain ⟨x, hx, ha⟩ := tw_lt (p := fun x => ahead x c) (xs := cps) (j := j) (by rw [← hp.out]; exact hlt)
    obtain ⟨bb, o, rfl, hbb, f0, f1, f2, f3, f4, f5, f6⟩ := cpy_p (rows_of S'.M.rows).2.2.1 hx
    have z2 : ((j : Nat) : Int) < (n2 : Nat) := by omega
    have z3 : j < n2 := by omega
    have HA := Lib.hid ha
    clear hx ha
    go_upto_region 46 with fail
    refine at_plus ?_
    refine region_quiet ⟨_, rfl⟩ (by kernel_rfl) (by kernel_rfl) ?_
    repeat (first | go_big_quiet_step ((go_at_call 64; exact quiet_grow (l1Ahead_r x c true _ HA.out))) | quiet_step (fail))
    refine wpQuiet_nil ?_
    rintro w2 ⟨y, rfl⟩
    go_wp2
    exact again (j + 1) (by kernel_rfl) (by omega) (by omega) (HGV.out.trans (Grow.wplus _ _))
  · obtain rfl : j = p := by omega
    by_cases hl2 : j < cps.length
    · obtain ⟨x, hx, ha⟩ := tw_at (p := fun x => ahead x c) (xs := cps) (by rw [← hp.out]; exact hl2)
      rw [← hp.out] at hx
      obtain ⟨bb, o, rfl, hbb, f0, f1, f2, f3, f4, f5, f6⟩ := cpy_p (rows_of S'.M.rows).2.2.1 hx
      have z2 : ((j : Nat) : Int) < (n2 : Nat) := by omega
      have z3 : j < n2 := by omega
      have HA := Lib.hid ha
      clear hx ha
      go_upto_region 46 with fail
      refine at_plus ?_
      refine region_quiet ⟨_, rfl⟩ (by kernel_rfl) (by kernel_rfl) ?_
      repeat (first | go_big_quiet_step ((go_at_call 64; exact quiet_grow (l1Ahead_r x c false _ HA.out))) | quiet_step (fail))
      refine wpQuiet_nil ?_
      rintro w2 ⟨y, rfl⟩
      go_wp2
      refine requit (fun u => fA gb ga gr i g (b.now + 1) gs x15 (.pointer (some ⟨gc, 0, none⟩)) (.int .i64 (j : Nat)) u) (by kernel_rfl) ?_
      intro u
      exact OUT.out _ _ (HGV.out.trans (Grow.wplus _ _))
    · have z3 : decide (j < n2) = false := by simp; omega
      go_upto_region 46 with fail
      refine at_plus ?_
      refine region_quiet ⟨_, rfl⟩ (by kernel_rfl) (by kernel_rfl) ?_
      repeat (first | go_big_quiet_step (fail) | quiet_step (fail))
      refine wpQuiet_nil ?_
      rintro w2 ⟨y, rfl⟩
      go_wp2
      refine requit (fun u => fA gb ga gr i g (b.now + 1) gs x15 (.pointer (some ⟨gc, 0, none⟩)) (.int .i64 (j : Nat)) u) (by kernel_rfl) ?_
      intro u
      exact OUT.out _ _ (HGV.out.trans (Grow.wplus _ _))
end

section
variable {b : Book} {cps : List Cpy} {a : SAct} {s : Svc} {i : Nat} {A1 A2 A3 Ae B2 B3 : Option Addr} {c1 c2 c3 ne ce n2 e1 e2 e3 gb ga gr g gs g1 base : Nat} {ver : Int} {w U : World}
theorem l4In {k : Nat} {x15 x16 x17 : Value} {u : Nat → Value} {Q : Exit → Act → World → Prop} (S : L4St b (putIn (place s.name cps) (news s (b.now + 1) k) cps) a A1 A2 A3 Ae B2 B3 c1 c2 c3 ne ce n2 e1 e2 e3 gb ga gr g gs g1 base #[.string s.name, .int .i64 ver, .bool s.gone, .int .i64 s.image, .int .i64 (scaled a s).want, .int .i64 s.down, .int .i64 s.over, .int .i64 (s.next + (k : Nat)), .int .i64 s.per, .int .i64 s.least, .int .i64 s.most, .int .i64 s.load, .int .i64 (scaled a s).cool] w U) (hl : cps.length + k ≤ 2000000) (hx : 0 ≤ s.next ∧ s.next + (k : Nat) ≤ 1000000) (hnm : Hid (s.name = a.service))
    (hnum : Hid (∀ x ∈ cps, eqN x.service s.name = true → x.number < s.next))
    (fin : ∀ x16 x17 u V, L4I b cps a s A1 A2 A3 Ae B3 c1 c2 c3 ne ce e1 e3 gb ga gr g gs g1 base ver w (k + 1) V → Q .normal (fA gb ga gr i g (b.now + 1) gs x15 x16 x17 u) V) :
    l4in.wp Try.prog Q (fA gb ga gr i g (b.now + 1) gs x15 x16 x17 u) U := by
  have FIN := Lib.hid fin
  clear fin
  have hlen := putIn_length (s := s) (t := b.now + 1) (cps := cps) k
  have ul := blk_lt S.XS
  refine wp_seq' (headOf l4in) (restOf l4in) (by kernel_rfl) ?_
  conv => arg 2; whnf
  unfold fA
  have a0 := cell_of_row U _ 0 _ _ _ S.X2
  have s7 := cell_of_row U _ 7 _ _ _ S.XS
  have s3 := cell_of_row U _ 3 _ _ _ S.XS
  go_wp2
  refine rename ?_
  intro V hV
  have G := Lib.hid (show Grow U V from grow_eq hV (by (repeat (first | with_reducible exact Grow.refl _ | with_reducible assumption | with_reducible refine Grow.drew ?_ | with_reducible refine Grow.alloc ?_ _ | (with_reducible refine Grow.set ?_ ?_ _; rotate_left; (first | (dsimp only; omega) | (simp <;> omega)))))))
  have XC := Lib.hid (show V.heap[U.heap.size]? = some (.cells (cpyC (newCpy s (b.now + 1) k)).toArray 65 (0, 0)) from heap_eq hV (by
    refine (heap_alloc_new _ _).trans ?_
    simp [cpyC, newCpy, hnm.out]))
  clear hV a0 s7 s3
  refine reframe (fun u => fA gb ga gr i g (b.now + 1) gs x15 (.pointer (some ⟨U.heap.size, 0, none⟩)) x17 u) (by kernel_rfl) ?_
  intro u
  refine wp_seq' (headOf (restOf l4in)) (restOf (restOf l4in)) (by kernel_rfl) ?_
  conv => arg 2; whnf
  unfold fA
  go_wp2
  refine reframe (fun u => fA gb ga gr i g (b.now + 1) gs x15 (.pointer (some ⟨U.heap.size, 0, none⟩)) (.int .i64 (0 : Nat)) u) (by kernel_rfl) ?_
  intro u
  refine wp_seq' (headOf (restOf (restOf l4in))) (fromR 48 l4in) (by kernel_rfl) ?_
  refine wp_block' 8 (.loop l4lp8) (by kernel_rfl) ?_
  have S' := S.grow G.out
  refine wp_loopN (fun k' u => fA gb ga gr i g (b.now + 1) gs x15 (.pointer (some ⟨U.heap.size, 0, none⟩)) (.int .i64 (k' : Nat)) u) (fun _ V2 => Grow V V2) (place s.name cps + k) (fun a => (intOf (a.tmps.getD 17 undef)).toNat) (fun _ _ => rfl) 0 u rfl (Nat.zero_le _) (Grow.refl _) ?_
  intro j u V2 hj hV2
  refine l4Rd8 S' (by omega) XC.out (Lib.hid (news_place hnum.out k)) V2 hV2 j hj ?_
  intro u V3 hV3
  refine inBlock_out ?_
  show (fromR 48 l4in).wp Try.prog Q _ _
  exact l4R48 (S'.grow hV3) hl hx (blk_grow XC.out hV3) fun u V4 h4 => FIN.out _ _ _ _ h4
end

section
variable {b : Book} {cps : List Cpy} {a : SAct} {s : Svc} {i : Nat} {A1 A2 A3 Ae B2 B3 : Option Addr} {c1 c2 c3 ne ce n2 e1 e2 e3 gb ga gr g gs g1 base : Nat} {ver : Int} {w U : World}
theorem l4Rd6 {k n : Nat} {u : Nat → Value} {Q : Exit → Act → World → Prop} (hI : L4I b cps a s A1 A2 A3 Ae B3 c1 c2 c3 ne ce e1 e3 gb ga gr g gs g1 base ver w k U) (hl : cps.length ≤ 200) (hn : Hid (a.create = (n : Nat))) (hn2 : n ≤ 20) (hk : k ≤ n) (hx : 0 ≤ s.next ∧ s.next + (n : Nat) ≤ 1000000) (hnm : Hid (s.name = a.service))
    (hnum : Hid (∀ x ∈ cps, eqN x.service s.name = true → x.number < s.next))
    (out : ∀ u V, L4I b cps a s A1 A2 A3 Ae B3 c1 c2 c3 ne ce e1 e3 gb ga gr g gs g1 base ver w n V → Q (.exit 6) ((fun (k' : Nat) (u : Nat → Value) => fA gb ga gr i g (b.now + 1) gs (.int .i64 (k' : Nat)) (u 16) (u 17) u) n u) V) :
    l4body.wp Try.prog (Exit.then (Again (fun (k' : Nat) (u : Nat → Value) => fA gb ga gr i g (b.now + 1) gs (.int .i64 (k' : Nat)) (u 16) (u 17) u) (L4I b cps a s A1 A2 A3 Ae B3 c1 c2 c3 ne ce e1 e3 gb ga gr g gs g1 base ver w) n k) Q) ((fun (k' : Nat) (u : Nat → Value) => fA gb ga gr i g (b.now + 1) gs (.int .i64 (k' : Nat)) (u 16) (u 17) u) k u) U := by
  have OUT := Lib.hid out
  clear out
  obtain ⟨B2, n2, e2, S⟩ := hI
  refine wp_seq' (headOf l4body) (restOf l4body) (by kernel_rfl) ?_
  conv => arg 2; whnf
  unfold fA
  have a2 := cell_of_row U _ 2 _ _ _ S.X2
  rw [hn.out] at a2
  have z1 : (0 : Int) ≤ (k : Nat) := by omega
  by_cases hlt : k < n
  · have z2 : ((k : Nat) : Int) < (n : Nat) := by omega
    go_wp2
    refine reframe (fun u => fA gb ga gr i g (b.now + 1) gs (.int .i64 (k : Nat)) (u 16) (u 17) u) (by kernel_rfl) ?_
    intro u
    refine wp_seq' l4blk (restOf (restOf l4body)) (by kernel_rfl) ?_
    refine wp_block' 7 l4in (by kernel_rfl) ?_
    refine l4In S (by omega) ⟨hx.1, by omega⟩ hnm hnum ?_
    intro x16 x17 u V hI2
    show (restOf (restOf l4body)).wp Try.prog _ _ _
    conv => arg 2; whnf
    unfold fA
    go_wp2
    exact again (k + 1) (by kernel_rfl) (by omega) (by omega) hI2
  · obtain rfl : k = n := by omega
    have z2 : decide ((k : Int) < (k : Nat)) = false := by simp
    go_wp2
    refine requit (fun u => (fun (k' : Nat) (u : Nat → Value) => fA gb ga gr i g (b.now + 1) gs (.int .i64 (k' : Nat)) (u 16) (u 17) u) k u) (by kernel_rfl) ?_
    intro u
    exact OUT.out _ _ ⟨B2, n2, e2, S⟩
theorem l4Loop {n : Nat} {x15 x16 x17 : Value} {u : Nat → Value} {Q : Exit → Act → World → Prop} (S : L4St b cps a A1 A2 A3 Ae B2 B3 c1 c2 c3 ne ce n2 e1 e2 e3 gb ga gr g gs g1 base #[.string s.name, .int .i64 ver, .bool s.gone, .int .i64 s.image, .int .i64 (scaled a s).want, .int .i64 s.down, .int .i64 s.over, .int .i64 s.next, .int .i64 s.per, .int .i64 s.least, .int .i64 s.most, .int .i64 s.load, .int .i64 (scaled a s).cool] w U) (hl : cps.length ≤ 200) (hn : Hid (a.create = (n : Nat))) (hn2 : n ≤ 20) (hx : 0 ≤ s.next ∧ s.next + (n : Nat) ≤ 1000000) (hnm : Hid (s.name = a.service))
    (hnum : Hid (∀ x ∈ cps, eqN x.service s.name = true → x.number < s.next))
    (out : ∀ u V, L4I b cps a s A1 A2 A3 Ae B3 c1 c2 c3 ne ce e1 e3 gb ga gr g gs g1 base ver w n V → Q .normal ((fun (k' : Nat) (u : Nat → Value) => fA gb ga gr i g (b.now + 1) gs (.int .i64 (k' : Nat)) (u 16) (u 17) u) n u) V) : (headOf l4t41).wp Try.prog Q (fA gb ga gr i g (b.now + 1) gs x15 x16 x17 u) U := by
  refine wp_seq' (headOf (headOf l4t41)) (restOf (headOf l4t41)) (by kernel_rfl) ?_
  conv => arg 2; whnf
  unfold fA
  go_wp2
  refine reframe (fun u => (fun (k' : Nat) (u : Nat → Value) => fA gb ga gr i g (b.now + 1) gs (.int .i64 (k' : Nat)) (u 16) (u 17) u) 0 u) (by kernel_rfl) ?_
  intro u
  refine wp_block' 6 (.loop l4body) (by kernel_rfl) ?_
  refine wp_loopN (fun (k' : Nat) (u : Nat → Value) => fA gb ga gr i g (b.now + 1) gs (.int .i64 (k' : Nat)) (u 16) (u 17) u) (L4I b cps a s A1 A2 A3 Ae B3 c1 c2 c3 ne ce e1 e3 gb ga gr g gs g1 base ver w) n (fun a => (intOf (a.tmps.getD 15 undef)).toNat) (fun _ _ => rfl) 0 u rfl (Nat.zero_le _) ⟨B2, n2, e2, ?_⟩ ?_
  · have h : (putIn (place s.name cps) (news s (b.now + 1) 0) cps) = cps := putIn_none _ _
    rw [h]
    simpa using S
  · intro k u V hk hI
    exact l4Rd6 hI hl hn hn2 hk hx hnm hnum fun u V hV => inBlock_out (out u V hV)
end

end Go.Proofs.Ytnmknkdbeccmhaa
namespace Go.Proofs.Ytnmknkdbeccmhaa
open Go.RowKit
set_option linter.unusedVariables false
theorem Mine.svc13 {base g g1 N cap j : Nat} {w : World} {v2 v3 : Value} {b : Book} {s s' : Svc} (h : Mine base g w (.slice (some ⟨g1, 0, none⟩) N cap) v2 v3 b) (hc : b.svcs[j]? = some s) :
    Mine base g (((((((((((((w.setCell ⟨g1, j * 13, none⟩ (.string s'.name)).setCell ⟨g1, j * 13 + 1, none⟩ (.int .i64 s'.version)).setCell ⟨g1, j * 13 + 2, none⟩ (.bool s'.gone)).setCell ⟨g1, j * 13 + 3, none⟩ (.int .i64 s'.image)).setCell ⟨g1, j * 13 + 4, none⟩ (.int .i64 s'.want)).setCell ⟨g1, j * 13 + 5, none⟩ (.int .i64 s'.down)).setCell ⟨g1, j * 13 + 6, none⟩ (.int .i64 s'.over)).setCell ⟨g1, j * 13 + 7, none⟩ (.int .i64 s'.next)).setCell ⟨g1, j * 13 + 8, none⟩ (.int .i64 s'.per)).setCell ⟨g1, j * 13 + 9, none⟩ (.int .i64 s'.least)).setCell ⟨g1, j * 13 + 10, none⟩ (.int .i64 s'.most)).setCell ⟨g1, j * 13 + 11, none⟩ (.int .i64 s'.load)).setCell ⟨g1, j * 13 + 12, none⟩ (.int .i64 s'.cool)) (.slice (some ⟨g1, 0, none⟩) N cap) v2 v3 { b with svcs := b.svcs.set j s' } ∧ w.grownBy (((((((((((((w.setCell ⟨g1, j * 13, none⟩ (.string s'.name)).setCell ⟨g1, j * 13 + 1, none⟩ (.int .i64 s'.version)).setCell ⟨g1, j * 13 + 2, none⟩ (.bool s'.gone)).setCell ⟨g1, j * 13 + 3, none⟩ (.int .i64 s'.image)).setCell ⟨g1, j * 13 + 4, none⟩ (.int .i64 s'.want)).setCell ⟨g1, j * 13 + 5, none⟩ (.int .i64 s'.down)).setCell ⟨g1, j * 13 + 6, none⟩ (.int .i64 s'.over)).setCell ⟨g1, j * 13 + 7, none⟩ (.int .i64 s'.next)).setCell ⟨g1, j * 13 + 8, none⟩ (.int .i64 s'.per)).setCell ⟨g1, j * 13 + 9, none⟩ (.int .i64 s'.least)).setCell ⟨g1, j * 13 + 10, none⟩ (.int .i64 s'.most)).setCell ⟨g1, j * 13 + 11, none⟩ (.int .i64 s'.load)).setCell ⟨g1, j * 13 + 12, none⟩ (.int .i64 s'.cool)) (some g1) := by
  have jl : j < b.svcs.length := (List.getElem?_eq_some_iff.1 hc).1
  obtain ⟨M0, K0⟩ := h.put1 (r := 0) (j := j) (u := .string s'.name) (c := ⟨s.name, s.version, s.gone, s.image, s.want, s.down, s.over, s.next, s.per, s.least, s.most, s.load, s.cool⟩) (c' := ⟨s'.name, s.version, s.gone, s.image, s.want, s.down, s.over, s.next, s.per, s.least, s.most, s.load, s.cool⟩) hc (by decide) rfl
  obtain ⟨M1, K1⟩ := M0.put1 (r := 1) (j := j) (u := .int .i64 s'.version) (c := ⟨s'.name, s.version, s.gone, s.image, s.want, s.down, s.over, s.next, s.per, s.least, s.most, s.load, s.cool⟩) (c' := ⟨s'.name, s'.version, s.gone, s.image, s.want, s.down, s.over, s.next, s.per, s.least, s.most, s.load, s.cool⟩) (by simp [jl]) (by decide) rfl
  obtain ⟨M2, K2⟩ := M1.put1 (r := 2) (j := j) (u := .bool s'.gone) (c := ⟨s'.name, s'.version, s.gone, s.image, s.want, s.down, s.over, s.next, s.per, s.least, s.most, s.load, s.cool⟩) (c' := ⟨s'.name, s'.version, s'.gone, s.image, s.want, s.down, s.over, s.next, s.per, s.least, s.most, s.load, s.cool⟩) (by simp [jl]) (by decide) rfl
  obtain ⟨M3, K3⟩ := M2.put1 (r := 3) (j := j) (u := .int .i64 s'.image) (c := ⟨s'.name, s'.version, s'.gone, s.image, s.want, s.down, s.over, s.next, s.per, s.least, s.most, s.load, s.cool⟩) (c' := ⟨s'.name, s'.version, s'.gone, s'.image, s.want, s.down, s.over, s.next, s.per, s.least, s.most, s.load, s.cool⟩) (by simp [jl]) (by decide) rfl
  obtain ⟨M4, K4⟩ := M3.put1 (r := 4) (j := j) (u := .int .i64 s'.want) (c := ⟨s'.name, s'.version, s'.gone, s'.image, s.want, s.down, s.over, s.next, s.per, s.least, s.most, s.load, s.cool⟩) (c' := ⟨s'.name, s'.version, s'.gone, s'.image, s'.want, s.down, s.over, s.next, s.per, s.least, s.most, s.load, s.cool⟩) (by simp [jl]) (by decide) rfl
  obtain ⟨M5, K5⟩ := M4.put1 (r := 5) (j := j) (u := .int .i64 s'.down) (c := ⟨s'.name, s'.version, s'.gone, s'.image, s'.want, s.down, s.over, s.next, s.per, s.least, s.most, s.load, s.cool⟩) (c' := ⟨s'.name, s'.version, s'.gone, s'.image, s'.want, s'.down, s.over, s.next, s.per, s.least, s.most, s.load, s.cool⟩) (by simp [jl]) (by decide) rfl
  obtain ⟨M6, K6⟩ := M5.put1 (r := 6) (j := j) (u := .int .i64 s'.over) (c := ⟨s'.name, s'.version, s'.gone, s'.image, s'.want, s'.down, s.over, s.next, s.per, s.least, s.most, s.load, s.cool⟩) (c' := ⟨s'.name, s'.version, s'.gone, s'.image, s'.want, s'.down, s'.over, s.next, s.per, s.least, s.most, s.load, s.cool⟩) (by simp [jl]) (by decide) rfl
  obtain ⟨M7, K7⟩ := M6.put1 (r := 7) (j := j) (u := .int .i64 s'.next) (c := ⟨s'.name, s'.version, s'.gone, s'.image, s'.want, s'.down, s'.over, s.next, s.per, s.least, s.most, s.load, s.cool⟩) (c' := ⟨s'.name, s'.version, s'.gone, s'.image, s'.want, s'.down, s'.over, s'.next, s.per, s.least, s.most, s.load, s.cool⟩) (by simp [jl]) (by decide) rfl
  obtain ⟨M8, K8⟩ := M7.put1 (r := 8) (j := j) (u := .int .i64 s'.per) (c := ⟨s'.name, s'.version, s'.gone, s'.image, s'.want, s'.down, s'.over, s'.next, s.per, s.least, s.most, s.load, s.cool⟩) (c' := ⟨s'.name, s'.version, s'.gone, s'.image, s'.want, s'.down, s'.over, s'.next, s'.per, s.least, s.most, s.load, s.cool⟩) (by simp [jl]) (by decide) rfl
  obtain ⟨M9, K9⟩ := M8.put1 (r := 9) (j := j) (u := .int .i64 s'.least) (c := ⟨s'.name, s'.version, s'.gone, s'.image, s'.want, s'.down, s'.over, s'.next, s'.per, s.least, s.most, s.load, s.cool⟩) (c' := ⟨s'.name, s'.version, s'.gone, s'.image, s'.want, s'.down, s'.over, s'.next, s'.per, s'.least, s.most, s.load, s.cool⟩) (by simp [jl]) (by decide) rfl
  obtain ⟨M10, K10⟩ := M9.put1 (r := 10) (j := j) (u := .int .i64 s'.most) (c := ⟨s'.name, s'.version, s'.gone, s'.image, s'.want, s'.down, s'.over, s'.next, s'.per, s'.least, s.most, s.load, s.cool⟩) (c' := ⟨s'.name, s'.version, s'.gone, s'.image, s'.want, s'.down, s'.over, s'.next, s'.per, s'.least, s'.most, s.load, s.cool⟩) (by simp [jl]) (by decide) rfl
  obtain ⟨M11, K11⟩ := M10.put1 (r := 11) (j := j) (u := .int .i64 s'.load) (c := ⟨s'.name, s'.version, s'.gone, s'.image, s'.want, s'.down, s'.over, s'.next, s'.per, s'.least, s'.most, s.load, s.cool⟩) (c' := ⟨s'.name, s'.version, s'.gone, s'.image, s'.want, s'.down, s'.over, s'.next, s'.per, s'.least, s'.most, s'.load, s.cool⟩) (by simp [jl]) (by decide) rfl
  obtain ⟨M12, K12⟩ := M11.put1 (r := 12) (j := j) (u := .int .i64 s'.cool) (c := ⟨s'.name, s'.version, s'.gone, s'.image, s'.want, s'.down, s'.over, s'.next, s'.per, s'.least, s'.most, s'.load, s.cool⟩) (c' := ⟨s'.name, s'.version, s'.gone, s'.image, s'.want, s'.down, s'.over, s'.next, s'.per, s'.least, s'.most, s'.load, s'.cool⟩) (by simp [jl]) (by decide) rfl
  simp only [List.set_set] at M12
  exact ⟨M12, (grownBy_trans (grownBy_trans (grownBy_trans (grownBy_trans (grownBy_trans (grownBy_trans (grownBy_trans (grownBy_trans (grownBy_trans (grownBy_trans (grownBy_trans (grownBy_trans K0 K1) K2) K3) K4) K5) K6) K7) K8) K9) K10) K11) K12)⟩
theorem Mine.cpy7 {base g g2 N cap j : Nat} {w : World} {v1 v3 : Value} {b : Book} {s s' : Cpy} (h : Mine base g w v1 (.slice (some ⟨g2, 0, none⟩) N cap) v3 b) (hc : b.cps[j]? = some s) :
    Mine base g (((((((w.setCell ⟨g2, j * 7, none⟩ (.string s'.service)).setCell ⟨g2, j * 7 + 1, none⟩ (.int .i64 s'.number)).setCell ⟨g2, j * 7 + 2, none⟩ (.int .i64 s'.version)).setCell ⟨g2, j * 7 + 3, none⟩ (.int .i64 s'.image)).setCell ⟨g2, j * 7 + 4, none⟩ (.int .i64 s'.state)).setCell ⟨g2, j * 7 + 5, none⟩ (.bool s'.ending)).setCell ⟨g2, j * 7 + 6, none⟩ (.string s'.berth)) v1 (.slice (some ⟨g2, 0, none⟩) N cap) v3 { b with cps := b.cps.set j s' } ∧ w.grownBy (((((((w.setCell ⟨g2, j * 7, none⟩ (.string s'.service)).setCell ⟨g2, j * 7 + 1, none⟩ (.int .i64 s'.number)).setCell ⟨g2, j * 7 + 2, none⟩ (.int .i64 s'.version)).setCell ⟨g2, j * 7 + 3, none⟩ (.int .i64 s'.image)).setCell ⟨g2, j * 7 + 4, none⟩ (.int .i64 s'.state)).setCell ⟨g2, j * 7 + 5, none⟩ (.bool s'.ending)).setCell ⟨g2, j * 7 + 6, none⟩ (.string s'.berth)) (some g2) := by
  have jl : j < b.cps.length := (List.getElem?_eq_some_iff.1 hc).1
  obtain ⟨M0, K0⟩ := h.put2 (r := 0) (j := j) (u := .string s'.service) (c := ⟨s.service, s.number, s.version, s.image, s.state, s.ending, s.berth⟩) (c' := ⟨s'.service, s.number, s.version, s.image, s.state, s.ending, s.berth⟩) hc (by decide) rfl
  obtain ⟨M1, K1⟩ := M0.put2 (r := 1) (j := j) (u := .int .i64 s'.number) (c := ⟨s'.service, s.number, s.version, s.image, s.state, s.ending, s.berth⟩) (c' := ⟨s'.service, s'.number, s.version, s.image, s.state, s.ending, s.berth⟩) (by simp [jl]) (by decide) rfl
  obtain ⟨M2, K2⟩ := M1.put2 (r := 2) (j := j) (u := .int .i64 s'.version) (c := ⟨s'.service, s'.number, s.version, s.image, s.state, s.ending, s.berth⟩) (c' := ⟨s'.service, s'.number, s'.version, s.image, s.state, s.ending, s.berth⟩) (by simp [jl]) (by decide) rfl
  obtain ⟨M3, K3⟩ := M2.put2 (r := 3) (j := j) (u := .int .i64 s'.image) (c := ⟨s'.service, s'.number, s'.version, s.image, s.state, s.ending, s.berth⟩) (c' := ⟨s'.service, s'.number, s'.version, s'.image, s.state, s.ending, s.berth⟩) (by simp [jl]) (by decide) rfl
  obtain ⟨M4, K4⟩ := M3.put2 (r := 4) (j := j) (u := .int .i64 s'.state) (c := ⟨s'.service, s'.number, s'.version, s'.image, s.state, s.ending, s.berth⟩) (c' := ⟨s'.service, s'.number, s'.version, s'.image, s'.state, s.ending, s.berth⟩) (by simp [jl]) (by decide) rfl
  obtain ⟨M5, K5⟩ := M4.put2 (r := 5) (j := j) (u := .bool s'.ending) (c := ⟨s'.service, s'.number, s'.version, s'.image, s'.state, s.ending, s.berth⟩) (c' := ⟨s'.service, s'.number, s'.version, s'.image, s'.state, s'.ending, s.berth⟩) (by simp [jl]) (by decide) rfl
  obtain ⟨M6, K6⟩ := M5.put2 (r := 6) (j := j) (u := .string s'.berth) (c := ⟨s'.service, s'.number, s'.version, s'.image, s'.state, s'.ending, s.berth⟩) (c' := ⟨s'.service, s'.number, s'.version, s'.image, s'.state, s'.ending, s'.berth⟩) (by simp [jl]) (by decide) rfl
  simp only [List.set_set] at M6
  exact ⟨M6, (grownBy_trans (grownBy_trans (grownBy_trans (grownBy_trans (grownBy_trans (grownBy_trans K0 K1) K2) K3) K4) K5) K6)⟩
theorem rows3_below {base : Nat} {w : World} {v1 v2 v3 : Value} {b : Book} {p : Addr} (h : Rows3 base w v1 v2 v3 b) (hp : p.block < base) (u : Value) : Rows3 base (w.setCell p u) v1 v2 v3 b :=
  ⟨ownsRow_setCell_below h.r1 hp u, ownsRow_setCell_below h.r2 hp u, ownsRow_setCell_below h.r3 hp u⟩
theorem rows3_form {base : Nat} {w : World} {v1 v2 v3 : Value} {b : Book} (h : Rows3 base w v1 v2 v3 b) : ∃ A1 c1 A2 c2 A3 c3, v1 = .slice A1 b.svcs.length c1 ∧ v2 = .slice A2 b.cps.length c2 ∧ v3 = .slice A3 b.brs.length c3 := by
  obtain ⟨A1, c1, e1, -, -⟩ := own_rows svcC_len rfl h.r1
  obtain ⟨A2, c2, e2, -, -⟩ := own_rows cpyC_len rfl h.r2
  obtain ⟨A3, c3, e3, -, -⟩ := own_rows brtC_len rfl h.r3
  exact ⟨A1, c1, A2, c2, A3, c3, e1, e2, e3⟩
end Go.Proofs.Ytnmknkdbeccmhaa
