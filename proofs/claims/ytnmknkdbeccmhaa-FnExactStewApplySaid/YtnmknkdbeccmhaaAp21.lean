/- The walk of the reference's l4Apply from region 50 on: the service laid back, the drop, the result. -/
import Derived.Test.YtnmknkdbeccmhaaAp20
namespace Go.Proofs.Ytnmknkdbeccmhaa
open Go.RowKit
set_option linter.unusedSimpArgs false
set_option linter.unusedVariables false
set_option maxRecDepth 1000000
set_option maxHeartbeats 2000000
structure L4Fin (a : SAct) (Ae : Option Addr) (ne ce : Nat) (b1 : Book) (v1 v2 v3 : Value) (ga gr g base : Nat) (w U : World) : Prop where
  G : Grow w U
  o1 : w.heap.size ≤ ga
  o3 : ga < gr
  o4 : gr < base
  o5 : base ≤ g
  X2 : U.heap[ga]? = some (.cells #[.string a.service, .int .i64 a.version, .int .i64 a.create, .int .i64 a.want, .int .i64 a.cool, .bool a.scale, .slice Ae ne ce, .bool a.drop] 77 (0, 0))
  X3 : U.heap[gr]? = some (.cells #[.int .i64 0, .slice none 0 0, .slice none 0 0, .slice none 0 0] 34 (0, 0))
  M : Mine base g U v1 v2 v3 b1
noncomputable def l4t50 : Code := restOf l4t41
noncomputable def l4t51 : Code := restOf l4t50
noncomputable def l4t52 : Code := restOf l4t51
noncomputable def l4t54 : Code := restOf l4t52
noncomputable def l4r53 : Code := match restOf (headOf l4t52) with | .cond _ c _ => c | _ => .skip

def fZ (gb ga gr p g : Nat) (t : Int) (gs : Nat) (x15 x16 x17 : Value) (u x : Nat → Value) : Act := ⟨#[u 0, u 1, .pointer (some ⟨gb, 0, none⟩), .pointer (some ⟨ga, 0, none⟩), .pointer (some ⟨gr, 0, none⟩), u 5, .int .i64 (p : Nat), u 7, u 8, .pointer (some ⟨g, 0, none⟩), .int .i64 t, u 11, u 12, .pointer (some ⟨gs, 0, none⟩), u 14, x15, x16, x17, u 18, u 19, u 20, u 21, u 22, u 23, u 24, u 25, u 26, u 27, u 28, u 29, u 30, u 31, u 32, u 33, u 34, u 35, u 36, u 37, u 38, u 39, u 40, u 41, u 42, u 43, u 44, u 45, u 46, u 47, u 48, u 49, u 50, u 51, u 52, u 53, u 54, u 55, u 56, u 57, u 58, u 59, u 60, u 61, u 62, u 63, u 64, u 65, u 66, u 67, u 68, u 69, u 70, u 71, u 72, u 73, u 74, u 75, u 76, u 77, u 78, u 79, u 80, u 81, u 82, u 83, u 84, u 85, u 86, u 87, u 88, u 89, u 90, u 91, u 92, u 93, u 94, u 95, u 96, u 97, u 98, u 99, u 100, u 101, u 102, u 103, u 104, u 105, u 106, u 107, u 108, u 109, u 110, u 111, u 112, u 113, u 114, u 115, u 116, u 117, u 118, u 119, u 120, u 121, u 122, u 123, u 124, u 125, u 126, u 127, u 128, u 129, u 130, u 131, u 132, u 133, u 134, u 135, u 136, u 137, u 138, u 139, u 140, u 141, u 142, u 143, u 144, u 145, u 146, u 147, u 148, u 149, u 150, u 151, u 152, u 153, u 154, u 155, u 156, u 157, u 158, u 159, u 160, u 161, u 162, u 163, u 164, u 165, u 166, u 167, u 168, u 169, u 170, u 171, u 172, u 173, u 174, u 175, u 176, u 177, u 178, u 179, u 180, u 181, u 182, u 183, u 184, u 185, u 186, u 187, u 188, u 189, u 190, u 191, u 192, u 193, u 194, u 195, u 196, u 197, u 198, u 199, u 200, u 201, u 202, u 203, u 204, u 205, u 206, u 207, u 208, u 209, u 210, u 211, u 212, u 213, u 214, u 215, u 216, u 217, u 218, u 219, u 220, u 221, u 222, u 223, u 224, u 225, u 226, u 227, u 228, u 229, u 230, u 231, u 232, u 233, u 234, u 235, u 236, u 237, u 238, u 239, u 240, u 241, u 242, u 243, u 244, u 245, u 246, u 247, u 248, u 249, u 250, u 251, u 252, u 253, u 254, u 255, u 256, u 257, u 258, u 259, u 260, u 261, u 262, u 263, u 264, u 265, u 266, u 267, u 268, u 269, u 270, u 271, u 272, u 273, u 274, u 275, u 276, u 277, u 278, u 279, u 280, u 281, u 282, u 283, u 284, u 285, u 286, x 0, x 1, x 2, x 3, x 4, x 5, x 6, x 7, x 8, x 9, x 10, x 11, x 12, u 300, u 301, u 302], []⟩
def fY (gb ga gr i g : Nat) (t : Int) (gs : Nat) (x15 x16 x17 : Value) (u : Nat → Value) : Act := ⟨#[u 0, u 1, .pointer (some ⟨gb, 0, none⟩), .pointer (some ⟨ga, 0, none⟩), .pointer (some ⟨gr, 0, none⟩), u 5, .int .i64 i, u 7, u 8, .pointer (some ⟨g, 0, none⟩), .int .i64 t, u 11, u 12, .pointer (some ⟨gs, 0, none⟩), u 14, x15, x16, x17, u 18, u 19, u 20, u 21, u 22, u 23, u 24, u 25, u 26, u 27, u 28, u 29, u 30, u 31, u 32, u 33, u 34, u 35, u 36, u 37, u 38, u 39, u 40, u 41, u 42, u 43, u 44, u 45, u 46, u 47, u 48, u 49, u 50, u 51, u 52, u 53, u 54, u 55, u 56, u 57, u 58, u 59, u 60, u 61, u 62, u 63, u 64, u 65, u 66, u 67, u 68, u 69, u 70, u 71, u 72, u 73, u 74, u 75, u 76, u 77, u 78, u 79, u 80, u 81, u 82, u 83, u 84, u 85, u 86, u 87, u 88, u 89, u 90, u 91, u 92, u 93, u 94, u 95, u 96, u 97, u 98, u 99, u 100, u 101, u 102, u 103, u 104, u 105, u 106, u 107, u 108, u 109, u 110, u 111, u 112, u 113, u 114, u 115, u 116, u 117, u 118, u 119, u 120, u 121, u 122, u 123, u 124, u 125, u 126, u 127, u 128, u 129, u 130, u 131, u 132, u 133, u 134, u 135, u 136, u 137, u 138, u 139, u 140, u 141, u 142, u 143, u 144, u 145, u 146, u 147, u 148, u 149, u 150, u 151, u 152, u 153, u 154, u 155, u 156, u 157, u 158, u 159, u 160, u 161, u 162, u 163, u 164, u 165, u 166, u 167, u 168, u 169, u 170, u 171, u 172, u 173, u 174, u 175, u 176, u 177, u 178, u 179, u 180, u 181, u 182, u 183, u 184, u 185, u 186, u 187, u 188, u 189, u 190, u 191, u 192, u 193, u 194, u 195, u 196, u 197, u 198, u 199, u 200, u 201, u 202, u 203, u 204, u 205, u 206, u 207, u 208, u 209, u 210, u 211, u 212, u 213, u 214, u 215, u 216, u 217, u 218, u 219, u 220, u 221, u 222, u 223, u 224, u 225, u 226, u 227, u 228, u 229, u 230, u 231, u 232, u 233, u 234, u 235, u 236, u 237, u 238, u 239, u 240, u 241, u 242, u 243, u 244, u 245, u 246, u 247, u 248, u 249, u 250, u 251, u 252, u 253, u 254, u 255, u 256, u 257, u 258, u 259, u 260, u 261, u 262, u 263, u 264, u 265, u 266, u 267, u 268, u 269, u 270, u 271, u 272, u 273, u 274, u 275, u 276, u 277, u 278, u 279, u 280, u 281, u 282, u 283, u 284, u 285, .bool true, u 287, u 288, u 289, u 290, u 291, u 292, u 293, u 294, u 295, u 296, u 297, u 298, u 299, u 300, u 301, u 302], []⟩
def PhiR53 (svcs : List Svc) (B1 : Option Addr) (n1 e1 p g : Nat) (base : Nat) : Nat → Value → World → Prop
  | 0, v, w => (∃ g, v = .slice (some ⟨g, 0, none⟩) 0 0) ∧ w.ownsRow base 83 13 v 0 []
  | 1, v, w => v = .pointer (some ⟨g, 1, none⟩)
  | 2, v, w => v = .slice B1 n1 e1
  | 3, v, w => v = .int .i64 (p : Nat)
  | 4, v, w => v = .slice B1 p e1
  | 5, v, w => w.ownsRow base 83 13 v (svcs.take p).length ((svcs.take p).flatMap svcC)
  | 6, v, w => v = .pointer (some ⟨g, 1, none⟩)
  | 7, v, w => v = .slice B1 n1 e1
  | 8, v, w => v = .int .i64 (p : Nat)
  | 9, v, w => v = .int .i64 (((p : Nat) : Int) + 1)
  | 10, v, w => v = .slice (if e1 = p + 1 then B1 else B1.map (·.add ((p + 1) * 13))) (n1 - (p + 1)) (e1 - (p + 1))
  | 11, v, w => w.ownsRow base 83 13 v (svcs.take p ++ svcs.drop (p + 1)).length ((svcs.take p ++ svcs.drop (p + 1)).flatMap svcC)
  | 12, v, w => v = .pointer (some ⟨g, 1, none⟩)
  | _, _, _ => True
def madeR53 (i : Nat) : Bool := [0, 5, 11].contains i
def eatsR53 : Nat → Option Nat
  | 5 => some 0
  | 11 => some 5
  | _ => none
theorem kindsR53 (svcs : List Svc) (B1 : Option Addr) (n1 e1 p g : Nat) (W : World) : Kinds W (PhiR53 svcs B1 n1 e1 p g W.heap.size) madeR53 where
  still := by
    intro i v w w' hm h
    match i, hm, h with
    | 0, hm, h => cases hm
    | 1, hm, h => exact h
    | 2, hm, h => exact h
    | 3, hm, h => exact h
    | 4, hm, h => exact h
    | 5, hm, h => cases hm
    | 6, hm, h => exact h
    | 7, hm, h => exact h
    | 8, hm, h => exact h
    | 9, hm, h => exact h
    | 10, hm, h => exact h
    | 11, hm, h => cases hm
    | 12, hm, h => exact h
    | n + 13, _, _ => exact trivial
  kept := by
    intro i v w w' r hm h hg hr
    match i, hm, h with
    | 0, hm, h => exact ⟨h.1, h.2.kept hg hr⟩
    | 1, hm, h => cases hm
    | 2, hm, h => cases hm
    | 3, hm, h => cases hm
    | 4, hm, h => cases hm
    | 5, hm, h => exact World.ownsRow.kept h hg hr
    | 6, hm, h => cases hm
    | 7, hm, h => cases hm
    | 8, hm, h => cases hm
    | 9, hm, h => cases hm
    | 10, hm, h => cases hm
    | 11, hm, h => exact World.ownsRow.kept h hg hr
    | 12, hm, h => cases hm
    | n + 13, hm, _ => exact trivial
  lt := by
    intro i v w k hm h hk
    match i, hm, h with
    | 0, hm, h => exact h.2.lt k hk
    | 1, hm, h => cases hm
    | 2, hm, h => cases hm
    | 3, hm, h => cases hm
    | 4, hm, h => cases hm
    | 5, hm, h => exact World.ownsRow.lt h k hk
    | 6, hm, h => cases hm
    | 7, hm, h => cases hm
    | 8, hm, h => cases hm
    | 9, hm, h => cases hm
    | 10, hm, h => cases hm
    | 11, hm, h => exact World.ownsRow.lt h k hk
    | 12, hm, h => cases hm
    | n + 13, hm, h => simp [madeR53] at hm
theorem chainR53 (svcs : List Svc) {B1 : Option Addr} {n1 e1 p g gb ga gr gs N1 c1 N3 c3 : Nat} {A1 A3 : Option Addr} {t now : Int} {x15 x16 x17 : Value} {u : Nat → Value} {U : World} {Q : Exit → Act → World → Prop}
    (HB : Hid (U.heap[g]? = some (.cells #[.int .i64 now, .slice B1 n1 e1, .slice A1 N1 c1, .slice A3 N3 c3] 34 (0, 0)))) (hr : Rows 13 svcC U B1 svcs)
    (hn : n1 = svcs.length) (hl : svcs.length ≤ 8) (hc : n1 ≤ e1) (hp : p < n1)
    (fin : ∀ v u V, V.ownsRow U.heap.size 83 13 v (svcs.take p ++ svcs.drop (p + 1)).length ((svcs.take p ++ svcs.drop (p + 1)).flatMap svcC) → Grow U V → Q .normal (fA gb ga gr p g t gs x15 x16 x17 u) (V.setCell ⟨g, 1, none⟩ v)) :
    l4r53.wp Try.prog Q (fY gb ga gr p g t gs x15 x16 x17 u) U := by
  obtain ⟨i1, hi1, hz1, hs1, hb1⟩ := info_parts info_Svc
  have R1 := Lib.hid (fun (w' : World) (hg : Grow U w') => hr.below hg)
  have hn1 : n1 ≤ svcs.length := by omega
  have hn2 : svcs.length ≤ n1 := by omega
  clear hr hn
  conv => arg 2; whnf
  refine reframe (fun u => fZ gb ga gr p g t gs x15 x16 x17 u fun j => u (j + 287)) (by kernel_rfl) ?_
  intro u
  refine region_chain (W := U) (n := 13) madeR53 eatsR53 rfl rfl (by kernel_rfl) (PhiR53 svcs B1 n1 e1 p g U.heap.size) (fun x => fZ gb ga gr p g t gs x15 x16 x17 u x) (fun j => u (j + 287)) (by kernel_rfl) (by kernel_rfl) (by kernel_rfl) (by kernel_rfl) (Grow.refl _) (by kernel_rfl) (kindsR53 svcs B1 n1 e1 p g U) ?_ ?_ ?_
  · intro ii oo x v hi ho
    match ii, hi, ho with
    | 0, _, ho => cases ho; rfl
    | 1, _, ho => cases ho; rfl
    | 2, _, ho => cases ho; rfl
    | 3, _, ho => cases ho; rfl
    | 4, _, ho => cases ho; rfl
    | 5, _, ho => cases ho; rfl
    | 6, _, ho => cases ho; rfl
    | 7, _, ho => cases ho; rfl
    | 8, _, ho => cases ho; rfl
    | 9, _, ho => cases ho; rfl
    | 10, _, ho => cases ho; rfl
    | 11, _, ho => cases ho; rfl
    | 12, _, ho => cases ho; rfl
    | k + 13, hi, _ => omega
  · intro ii oo x w2 hi ho hg hd
    match ii, hi, ho, hd with
    | 0, _, ho, hd =>
      cases ho
      intro K hK
      generalize (fZ gb ga gr p g t gs x15 x16 x17 u x) = AA at *
      go_simp
      exact hK (.slice (some ⟨w2.heap.size, 0, none⟩) 0 0) _ none (grown_alloc _ _) (.inl rfl) ⟨⟨_, rfl⟩, own_base (own_empty w2 83 13) hg.size⟩ (fun _ => .inr (.inr fun k hk => by cases hk; exact Nat.le_refl _))
    | 1, _, ho, hd =>
      cases ho
      intro K hK
      have e9 : (fZ gb ga gr p g t gs x15 x16 x17 u x).tmps[9]?.getD undef = .pointer (some ⟨g, 0, none⟩) := rfl
      generalize (fZ gb ga gr p g t gs x15 x16 x17 u x) = AA at *
      go_simp
      exact hK (.pointer (some ⟨g, 1, none⟩)) _ none (World.grownBy.refl _ _) (.inl rfl) rfl (fun h => by cases h)
    | 2, _, ho, hd =>
      cases ho
      intro K hK
      have d1 : x 1 = .pointer (some ⟨g, 1, none⟩) := hd ⟨1, .data⟩ (by simp) rfl rfl
      obtain ⟨q0, q1, q2, q3⟩ := box4 (blk_grow HB.out hg)
      have e288 : (fZ gb ga gr p g t gs x15 x16 x17 u x).tmps[288]?.getD undef = .pointer (some ⟨g, 1, none⟩) := (show _ = x 1 from rfl).trans d1
      generalize (fZ gb ga gr p g t gs x15 x16 x17 u x) = AA at *
      go_simp
      exact hK (.slice B1 n1 e1) _ none (World.grownBy.refl _ _) (.inl rfl) rfl (fun h => by cases h)
    | 3, _, ho, hd =>
      cases ho
      intro K hK
      have e6 : (fZ gb ga gr p g t gs x15 x16 x17 u x).tmps[6]?.getD undef = .int .i64 (p : Nat) := rfl
      generalize (fZ gb ga gr p g t gs x15 x16 x17 u x) = AA at *
      go_simp
      exact hK (.int .i64 (p : Nat)) _ none (World.grownBy.refl _ _) (.inl rfl) rfl (fun h => by cases h)
    | 4, _, ho, hd =>
      cases ho
      intro K hK
      have d2 : x 2 = .slice B1 n1 e1 := hd ⟨2, .data⟩ (by simp) rfl rfl
      have d3 : x 3 = .int .i64 (p : Nat) := hd ⟨3, .data⟩ (by simp) rfl rfl
      have z1 : (0 : Int) ≤ (p : Nat) := by omega
      have z2 : ((p : Nat) : Int) ≤ (e1 : Nat) := by omega
      have e289 : (fZ gb ga gr p g t gs x15 x16 x17 u x).tmps[289]?.getD undef = .slice B1 n1 e1 := (show _ = x 2 from rfl).trans d2
      have e290 : (fZ gb ga gr p g t gs x15 x16 x17 u x).tmps[290]?.getD undef = .int .i64 (p : Nat) := (show _ = x 3 from rfl).trans d3
      generalize (fZ gb ga gr p g t gs x15 x16 x17 u x) = AA at *
      go_simp
      exact hK (.slice B1 p e1) _ none (World.grownBy.refl _ _) (.inl rfl) rfl (fun h => by cases h)
    | 5, _, ho, hd =>
      cases ho
      intro K hK
      have dv := hd ⟨0, .data⟩ (by simp) rfl rfl
      have da := hd ⟨4, .data⟩ (by simp) rfl rfl
      replace dv : w2.ownsRow U.heap.size 83 13 (x 0) 0 [] := dv.2
      refine wp_append_at (base := U.heap.size) (.tmp 287) (.tmp 291) 30 rfl 83 i1 _ Try.underlying30 hi1 hz1 hs1 hb1 rfl (by decide) svcC_len svcC_one (x 0) ([]) (svcs.take p) rfl dv B1 p e1 da (by rw [List.length_take]; omega) ((R1.out _ hg).take p) (by unfold maxLen; simp only [List.length_append, List.length_take, List.length_drop, List.length_cons, List.length_nil]; omega) (by simp only [List.length_append, List.length_take, List.length_drop, List.length_cons, List.length_nil]; omega) hg.size ?_
      intro v' w' h2 h3 h4
      exact hK v' w' _ h3 (.inr ⟨0, rfl, rfl⟩) h2 (fun _ => .inr (h4.imp id fun h k hk => by rw [h] at hk; cases hk; exact Nat.le_refl _))
    | 6, _, ho, hd =>
      cases ho
      intro K hK
      have e9 : (fZ gb ga gr p g t gs x15 x16 x17 u x).tmps[9]?.getD undef = .pointer (some ⟨g, 0, none⟩) := rfl
      generalize (fZ gb ga gr p g t gs x15 x16 x17 u x) = AA at *
      go_simp
      exact hK (.pointer (some ⟨g, 1, none⟩)) _ none (World.grownBy.refl _ _) (.inl rfl) rfl (fun h => by cases h)
    | 7, _, ho, hd =>
      cases ho
      intro K hK
      have d6 : x 6 = .pointer (some ⟨g, 1, none⟩) := hd ⟨6, .data⟩ (by simp) rfl rfl
      obtain ⟨q0, q1, q2, q3⟩ := box4 (blk_grow HB.out hg)
      have e293 : (fZ gb ga gr p g t gs x15 x16 x17 u x).tmps[293]?.getD undef = .pointer (some ⟨g, 1, none⟩) := (show _ = x 6 from rfl).trans d6
      generalize (fZ gb ga gr p g t gs x15 x16 x17 u x) = AA at *
      go_simp
      exact hK (.slice B1 n1 e1) _ none (World.grownBy.refl _ _) (.inl rfl) rfl (fun h => by cases h)
    | 8, _, ho, hd =>
      cases ho
      intro K hK
      have e6 : (fZ gb ga gr p g t gs x15 x16 x17 u x).tmps[6]?.getD undef = .int .i64 (p : Nat) := rfl
      generalize (fZ gb ga gr p g t gs x15 x16 x17 u x) = AA at *
      go_simp
      exact hK (.int .i64 (p : Nat)) _ none (World.grownBy.refl _ _) (.inl rfl) rfl (fun h => by cases h)
    | 9, _, ho, hd =>
      cases ho
      intro K hK
      have d8 : x 8 = .int .i64 (p : Nat) := hd ⟨8, .data⟩ (by simp) rfl rfl
      have z1 : (0 : Int) ≤ (p : Nat) := by omega
      have z2 : IntKind.i64.wrap (((p : Nat) : Int) + 1) = ((p : Nat) : Int) + 1 := IntWalk.i64_in _ (by omega)
      have e295 : (fZ gb ga gr p g t gs x15 x16 x17 u x).tmps[295]?.getD undef = .int .i64 (p : Nat) := (show _ = x 8 from rfl).trans d8
      generalize (fZ gb ga gr p g t gs x15 x16 x17 u x) = AA at *
      go_simp
      exact hK (.int .i64 (((p : Nat) : Int) + 1)) _ none (World.grownBy.refl _ _) (.inl rfl) rfl (fun h => by cases h)
    | 10, _, ho, hd =>
      cases ho
      intro K hK
      have d7 : x 7 = .slice B1 n1 e1 := hd ⟨7, .data⟩ (by simp) rfl rfl
      have d9 : x 9 = .int .i64 (((p : Nat) : Int) + 1) := hd ⟨9, .data⟩ (by simp) rfl rfl
      have z1 : (0 : Int) ≤ ((p : Nat) : Int) + 1 := by omega
      have z2 : ((p : Nat) : Int) + 1 ≤ (n1 : Nat) := by omega
      have e294 : (fZ gb ga gr p g t gs x15 x16 x17 u x).tmps[294]?.getD undef = .slice B1 n1 e1 := (show _ = x 7 from rfl).trans d7
      have e296 : (fZ gb ga gr p g t gs x15 x16 x17 u x).tmps[296]?.getD undef = .int .i64 (((p : Nat) : Int) + 1) := (show _ = x 9 from rfl).trans d9
      generalize (fZ gb ga gr p g t gs x15 x16 x17 u x) = AA at *
      go_simp
      exact hK (.slice (if e1 = p + 1 then B1 else B1.map (·.add ((p + 1) * 13))) (n1 - (p + 1)) (e1 - (p + 1))) _ none (World.grownBy.refl _ _) (.inl rfl) rfl (fun h => by cases h)
    | 11, _, ho, hd =>
      cases ho
      intro K hK
      have dv := hd ⟨5, .data⟩ (by simp) rfl rfl
      have da := hd ⟨10, .data⟩ (by simp) rfl rfl
      replace dv : w2.ownsRow U.heap.size 83 13 (x 5) (svcs.take p).length ((svcs.take p).flatMap svcC) := dv
      refine wp_append_at (base := U.heap.size) (.tmp 292) (.tmp 297) 30 rfl 83 i1 _ Try.underlying30 hi1 hz1 hs1 hb1 rfl (by decide) svcC_len svcC_one (x 5) (svcs.take p) (svcs.drop (p + 1)) rfl dv _ (n1 - (p + 1)) (e1 - (p + 1)) da (by rw [List.length_drop]; omega) ((R1.out _ hg).drop (by omega)) (by unfold maxLen; simp only [List.length_append, List.length_take, List.length_drop, List.length_cons, List.length_nil]; omega) (by simp only [List.length_append, List.length_take, List.length_drop, List.length_cons, List.length_nil]; omega) hg.size ?_
      intro v' w' h2 h3 h4
      exact hK v' w' _ h3 (.inr ⟨5, rfl, rfl⟩) h2 (fun _ => .inr (h4.imp id fun h k hk => by rw [h] at hk; cases hk; exact Nat.le_refl _))
    | 12, _, ho, hd =>
      cases ho
      intro K hK
      have e9 : (fZ gb ga gr p g t gs x15 x16 x17 u x).tmps[9]?.getD undef = .pointer (some ⟨g, 0, none⟩) := rfl
      generalize (fZ gb ga gr p g t gs x15 x16 x17 u x) = AA at *
      go_simp
      exact hK (.pointer (some ⟨g, 1, none⟩)) _ none (World.grownBy.refl _ _) (.inl rfl) rfl (fun h => by cases h)
    | k + 13, hi, _, _ => omega
  · intro x w2 hg hall K hK
    have d11 : w2.ownsRow U.heap.size 83 13 (x 11) _ _ := hall 11 (by omega) fun j hj => by unfold eatsR53; split <;> simp
    have d12 : x 12 = .pointer (some ⟨g, 1, none⟩) := hall 12 (by omega) fun j hj => by unfold eatsR53; split <;> simp
    obtain ⟨B', c', hx, -, -⟩ := own_rows svcC_len rfl d11
    have HF := Lib.hid (fin (x 11) (fun j => (fZ gb ga gr p g t gs x15 x16 x17 u x).tmps.getD j undef) w2 d11 hg)
    have HK := Lib.hid hK
    have HE := Lib.hid (show fZ gb ga gr p g t gs x15 x16 x17 u x = fA gb ga gr p g t gs x15 x16 x17 (fun j => (fZ gb ga gr p g t gs x15 x16 x17 u x).tmps.getD j undef) by kernel_rfl)
    have Xg := blk_grow HB.out hg
    have q0 := cell_of_row w2 _ 0 _ _ _ Xg
    have q1 := cell_of_row w2 _ 1 _ _ _ Xg
    have q2 := cell_of_row w2 _ 2 _ _ _ Xg
    have q3 := cell_of_row w2 _ 3 _ _ _ Xg
    have z0 := frozen_of_row w2 _ 0 _ _ Xg
    have z1 := frozen_of_row w2 _ 1 _ _ Xg
    have z2 := frozen_of_row w2 _ 2 _ _ Xg
    have z3 := frozen_of_row w2 _ 3 _ _ Xg
    have e299 : (fZ gb ga gr p g t gs x15 x16 x17 u x).tmps[299]?.getD undef = .pointer (some ⟨g, 1, none⟩) := (show _ = x 12 from rfl).trans d12
    have e298 : (fZ gb ga gr p g t gs x15 x16 x17 u x).tmps[298]?.getD undef = .slice B' _ c' := (show _ = x 11 from rfl).trans hx
    rw [hx] at HF
    generalize (svcs.take p ++ svcs.drop (p + 1)).length = LL at HF e298
    clear hall hK fin d11 d12 hx Xg
    generalize fZ gb ga gr p g t gs x15 x16 x17 u x = AA at *
    go_simp
    refine HK.out _ _ ?_
    rw [HE.out]
    exact HF.out

section
variable {b : Book} {cps : List Cpy} {a : SAct} {s : Svc} {i : Nat} {A1 A2 A3 Ae B2 B3 : Option Addr} {c1 c2 c3 ne ce n2 e1 e2 e3 gb ga gr g gs g1 base : Nat} {ver : Int} {w U : World}
theorem l4T50 {x15 x16 x17 : Value} {u : Nat → Value} {Q : Exit → Act → World → Prop} {nx : Int} (S : L4St b cps a A1 A2 A3 Ae B2 B3 c1 c2 c3 ne ce n2 e1 e2 e3 gb ga gr g gs g1 base #[.string s.name, .int .i64 ver, .bool s.gone, .int .i64 s.image, .int .i64 (scaled a s).want, .int .i64 s.down, .int .i64 s.over, .int .i64 nx, .int .i64 s.per, .int .i64 s.least, .int .i64 s.most, .int .i64 s.load, .int .i64 (scaled a s).cool] w U)
    (next : ∀ u V, L4St b cps a A1 A2 A3 Ae B2 B3 c1 c2 c3 ne ce n2 e1 e2 e3 gb ga gr g gs g1 base #[.string s.name, .int .i64 (b.now + 1), .bool s.gone, .int .i64 s.image, .int .i64 (scaled a s).want, .int .i64 s.down, .int .i64 s.over, .int .i64 nx, .int .i64 s.per, .int .i64 s.least, .int .i64 s.most, .int .i64 s.load, .int .i64 (scaled a s).cool] w V → l4t51.wp Try.prog Q (fA gb ga gr i g (b.now + 1) gs x15 x16 x17 u) V) : l4t50.wp Try.prog Q (fA gb ga gr i g (b.now + 1) gs x15 x16 x17 u) U := by
  refine wp_seq' (headOf l4t50) l4t51 (by kernel_rfl) ?_
  have NX := Lib.hid next
  clear next
  conv => arg 2; whnf
  unfold fA
  have s1 := cell_of_row U _ 1 _ _ _ S.XS
  have sf1 := frozen_of_row U _ 1 _ _ S.XS
  go_wp2
  refine reframe (fun u => fA gb ga gr i g (b.now + 1) gs x15 x16 x17 u) (by kernel_rfl) ?_
  intro u
  exact NX.out _ _ (S.keep (by (repeat (first | with_reducible exact Keep.refl _ _ | with_reducible assumption | with_reducible refine Keep.drew ?_ | with_reducible refine Keep.alloc ?_ _ | with_reducible refine Keep.set ?_ rfl _ | (with_reducible refine Keep.setNew ?_ ?_ _; rotate_left; (first | (dsimp only; omega) | (simp <;> omega)))))) (blk_set S.XS 1 _))
theorem l4T51 {x15 x16 x17 : Value} {u : Nat → Value} {Q : Exit → Act → World → Prop} {nx : Int} {s' : Svc} (S : L4St b cps a A1 A2 A3 Ae B2 B3 c1 c2 c3 ne ce n2 e1 e2 e3 gb ga gr g gs g1 base #[.string s.name, .int .i64 (b.now + 1), .bool s.gone, .int .i64 s.image, .int .i64 (scaled a s).want, .int .i64 s.down, .int .i64 s.over, .int .i64 nx, .int .i64 s.per, .int .i64 s.least, .int .i64 s.most, .int .i64 s.load, .int .i64 (scaled a s).cool] w U) (hs : Hid (b.svcs[i]? = some s))
    (hs' : Hid (s' = ⟨s.name, b.now + 1, s.gone, s.image, (scaled a s).want, s.down, s.over, nx, s.per, s.least, s.most, s.load, (scaled a s).cool⟩))
    (next : ∀ u V, L4Fin a Ae ne ce ⟨b.now, b.svcs.set i s', cps, b.brs⟩ (.slice (some ⟨g1, 0, none⟩) b.svcs.length e1) (.slice B2 n2 e2) (.slice B3 b.brs.length e3) ga gr g base w V → l4t52.wp Try.prog Q (fA gb ga gr i g (b.now + 1) gs x15 x16 x17 u) V) :
   l4t51.wp Try.prog Q (fA gb ga gr i g (b.now + 1) gs x15 x16 x17 u) U := by
  refine wp_seq' (headOf l4t51) l4t52 (by kernel_rfl) ?_
  have NX := Lib.hid next
  clear next
  have hi : i < b.svcs.length := (List.getElem?_eq_some_iff.1 hs.out).1
  conv => arg 2; whnf
  unfold fA
  obtain ⟨x0, x1, x2, x3⟩ := box4 S.M.box
  have k0 := cell_of_row U _ 0 _ _ _ S.XS
  have k1 := cell_of_row U _ 1 _ _ _ S.XS
  have k2 := cell_of_row U _ 2 _ _ _ S.XS
  have k3 := cell_of_row U _ 3 _ _ _ S.XS
  have k4 := cell_of_row U _ 4 _ _ _ S.XS
  have k5 := cell_of_row U _ 5 _ _ _ S.XS
  have k6 := cell_of_row U _ 6 _ _ _ S.XS
  have k7 := cell_of_row U _ 7 _ _ _ S.XS
  have k8 := cell_of_row U _ 8 _ _ _ S.XS
  have k9 := cell_of_row U _ 9 _ _ _ S.XS
  have k10 := cell_of_row U _ 10 _ _ _ S.XS
  have k11 := cell_of_row U _ 11 _ _ _ S.XS
  have k12 := cell_of_row U _ 12 _ _ _ S.XS
  obtain ⟨g1', e1', hg1, hg1', hf1⟩ := own_head (xs := b.svcs) S.M.rows.r1 (by intro e; rw [e] at hi; simp at hi)
  simp only [Option.some.injEq, Addr.mk.injEq] at e1'
  obtain ⟨rfl, -, -⟩ := e1'
  have hfr : ∀ i, U.frozen? ⟨g1, i, none⟩ = false := hf1 _ (Grow.refl _)
  obtain ⟨bq, oq, hq, -, m0, m1, m2, m3, m4, m5, m6, m7, m8, m9, m10, m11, m12⟩ := svc_at (rows_of S.M.rows).2.1 hs.out
  simp only [Option.some.injEq, Addr.mk.injEq] at hq
  obtain ⟨rfl, rfl, -⟩ := hq
  simp only [Nat.zero_add] at m0 m1 m2 m3 m4 m5 m6 m7 m8 m9 m10 m11 m12
  have z1 : (0 : Int) ≤ (i : Nat) := by omega
  have z2 : ((i : Nat) : Int) < (b.svcs.length : Nat) := by omega
  go_wp2
  refine reframe (fun u => fA gb ga gr i g (b.now + 1) gs x15 x16 x17 u) (by kernel_rfl) ?_
  intro u
  obtain ⟨M', K'⟩ := S.M.svc13 (s' := s') hs.out
  rw [hs'.out] at M' K' NX
  have q1 := S.o1
  have q2 := S.o2
  have q3 := S.o3
  have q4 := S.o4
  have q5 := S.o5
  have hb : base ≤ w.heap.size + base := by omega
  refine NX.out _ _ ⟨Keep.grow K' S.G (by omega), by omega, by omega, by omega, by omega, Keep.blk K' S.X2 (by omega), Keep.blk K' S.X3 (by omega), M'⟩
theorem l4T54 {x15 x16 x17 : Value} {u : Nat → Value} {b1 : Book} {v1 v2 v3 : Value} {r : Book × Int} (F : L4Fin a Ae ne ce b1 v1 v2 v3 ga gr g base w U) (hr : Hid (r = (⟨b.now + 1, b1.svcs, b1.cps, b1.brs⟩, 0))) :
    l4t54.wp Try.prog (bodyPost Try.prog Try.f98 (Applied r w)) (fA gb ga gr i g (b.now + 1) gs x15 x16 x17 u) U := by
  refine wp_seq' (headOf l4t54) (restOf l4t54) (by kernel_rfl) ?_
  conv => arg 2; whnf
  unfold fA
  obtain ⟨A1', c1', A2', c2', A3', c3', rfl, rfl, rfl⟩ := rows3_form F.M.rows
  have f0 := frozen_of_row U _ 0 _ _ F.M.box
  have k0 := cell_of_row U _ 0 _ _ _ F.M.box
  go_wp2
  refine rename ?_
  intro V hV
  have M' : Mine base g V (.slice A1' b1.svcs.length c1') (.slice A2' b1.cps.length c2') (.slice A3' b1.brs.length c3') ⟨b.now + 1, b1.svcs, b1.cps, b1.brs⟩ := by rw [hV.out]; exact F.M.setBox (i := 0) (b' := ⟨b.now + 1, b1.svcs, b1.cps, b1.brs⟩) rfl ⟨F.M.rows.r1, F.M.rows.r2, F.M.rows.r3⟩
  have K := keep_eq hV (show Keep g U _ by (repeat (first | with_reducible exact Keep.refl _ _ | with_reducible assumption | with_reducible refine Keep.drew ?_ | with_reducible refine Keep.alloc ?_ _ | with_reducible refine Keep.set ?_ rfl _ | (with_reducible refine Keep.setNew ?_ ?_ _; rotate_left; (first | (dsimp only; omega) | (simp <;> omega))))))
  have q1 := F.o1
  have q3 := F.o3
  have q4 := F.o4
  have q5 := F.o5
  have G' := Lib.hid (Keep.grow K F.G (by omega))
  have X3' := Lib.hid (Keep.blk K F.X3 (by omega))
  have HM := Lib.hid M'
  clear hV K f0 k0 M'
  refine reframe (fun u => fA gb ga gr i g (b.now + 1) gs x15 x16 x17 u) (by kernel_rfl) ?_
  intro u
  conv => arg 2; whnf
  unfold fA
  obtain ⟨x0, x1, x2, x3⟩ := box4 HM.out.box
  have gz0 := cell_of_row V _ 0 _ _ _ X3'.out
  have gz1 := cell_of_row V _ 1 _ _ _ X3'.out
  have gz2 := cell_of_row V _ 2 _ _ _ X3'.out
  have gz3 := cell_of_row V _ 3 _ _ _ X3'.out
  have fz0 := frozen_of_row V _ 0 _ _ X3'.out
  have fz1 := frozen_of_row V _ 1 _ _ X3'.out
  have fz2 := frozen_of_row V _ 2 _ _ X3'.out
  have fz3 := frozen_of_row V _ 3 _ _ X3'.out
  go_wp2
  refine bodyPost_ret (v := .tuple #[.agg #[.int .i64 (b.now + 1), .slice A1' b1.svcs.length c1', .slice A2' b1.cps.length c2', .slice A3' b1.brs.length c3'], .int .i64 0]) (by simp [results, Try.results98, go_sem, gz0, gz1, gz2, gz3]) rfl ?_
  rw [hr.out]
  have R : Rows3 base ((((V.setCell ⟨gr, 0, none⟩ (.int .i64 (b.now + 1))).setCell ⟨gr, 1, none⟩ (.slice A1' b1.svcs.length c1')).setCell ⟨gr, 2, none⟩ (.slice A2' b1.cps.length c2')).setCell ⟨gr, 3, none⟩ (.slice A3' b1.brs.length c3')) (.slice A1' b1.svcs.length c1') (.slice A2' b1.cps.length c2') (.slice A3' b1.brs.length c3') ⟨b.now + 1, b1.svcs, b1.cps, b1.brs⟩ := rows3_below (rows3_below (rows3_below (rows3_below HM.out.rows (by simp; omega) _) (by simp; omega) _) (by simp; omega) _) (by simp; omega) _
  obtain ⟨-, r1, r2, r3⟩ := rows_of R
  exact ⟨_, rfl, ⟨_, _, _, _, _, _, rfl, r1, r2, r3⟩, by (repeat (refine Grow.set ?_ (by simp <;> omega) _)); exact G'.out⟩
theorem l4T52 {x15 x16 x17 : Value} {u : Nat → Value} {b1 : Book} {v1 v2 v3 : Value} {r : Book × Int} (F : L4Fin a Ae ne ce b1 v1 v2 v3 ga gr g base w U) (hi : i < b1.svcs.length) (hl : b1.svcs.length ≤ 8) (hr : Hid (r = (⟨b.now + 1, if a.drop then b1.svcs.eraseIdx i else b1.svcs, b1.cps, b1.brs⟩, 0))) :
    l4t52.wp Try.prog (bodyPost Try.prog Try.f98 (Applied r w)) (fA gb ga gr i g (b.now + 1) gs x15 x16 x17 u) U := by
  refine wp_seq' (headOf l4t52) l4t54 (by kernel_rfl) ?_
  have a7 := cell_of_row U _ 7 _ _ _ F.X2
  rcases hd : a.drop
  · rw [hd] at a7
    have HR := Lib.hid (show r = (⟨b.now + 1, b1.svcs, b1.cps, b1.brs⟩, 0) by rw [hr.out, hd]; rfl)
    clear hd
    conv => arg 2; whnf
    unfold fA
    go_wp2
    refine reframe (fun u => fA gb ga gr i g (b.now + 1) gs x15 x16 x17 u) (by kernel_rfl) ?_
    intro u
    exact l4T54 F HR
  · rw [hd] at a7
    have HR := Lib.hid (show r = (⟨b.now + 1, b1.svcs.eraseIdx i, b1.cps, b1.brs⟩, 0) by rw [hr.out, hd]; rfl)
    obtain ⟨A1', c1', A2', c2', A3', c3', rfl, rfl, rfl⟩ := rows3_form F.M.rows
    clear hd
    refine wp_seq' (headOf (headOf l4t52)) (restOf (headOf l4t52)) (by kernel_rfl) ?_
    conv => arg 2; whnf
    unfold fA
    go_wp2
    refine reframe (fun u => fY gb ga gr i g (b.now + 1) gs x15 x16 x17 u) (by kernel_rfl) ?_
    intro u
    conv => arg 2; whnf
    refine wp_cond_true rfl ?_
    refine chainR53 b1.svcs (Lib.hid F.M.box) (rows_of F.M.rows).2.1 rfl hl (own_cap F.M.rows.r1) hi ?_
    intro v u V hv hg
    show l4t54.wp Try.prog _ _ _
    obtain ⟨B', c', rfl, -, -⟩ := own_rows svcC_len rfl hv
    have M1 := F.M.grow hg
    have gl := blk_lt F.M.box
    have q1 := F.o1
    have q3 := F.o3
    have q4 := F.o4
    have q5 := F.o5
    have he : b1.svcs.take i ++ b1.svcs.drop (i + 1) = b1.svcs.eraseIdx i := (List.eraseIdx_eq_take_drop_succ _ _).symm
    rw [he] at hv
    have M2 := M1.setBox (i := 1) (u := .slice B' (b1.svcs.eraseIdx i).length c') (b' := ⟨b1.now, b1.svcs.eraseIdx i, b1.cps, b1.brs⟩) rfl ⟨own_base hv (by omega), M1.rows.r2, M1.rows.r3⟩
    have K : Keep g V (V.setCell ⟨g, 1, none⟩ (.slice B' (b1.svcs.eraseIdx i).length c')) := Keep.set (Keep.refl g V) rfl _
    rw [he]
    exact l4T54 ⟨Keep.grow K (F.G.trans hg) (by omega), q1, q3, q4, q5, Keep.blk K (blk_grow F.X2 hg) (by omega), Keep.blk K (blk_grow F.X3 hg) (by omega), M2⟩ HR
end
set_option maxRecDepth 1000000 in
set_option maxHeartbeats 2000000 in
theorem l4T41 (b : Book) (cps : List Cpy) (a : SAct) (s : Svc) (i : Nat) {A1 A2 A3 Ae B2 B3 : Option Addr} {c1 c2 c3 ne ce n2 e1 e2 e3 : Nat} {gb ga gr g gs g1 base : Nat} {ver : Int} (w U : World) (hf : Hid (Fit b)) (hfm : Hid (formedB a = true)) (HQ : Hid (svcAt b.svcs a.service = some i)) (HS : Hid (b.svcs[i]? = some s)) (hnm : Hid (s.name = a.service)) (hcl : Hid (cps.length = b.cps.length)) (hnum : Hid (∀ x ∈ cps, eqN x.service s.name = true → x.number < s.next)) (REF : Hid (∀ (z : Int) (w' : World), Grow w w' → Applied (b, z) w (.returned (.tuple #[.agg #[.int .i64 b.now, .slice A1 b.svcs.length c1, .slice A2 b.cps.length c2, .slice A3 b.brs.length c3], .int .i64 z])) w'))
    (HB : Hid (actV b a = if whyNot b ⟨b.now, b.svcs, cps, b.brs⟩ a s = 0 then (actDone b ⟨b.now, b.svcs, cps, b.brs⟩ a s i, 0) else (b, whyNot b ⟨b.now, b.svcs, cps, b.brs⟩ a s))) (hD0 : Hid ((a.drop && (!s.gone || decide (0 < (cntOf b.cps s.name s.image).live + (cntOf b.cps s.name s.image).ending))) = false)) (hD1 : Hid ((a.scale && (decide (s.per = 0) || !inB s.least a.want s.most)) = false)) (hD2 : Hid ((decide (0 < a.create) && (s.gone || decide ((scaled a s).want + s.over < (cntOf cps s.name s.image).live + a.create))) = false)) (hD3 : Hid ((decide (200 < (b.cps.length : Int) + a.create) || (decide (1000000 < s.next + a.create) || decide (1000000 ≤ b.now))) = false))
    (S : L4St b cps a A1 A2 A3 Ae B2 B3 c1 c2 c3 ne ce n2 e1 e2 e3 gb ga gr g gs g1 base #[.string s.name, .int .i64 ver, .bool s.gone, .int .i64 s.image, .int .i64 (scaled a s).want, .int .i64 s.down, .int .i64 s.over, .int .i64 s.next, .int .i64 s.per, .int .i64 s.least, .int .i64 s.most, .int .i64 s.load, .int .i64 (scaled a s).cool] w U) (u0 u1 u5 u7 u8 u11 u12 u14 u15 u16 u17 u18 u19 u20 u21 u22 u23 u24 u25 u26 u27 u28 u29 u30 u31 u32 u33 u34 u35 u36 u37 u38 u39 u40 u41 u42 u43 u44 u45 u46 u47 u48 u49 u50 u51 u52 u53 u54 u55 u56 u57 u58 u59 u60 u61 u62 u63 u64 u65 u66 u67 u68 u69 u70 u71 u72 u73 u74 u75 u76 u77 u78 u79 u80 u81 u82 u83 u84 u85 u86 u87 u88 u89 u90 u91 u92 u93 u94 u95 u96 u97 u98 u99 u100 u101 u102 u103 u104 u105 u106 u107 u108 u109 u110 u111 u112 u113 u114 u115 u116 u117 u118 u119 u120 u121 u122 u123 u124 u125 u126 u127 u128 u129 u130 u131 u132 u133 u134 u135 u136 u137 u138 u139 u140 u141 u142 u143 u144 u145 u146 u147 u148 u149 u150 u151 u152 u153 u154 u155 u156 u157 u158 u159 u160 u161 u162 u163 u164 u165 u166 u167 u168 u169 u170 u171 u172 u173 u174 u175 u176 u177 u178 u179 u180 u181 u182 u183 u184 u185 u186 u187 u188 u189 u190 u191 u192 u193 u194 u195 u196 u197 u198 u199 u200 u201 u202 u203 u204 u205 u206 u207 u208 u209 u210 u211 u212 u213 u214 u215 u216 u217 u218 u219 u220 u221 u222 u223 u224 u225 u226 u227 u228 u229 u230 u231 u232 u233 u234 u235 u236 u237 u238 u239 u240 u241 u242 u243 u244 u245 u246 u247 u248 u249 u250 u251 u252 u253 u254 u255 u256 u257 u258 u259 u260 u261 u262 u263 u264 u265 u266 u267 u268 u269 u270 u271 u272 u273 u274 u275 u276 u277 u278 u279 u280 u281 u282 u283 u284 u285 u286 u287 u288 u289 u290 u291 u292 u293 u294 u295 u296 u297 u298 u299 u300 u301 u302 : Value) :
    l4t41.wp Try.prog (bodyPost Try.prog Try.f98 (Applied (actV b a) w)) ⟨#[u0, u1, .pointer (some ⟨gb, 0, none⟩), .pointer (some ⟨ga, 0, none⟩), .pointer (some ⟨gr, 0, none⟩), u5, .int .i64 i, u7, u8, .pointer (some ⟨g, 0, none⟩), .int .i64 (b.now + 1), u11, u12, .pointer (some ⟨gs, 0, none⟩), u14, u15, u16, u17, u18, u19, u20, u21, u22, u23, u24, u25, u26, u27, u28, u29, u30, u31, u32, u33, u34, u35, u36, u37, u38, u39, u40, u41, u42, u43, u44, u45, u46, u47, u48, u49, u50, u51, u52, u53, u54, u55, u56, u57, u58, u59, u60, u61, u62, u63, u64, u65, u66, u67, u68, u69, u70, u71, u72, u73, u74, u75, u76, u77, u78, u79, u80, u81, u82, u83, u84, u85, u86, u87, u88, u89, u90, u91, u92, u93, u94, u95, u96, u97, u98, u99, u100, u101, u102, u103, u104, u105, u106, u107, u108, u109, u110, u111, u112, u113, u114, u115, u116, u117, u118, u119, u120, u121, u122, u123, u124, u125, u126, u127, u128, u129, u130, u131, u132, u133, u134, u135, u136, u137, u138, u139, u140, u141, u142, u143, u144, u145, u146, u147, u148, u149, u150, u151, u152, u153, u154, u155, u156, u157, u158, u159, u160, u161, u162, u163, u164, u165, u166, u167, u168, u169, u170, u171, u172, u173, u174, u175, u176, u177, u178, u179, u180, u181, u182, u183, u184, u185, u186, u187, u188, u189, u190, u191, u192, u193, u194, u195, u196, u197, u198, u199, u200, u201, u202, u203, u204, u205, u206, u207, u208, u209, u210, u211, u212, u213, u214, u215, u216, u217, u218, u219, u220, u221, u222, u223, u224, u225, u226, u227, u228, u229, u230, u231, u232, u233, u234, u235, u236, u237, u238, u239, u240, u241, u242, u243, u244, u245, u246, u247, u248, u249, u250, u251, u252, u253, u254, u255, u256, u257, u258, u259, u260, u261, u262, u263, u264, u265, u266, u267, u268, u269, u270, u271, u272, u273, u274, u275, u276, u277, u278, u279, u280, u281, u282, u283, u284, u285, u286, u287, u288, u289, u290, u291, u292, u293, u294, u295, u296, u297, u298, u299, u300, u301, u302], []⟩ U := by
  have hfc := formed_create hfm.out
  obtain ⟨-, -, -, -, hx0, hx1, -⟩ := hf.out.num s (List.mem_of_getElem? HS.out)
  have hcl2 : cps.length ≤ 200 := by have := hcl.out; have := hf.out.l2; omega
  obtain ⟨n, hn⟩ : ∃ n : Nat, a.create = n := ⟨a.create.toNat, by omega⟩
  have hD : (decide (200 < (b.cps.length : Int) + a.create) || (decide (1000000 < s.next + a.create) || decide (1000000 ≤ b.now))) = false := hD3.out
  simp only [Bool.or_eq_false_iff, decide_eq_false_iff_not] at hD
  have hW : whyNot b ⟨b.now, b.svcs, cps, b.brs⟩ a s = 0 := by unfold whyNot; simp only [hD0.out, hD1.out, hD2.out, hD3.out, Bool.or_false, Bool.false_eq_true, if_false]
  rw [if_pos hW] at HB
  refine wp_seq' (headOf l4t41) l4t50 (by kernel_rfl) ?_
  refine reframe (fun u => fA gb ga gr i g (b.now + 1) gs (u 15) (u 16) (u 17) u) (by kernel_rfl) ?_
  intro u
  refine l4Loop (n := n) S hcl2 (Lib.hid hn) (by omega) ⟨by omega, by omega⟩ hnm hnum ?_
  rintro u V ⟨B2', n2', e2', S2⟩
  show l4t50.wp Try.prog _ _ _
  refine l4T50 S2 ?_
  intro u V3 S3
  refine l4T51 (s' := grownS a (b.now + 1) s) S3 HS ?_ ?_
  · unfold Hid grownS
    rw [hn]
    unfold scaled
    split <;> rfl
  · intro u V4 F
    refine l4T52 F ?_ ?_ ?_
    · simpa using (List.getElem?_eq_some_iff.1 HS.out).1
    · simpa using hf.out.l1
    · unfold Hid
      rw [HB.out]
      have hct : a.create.toNat = n := by omega
      unfold actDone
      rw [hct]
      cases hd : a.drop
      · simp
      · obtain ⟨h1, h2, h3⟩ := formed_drop hfm.out hd
        simp [List.eraseIdx_set_eq]

end Go.Proofs.Ytnmknkdbeccmhaa
