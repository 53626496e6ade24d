/- The walk of the reference's l4Apply, regions 32 to 40: what stands in the way of an act. -/
import Derived.Test.YtnmknkdbeccmhaaAp21
namespace Go.Proofs.Ytnmknkdbeccmhaa
open Go.RowKit
set_option linter.unusedSimpArgs false
set_option linter.unusedVariables false
set_option maxRecDepth 1000000 in
set_option maxHeartbeats 2000000 in
theorem l4T39 (b : Book) (cps : List Cpy) (a : SAct) (s : Svc) (i : Nat) {A1 A2 A3 Ae B2 B3 : Option Addr} {c1 c2 c3 ne ce n2 e1 e2 e3 : Nat} {gb ga gr g gs g1 base : Nat} {ver : Int} (w U : World) (hf : Hid (Fit b)) (hfm : Hid (formedB a = true)) (HQ : Hid (svcAt b.svcs a.service = some i)) (HS : Hid (b.svcs[i]? = some s)) (hnm : Hid (s.name = a.service)) (hcl : Hid (cps.length = b.cps.length)) (hnum : Hid (∀ x ∈ cps, eqN x.service s.name = true → x.number < s.next)) (REF : Hid (∀ (z : Int) (w' : World), Grow w w' → Applied (b, z) w (.returned (.tuple #[.agg #[.int .i64 b.now, .slice A1 b.svcs.length c1, .slice A2 b.cps.length c2, .slice A3 b.brs.length c3], .int .i64 z])) w'))
    (HB : Hid (actV b a = if whyNot b ⟨b.now, b.svcs, cps, b.brs⟩ a s = 0 then (actDone b ⟨b.now, b.svcs, cps, b.brs⟩ a s i, 0) else (b, whyNot b ⟨b.now, b.svcs, cps, b.brs⟩ a s))) (hD0 : Hid ((a.drop && (!s.gone || decide (0 < (cntOf b.cps s.name s.image).live + (cntOf b.cps s.name s.image).ending))) = false)) (hD1 : Hid ((a.scale && (decide (s.per = 0) || !inB s.least a.want s.most)) = false)) (hD2 : Hid ((decide (0 < a.create) && (s.gone || decide ((scaled a s).want + s.over < (cntOf cps s.name s.image).live + a.create))) = false))
    (S : L4St b cps a A1 A2 A3 Ae B2 B3 c1 c2 c3 ne ce n2 e1 e2 e3 gb ga gr g gs g1 base #[.string s.name, .int .i64 ver, .bool s.gone, .int .i64 s.image, .int .i64 (scaled a s).want, .int .i64 s.down, .int .i64 s.over, .int .i64 s.next, .int .i64 s.per, .int .i64 s.least, .int .i64 s.most, .int .i64 s.load, .int .i64 (scaled a s).cool] w U) (u0 u1 u5 u7 u8 u11 u12 u14 u15 u16 u17 u18 u19 u20 u21 u22 u23 u24 u25 u26 u27 u28 u29 u30 u31 u32 u33 u34 u35 u36 u37 u38 u39 u40 u41 u42 u43 u44 u45 u46 u47 u48 u49 u50 u51 u52 u53 u54 u55 u56 u57 u58 u59 u60 u61 u62 u63 u64 u65 u66 u67 u68 u69 u70 u71 u72 u73 u74 u75 u76 u77 u78 u79 u80 u81 u82 u83 u84 u85 u86 u87 u88 u89 u90 u91 u92 u93 u94 u95 u96 u97 u98 u99 u100 u101 u102 u103 u104 u105 u106 u107 u108 u109 u110 u111 u112 u113 u114 u115 u116 u117 u118 u119 u120 u121 u122 u123 u124 u125 u126 u127 u128 u129 u130 u131 u132 u133 u134 u135 u136 u137 u138 u139 u140 u141 u142 u143 u144 u145 u146 u147 u148 u149 u150 u151 u152 u153 u154 u155 u156 u157 u158 u159 u160 u161 u162 u163 u164 u165 u166 u167 u168 u169 u170 u171 u172 u173 u174 u175 u176 u177 u178 u179 u180 u181 u182 u183 u184 u185 u186 u187 u188 u189 u190 u191 u192 u193 u194 u195 u196 u197 u198 u199 u200 u201 u202 u203 u204 u205 u206 u207 u208 u209 u210 u211 u212 u213 u214 u215 u216 u217 u218 u219 u220 u221 u222 u223 u224 u225 u226 u227 u228 u229 u230 u231 u232 u233 u234 u235 u236 u237 u238 u239 u240 u241 u242 u243 u244 u245 u246 u247 u248 u249 u250 u251 u252 u253 u254 u255 u256 u257 u258 u259 u260 u261 u262 u263 u264 u265 u266 u267 u268 u269 u270 u271 u272 u273 u274 u275 u276 u277 u278 u279 u280 u281 u282 u283 u284 u285 u286 u287 u288 u289 u290 u291 u292 u293 u294 u295 u296 u297 u298 u299 u300 u301 u302 : Value) :
    l4t39.wp Try.prog (bodyPost Try.prog Try.f98 (Applied (actV b a) w)) ⟨#[u0, u1, .pointer (some ⟨gb, 0, none⟩), .pointer (some ⟨ga, 0, none⟩), .pointer (some ⟨gr, 0, none⟩), u5, .int .i64 i, u7, u8, .pointer (some ⟨g, 0, none⟩), .int .i64 (b.now + 1), u11, u12, .pointer (some ⟨gs, 0, none⟩), u14, u15, u16, u17, u18, u19, u20, u21, u22, u23, u24, u25, u26, u27, u28, u29, u30, u31, u32, u33, u34, u35, u36, u37, u38, u39, u40, u41, u42, u43, u44, u45, u46, u47, u48, u49, u50, u51, u52, u53, u54, u55, u56, u57, u58, u59, u60, u61, u62, u63, u64, u65, u66, u67, u68, u69, u70, u71, u72, u73, u74, u75, u76, u77, u78, u79, u80, u81, u82, u83, u84, u85, u86, u87, u88, u89, u90, u91, u92, u93, u94, u95, u96, u97, u98, u99, u100, u101, u102, u103, u104, u105, u106, u107, u108, u109, u110, u111, u112, u113, u114, u115, u116, u117, u118, u119, u120, u121, u122, u123, u124, u125, u126, u127, u128, u129, u130, u131, u132, u133, u134, u135, u136, u137, u138, u139, u140, u141, u142, u143, u144, u145, u146, u147, u148, u149, u150, u151, u152, u153, u154, u155, u156, u157, u158, u159, u160, u161, u162, u163, u164, u165, u166, u167, u168, u169, u170, u171, u172, u173, u174, u175, u176, u177, u178, u179, u180, u181, u182, u183, u184, u185, u186, u187, u188, u189, u190, u191, u192, u193, u194, u195, u196, u197, u198, u199, u200, u201, u202, u203, u204, u205, u206, u207, u208, u209, u210, u211, u212, u213, u214, u215, u216, u217, u218, u219, u220, u221, u222, u223, u224, u225, u226, u227, u228, u229, u230, u231, u232, u233, u234, u235, u236, u237, u238, u239, u240, u241, u242, u243, u244, u245, u246, u247, u248, u249, u250, u251, u252, u253, u254, u255, u256, u257, u258, u259, u260, u261, u262, u263, u264, u265, u266, u267, u268, u269, u270, u271, u272, u273, u274, u275, u276, u277, u278, u279, u280, u281, u282, u283, u284, u285, u286, u287, u288, u289, u290, u291, u292, u293, u294, u295, u296, u297, u298, u299, u300, u301, u302], []⟩ U := by
  refine wp_seq' l4s39 l4t41 (by kernel_rfl) ?_
  conv => arg 2; whnf
  have hfc := formed_create hfm.out
  have hfb := hf.out.l2
  have hnw := hf.out.now
  obtain ⟨-, -, -, -, hx0, hx1, -⟩ := hf.out.num s (List.mem_of_getElem? HS.out)
  have a2 := cell_of_row U _ 2 _ _ _ S.X2
  have b0 := cell_of_row U _ 0 _ _ _ S.X1
  have b2 := cell_of_row U _ 2 _ _ _ S.X1
  have s7 := cell_of_row U _ 7 _ _ _ S.XS
  rcases hD : (decide (200 < (b.cps.length : Int) + a.create) || (decide (1000000 < s.next + a.create) || decide (1000000 ≤ b.now)))
  · have h1 : decide (200 < (b.cps.length : Int) + a.create) = false := by revert hD; cases decide (200 < (b.cps.length : Int) + a.create) <;> simp
    have h2 : decide (1000000 < s.next + a.create) = false := by revert hD; cases decide (1000000 < s.next + a.create) <;> simp
    have h3 : decide (1000000 ≤ b.now) = false := by revert hD; cases decide (1000000 ≤ b.now) <;> simp
    have HD := Lib.hid hD
    clear hD
    go_wp2
    apply l4T41 b cps a s i w U hf hfm HQ HS hnm hcl hnum REF HB hD0 hD1 hD2 HD S
  · have HR := Lib.hid (show actV b a = (b, 7) by rw [HB.out, show whyNot b ⟨b.now, b.svcs, cps, b.brs⟩ a s = 7 by unfold whyNot; simp only [hD0.out, hD1.out, hD2.out, hD, Bool.false_or, if_true, Bool.false_eq_true, if_false]]; rfl)
    by_cases h1 : decide (200 < (b.cps.length : Int) + a.create) = true
    all_goals by_cases h2 : decide (1000000 < s.next + a.create) = true
    all_goals by_cases h3 : decide (1000000 ≤ b.now) = true
    all_goals (try (exfalso; revert hD h1 h2 h3; cases decide (200 < (b.cps.length : Int) + a.create) <;> cases decide (1000000 < s.next + a.create) <;> cases decide (1000000 ≤ b.now) <;> simp; done))
    all_goals
      try simp only [Bool.not_eq_true] at h1
      try simp only [Bool.not_eq_true] at h2
      try simp only [Bool.not_eq_true] at h3
      clear hD
      have e1 := S.X1
      have e3 := S.X3
      have fb0 := cell_of_row U _ 0 _ _ _ e1
      have fb1 := cell_of_row U _ 1 _ _ _ e1
      have fb2 := cell_of_row U _ 2 _ _ _ e1
      have fb3 := cell_of_row U _ 3 _ _ _ e1
      have gz0 := cell_of_row U _ 0 _ _ _ e3
      have gz1 := cell_of_row U _ 1 _ _ _ e3
      have gz2 := cell_of_row U _ 2 _ _ _ e3
      have gz3 := cell_of_row U _ 3 _ _ _ e3
      have fz0 := frozen_of_row U _ 0 _ _ e3
      have fz1 := frozen_of_row U _ 1 _ _ e3
      have fz2 := frozen_of_row U _ 2 _ _ e3
      have fz3 := frozen_of_row U _ 3 _ _ e3
      clear e1 e3
      go_wp2
      refine bodyPost_ret (v := .tuple #[.agg #[.int .i64 b.now, .slice A1 b.svcs.length c1, .slice A2 b.cps.length c2, .slice A3 b.brs.length c3], .int .i64 7]) (by simp [results, Try.results98, go_sem, gz0, gz1, gz2, gz3]) rfl ?_
      rw [HR.out]
      exact REF.out 7 _ (by (repeat (refine Grow.set ?_ (by have := S.o1; have := S.o2; have := S.o3; simp <;> omega) _)); exact S.G)

set_option maxRecDepth 1000000 in
set_option maxHeartbeats 2000000 in
theorem l4T37 (b : Book) (cps : List Cpy) (a : SAct) (s : Svc) (i : Nat) {A1 A2 A3 Ae B2 B3 : Option Addr} {c1 c2 c3 ne ce n2 e1 e2 e3 : Nat} {gb ga gr g gs g1 base : Nat} {ver : Int} (w U : World) (hf : Hid (Fit b)) (hfm : Hid (formedB a = true)) (HQ : Hid (svcAt b.svcs a.service = some i)) (HS : Hid (b.svcs[i]? = some s)) (hnm : Hid (s.name = a.service)) (hcl : Hid (cps.length = b.cps.length)) (hnum : Hid (∀ x ∈ cps, eqN x.service s.name = true → x.number < s.next)) (REF : Hid (∀ (z : Int) (w' : World), Grow w w' → Applied (b, z) w (.returned (.tuple #[.agg #[.int .i64 b.now, .slice A1 b.svcs.length c1, .slice A2 b.cps.length c2, .slice A3 b.brs.length c3], .int .i64 z])) w'))
    (HB : Hid (actV b a = if whyNot b ⟨b.now, b.svcs, cps, b.brs⟩ a s = 0 then (actDone b ⟨b.now, b.svcs, cps, b.brs⟩ a s i, 0) else (b, whyNot b ⟨b.now, b.svcs, cps, b.brs⟩ a s))) (hD0 : Hid ((a.drop && (!s.gone || decide (0 < (cntOf b.cps s.name s.image).live + (cntOf b.cps s.name s.image).ending))) = false)) (hD2 : Hid ((decide (0 < a.create) && (s.gone || decide ((scaled a s).want + s.over < (cntOf cps s.name s.image).live + a.create))) = false))
    (S : L4St b cps a A1 A2 A3 Ae B2 B3 c1 c2 c3 ne ce n2 e1 e2 e3 gb ga gr g gs g1 base #[.string s.name, .int .i64 ver, .bool s.gone, .int .i64 s.image, .int .i64 (scaled a s).want, .int .i64 s.down, .int .i64 s.over, .int .i64 s.next, .int .i64 s.per, .int .i64 s.least, .int .i64 s.most, .int .i64 s.load, .int .i64 (scaled a s).cool] w U) (u0 u1 u5 u7 u8 u11 u12 u14 u15 u16 u17 u18 u19 u20 u21 u22 u23 u24 u25 u26 u27 u28 u29 u30 u31 u32 u33 u34 u35 u36 u37 u38 u39 u40 u41 u42 u43 u44 u45 u46 u47 u48 u49 u50 u51 u52 u53 u54 u55 u56 u57 u58 u59 u60 u61 u62 u63 u64 u65 u66 u67 u68 u69 u70 u71 u72 u73 u74 u75 u76 u77 u78 u79 u80 u81 u82 u83 u84 u85 u86 u87 u88 u89 u90 u91 u92 u93 u94 u95 u96 u97 u98 u99 u100 u101 u102 u103 u104 u105 u106 u107 u108 u109 u110 u111 u112 u113 u114 u115 u116 u117 u118 u119 u120 u121 u122 u123 u124 u125 u126 u127 u128 u129 u130 u131 u132 u133 u134 u135 u136 u137 u138 u139 u140 u141 u142 u143 u144 u145 u146 u147 u148 u149 u150 u151 u152 u153 u154 u155 u156 u157 u158 u159 u160 u161 u162 u163 u164 u165 u166 u167 u168 u169 u170 u171 u172 u173 u174 u175 u176 u177 u178 u179 u180 u181 u182 u183 u184 u185 u186 u187 u188 u189 u190 u191 u192 u193 u194 u195 u196 u197 u198 u199 u200 u201 u202 u203 u204 u205 u206 u207 u208 u209 u210 u211 u212 u213 u214 u215 u216 u217 u218 u219 u220 u221 u222 u223 u224 u225 u226 u227 u228 u229 u230 u231 u232 u233 u234 u235 u236 u237 u238 u239 u240 u241 u242 u243 u244 u245 u246 u247 u248 u249 u250 u251 u252 u253 u254 u255 u256 u257 u258 u259 u260 u261 u262 u263 u264 u265 u266 u267 u268 u269 u270 u271 u272 u273 u274 u275 u276 u277 u278 u279 u280 u281 u282 u283 u284 u285 u286 u287 u288 u289 u290 u291 u292 u293 u294 u295 u296 u297 u298 u299 u300 u301 u302 : Value) :
    l4t37.wp Try.prog (bodyPost Try.prog Try.f98 (Applied (actV b a) w)) ⟨#[u0, u1, .pointer (some ⟨gb, 0, none⟩), .pointer (some ⟨ga, 0, none⟩), .pointer (some ⟨gr, 0, none⟩), u5, .int .i64 i, u7, u8, .pointer (some ⟨g, 0, none⟩), .int .i64 (b.now + 1), u11, u12, .pointer (some ⟨gs, 0, none⟩), u14, u15, u16, u17, u18, u19, u20, u21, u22, u23, u24, u25, u26, u27, u28, u29, u30, u31, u32, u33, u34, u35, u36, u37, u38, u39, u40, u41, u42, u43, u44, u45, u46, u47, u48, u49, u50, u51, u52, u53, u54, u55, u56, u57, u58, u59, u60, u61, u62, u63, u64, u65, u66, u67, u68, u69, u70, u71, u72, u73, u74, u75, u76, u77, u78, u79, u80, u81, u82, u83, u84, u85, u86, u87, u88, u89, u90, u91, u92, u93, u94, u95, u96, u97, u98, u99, u100, u101, u102, u103, u104, u105, u106, u107, u108, u109, u110, u111, u112, u113, u114, u115, u116, u117, u118, u119, u120, u121, u122, u123, u124, u125, u126, u127, u128, u129, u130, u131, u132, u133, u134, u135, u136, u137, u138, u139, u140, u141, u142, u143, u144, u145, u146, u147, u148, u149, u150, u151, u152, u153, u154, u155, u156, u157, u158, u159, u160, u161, u162, u163, u164, u165, u166, u167, u168, u169, u170, u171, u172, u173, u174, u175, u176, u177, u178, u179, u180, u181, u182, u183, u184, u185, u186, u187, u188, u189, u190, u191, u192, u193, u194, u195, u196, u197, u198, u199, u200, u201, u202, u203, u204, u205, u206, u207, u208, u209, u210, u211, u212, u213, u214, u215, u216, u217, u218, u219, u220, u221, u222, u223, u224, u225, u226, u227, u228, u229, u230, u231, u232, u233, u234, u235, u236, u237, u238, u239, u240, u241, u242, u243, u244, u245, u246, u247, u248, u249, u250, u251, u252, u253, u254, u255, u256, u257, u258, u259, u260, u261, u262, u263, u264, u265, u266, u267, u268, u269, u270, u271, u272, u273, u274, u275, u276, u277, u278, u279, u280, u281, u282, u283, u284, u285, u286, u287, u288, u289, u290, u291, u292, u293, u294, u295, u296, u297, u298, u299, u300, u301, u302], []⟩ U := by
  refine wp_seq' l4s37 l4t39 (by kernel_rfl) ?_
  conv => arg 2; whnf
  have a5 := cell_of_row U _ 5 _ _ _ S.X2
  have a3 := cell_of_row U _ 3 _ _ _ S.X2
  have s8 := cell_of_row U _ 8 _ _ _ S.XS
  have s9 := cell_of_row U _ 9 _ _ _ S.XS
  have s10 := cell_of_row U _ 10 _ _ _ S.XS
  rcases hD : (a.scale && (decide (s.per = 0) || !inB s.least a.want s.most))
  · have HD := Lib.hid hD
    by_cases h1 : a.scale = true
    · rw [h1] at a5
      have h2 : (s.per == 0) = false := by revert hD; rw [h1]; cases h : decide (s.per = 0) <;> simp_all
      have h3 : inB s.least a.want s.most = true := by revert hD; rw [h1]; cases h : decide (s.per = 0) <;> simp
      have H3 := Lib.hid h3
      clear h1 hD h3
      go_wp2_with (go_at_call 60; refine (l1In_c _ _ _ _).mono ?_; rw [H3.out]; rintro e w1 ⟨rfl, rfl⟩)
      apply l4T39 b cps a s i w U hf hfm HQ HS hnm hcl hnum REF HB hD0 HD hD2 S
    · simp only [Bool.not_eq_true] at h1
      rw [h1] at a5
      clear h1 hD
      go_wp2
      apply l4T39 b cps a s i w U hf hfm HQ HS hnm hcl hnum REF HB hD0 HD hD2 S
  · have HR := Lib.hid (show actV b a = (b, 6) by rw [HB.out, show whyNot b ⟨b.now, b.svcs, cps, b.brs⟩ a s = 6 by unfold whyNot; simp only [hD0.out, hD, Bool.true_or, Bool.or_true, if_true]]; rfl)
    have h1 : a.scale = true := by revert hD; cases a.scale <;> simp
    rw [h1] at a5
    by_cases h2 : (s.per == 0) = true
    · clear hD h1
      have e1 := S.X1
      have e3 := S.X3
      have fb0 := cell_of_row U _ 0 _ _ _ e1
      have fb1 := cell_of_row U _ 1 _ _ _ e1
      have fb2 := cell_of_row U _ 2 _ _ _ e1
      have fb3 := cell_of_row U _ 3 _ _ _ e1
      have gz0 := cell_of_row U _ 0 _ _ _ e3
      have gz1 := cell_of_row U _ 1 _ _ _ e3
      have gz2 := cell_of_row U _ 2 _ _ _ e3
      have gz3 := cell_of_row U _ 3 _ _ _ e3
      have fz0 := frozen_of_row U _ 0 _ _ e3
      have fz1 := frozen_of_row U _ 1 _ _ e3
      have fz2 := frozen_of_row U _ 2 _ _ e3
      have fz3 := frozen_of_row U _ 3 _ _ e3
      clear e1 e3
      go_wp2
      refine bodyPost_ret (v := .tuple #[.agg #[.int .i64 b.now, .slice A1 b.svcs.length c1, .slice A2 b.cps.length c2, .slice A3 b.brs.length c3], .int .i64 6]) (by simp [results, Try.results98, go_sem, gz0, gz1, gz2, gz3]) rfl ?_
      rw [HR.out]
      exact REF.out 6 _ (by (repeat (refine Grow.set ?_ (by have := S.o1; have := S.o2; have := S.o3; simp <;> omega) _)); exact S.G)

    · simp only [Bool.not_eq_true] at h2
      have H3 := Lib.hid (show inB s.least a.want s.most = false by revert hD; rw [h1]; cases h : decide (s.per = 0) <;> simp_all)
      clear hD h1
      have e1 := S.X1
      have e3 := S.X3
      have fb0 := cell_of_row U _ 0 _ _ _ e1
      have fb1 := cell_of_row U _ 1 _ _ _ e1
      have fb2 := cell_of_row U _ 2 _ _ _ e1
      have fb3 := cell_of_row U _ 3 _ _ _ e1
      have gz0 := cell_of_row U _ 0 _ _ _ e3
      have gz1 := cell_of_row U _ 1 _ _ _ e3
      have gz2 := cell_of_row U _ 2 _ _ _ e3
      have gz3 := cell_of_row U _ 3 _ _ _ e3
      have fz0 := frozen_of_row U _ 0 _ _ e3
      have fz1 := frozen_of_row U _ 1 _ _ e3
      have fz2 := frozen_of_row U _ 2 _ _ e3
      have fz3 := frozen_of_row U _ 3 _ _ e3
      clear e1 e3
      go_wp2_with (go_at_call 60; refine (l1In_c _ _ _ _).mono ?_; rw [H3.out]; rintro e w1 ⟨rfl, rfl⟩)
      refine bodyPost_ret (v := .tuple #[.agg #[.int .i64 b.now, .slice A1 b.svcs.length c1, .slice A2 b.cps.length c2, .slice A3 b.brs.length c3], .int .i64 6]) (by simp [results, Try.results98, go_sem, gz0, gz1, gz2, gz3]) rfl ?_
      rw [HR.out]
      exact REF.out 6 _ (by (repeat (refine Grow.set ?_ (by have := S.o1; have := S.o2; have := S.o3; simp <;> omega) _)); exact S.G)


set_option maxRecDepth 1000000 in
set_option maxHeartbeats 2000000 in
theorem l4T35 (b : Book) (cps : List Cpy) (a : SAct) (s : Svc) (i : Nat) {A1 A2 A3 Ae B2 B3 : Option Addr} {c1 c2 c3 ne ce n2 e1 e2 e3 : Nat} {gb ga gr g gs g1 base : Nat} {ver : Int} (w U : World) (hf : Hid (Fit b)) (hfm : Hid (formedB a = true)) (HQ : Hid (svcAt b.svcs a.service = some i)) (HS : Hid (b.svcs[i]? = some s)) (hnm : Hid (s.name = a.service)) (hcl : Hid (cps.length = b.cps.length)) (hnum : Hid (∀ x ∈ cps, eqN x.service s.name = true → x.number < s.next)) (REF : Hid (∀ (z : Int) (w' : World), Grow w w' → Applied (b, z) w (.returned (.tuple #[.agg #[.int .i64 b.now, .slice A1 b.svcs.length c1, .slice A2 b.cps.length c2, .slice A3 b.brs.length c3], .int .i64 z])) w'))
    (HB : Hid (actV b a = if whyNot b ⟨b.now, b.svcs, cps, b.brs⟩ a s = 0 then (actDone b ⟨b.now, b.svcs, cps, b.brs⟩ a s i, 0) else (b, whyNot b ⟨b.now, b.svcs, cps, b.brs⟩ a s))) (hD0 : Hid ((a.drop && (!s.gone || decide (0 < (cntOf b.cps s.name s.image).live + (cntOf b.cps s.name s.image).ending))) = false))
    (S : L4St b cps a A1 A2 A3 Ae B2 B3 c1 c2 c3 ne ce n2 e1 e2 e3 gb ga gr g gs g1 base #[.string s.name, .int .i64 ver, .bool s.gone, .int .i64 s.image, .int .i64 (scaled a s).want, .int .i64 s.down, .int .i64 s.over, .int .i64 s.next, .int .i64 s.per, .int .i64 s.least, .int .i64 s.most, .int .i64 s.load, .int .i64 (scaled a s).cool] w U) (u0 u1 u5 u7 u8 u11 u12 u14 u15 u16 u17 u18 u19 u20 u21 u22 u23 u24 u25 u26 u27 u28 u29 u30 u31 u32 u33 u34 u35 u36 u37 u38 u39 u40 u41 u42 u43 u44 u45 u46 u47 u48 u49 u50 u51 u52 u53 u54 u55 u56 u57 u58 u59 u60 u61 u62 u63 u64 u65 u66 u67 u68 u69 u70 u71 u72 u73 u74 u75 u76 u77 u78 u79 u80 u81 u82 u83 u84 u85 u86 u87 u88 u89 u90 u91 u92 u93 u94 u95 u96 u97 u98 u99 u100 u101 u102 u103 u104 u105 u106 u107 u108 u109 u110 u111 u112 u113 u114 u115 u116 u117 u118 u119 u120 u121 u122 u123 u124 u125 u126 u127 u128 u129 u130 u131 u132 u133 u134 u135 u136 u137 u138 u139 u140 u141 u142 u143 u144 u145 u146 u147 u148 u149 u150 u151 u152 u153 u154 u155 u156 u157 u158 u159 u160 u161 u162 u163 u164 u165 u166 u167 u168 u169 u170 u171 u172 u173 u174 u175 u176 u177 u178 u179 u180 u181 u182 u183 u184 u185 u186 u187 u188 u189 u190 u191 u192 u193 u194 u195 u196 u197 u198 u199 u200 u201 u202 u203 u204 u205 u206 u207 u208 u209 u210 u211 u212 u213 u214 u215 u216 u217 u218 u219 u220 u221 u222 u223 u224 u225 u226 u227 u228 u229 u230 u231 u232 u233 u234 u235 u236 u237 u238 u239 u240 u241 u242 u243 u244 u245 u246 u247 u248 u249 u250 u251 u252 u253 u254 u255 u256 u257 u258 u259 u260 u261 u262 u263 u264 u265 u266 u267 u268 u269 u270 u271 u272 u273 u274 u275 u276 u277 u278 u279 u280 u281 u282 u283 u284 u285 u286 u287 u288 u289 u290 u291 u292 u293 u294 u295 u296 u297 u298 u299 u300 u301 u302 : Value) :
    l4t35.wp Try.prog (bodyPost Try.prog Try.f98 (Applied (actV b a) w)) ⟨#[u0, u1, .pointer (some ⟨gb, 0, none⟩), .pointer (some ⟨ga, 0, none⟩), .pointer (some ⟨gr, 0, none⟩), u5, .int .i64 i, u7, u8, .pointer (some ⟨g, 0, none⟩), .int .i64 (b.now + 1), u11, u12, .pointer (some ⟨gs, 0, none⟩), u14, u15, u16, u17, u18, u19, u20, u21, u22, u23, u24, u25, u26, u27, u28, u29, u30, u31, u32, u33, u34, u35, u36, u37, u38, u39, u40, u41, u42, u43, u44, u45, u46, u47, u48, u49, u50, u51, u52, u53, u54, u55, u56, u57, u58, u59, u60, u61, u62, u63, u64, u65, u66, u67, u68, u69, u70, u71, u72, u73, u74, u75, u76, u77, u78, u79, u80, u81, u82, u83, u84, u85, u86, u87, u88, u89, u90, u91, u92, u93, u94, u95, u96, u97, u98, u99, u100, u101, u102, u103, u104, u105, u106, u107, u108, u109, u110, u111, u112, u113, u114, u115, u116, u117, u118, u119, u120, u121, u122, u123, u124, u125, u126, u127, u128, u129, u130, u131, u132, u133, u134, u135, u136, u137, u138, u139, u140, u141, u142, u143, u144, u145, u146, u147, u148, u149, u150, u151, u152, u153, u154, u155, u156, u157, u158, u159, u160, u161, u162, u163, u164, u165, u166, u167, u168, u169, u170, u171, u172, u173, u174, u175, u176, u177, u178, u179, u180, u181, u182, u183, u184, u185, u186, u187, u188, u189, u190, u191, u192, u193, u194, u195, u196, u197, u198, u199, u200, u201, u202, u203, u204, u205, u206, u207, u208, u209, u210, u211, u212, u213, u214, u215, u216, u217, u218, u219, u220, u221, u222, u223, u224, u225, u226, u227, u228, u229, u230, u231, u232, u233, u234, u235, u236, u237, u238, u239, u240, u241, u242, u243, u244, u245, u246, u247, u248, u249, u250, u251, u252, u253, u254, u255, u256, u257, u258, u259, u260, u261, u262, u263, u264, u265, u266, u267, u268, u269, u270, u271, u272, u273, u274, u275, u276, u277, u278, u279, u280, u281, u282, u283, u284, u285, u286, u287, u288, u289, u290, u291, u292, u293, u294, u295, u296, u297, u298, u299, u300, u301, u302], []⟩ U := by
  refine wp_seq' l4s35 l4t37 (by kernel_rfl) ?_
  conv => arg 2; whnf
  have hfc := formed_create hfm.out
  have hfw := scaled_want hf.out hfm.out HS.out
  obtain ⟨-, -, -, -, -, -, -, -, -, -, ho0, ho1, -⟩ := hf.out.num s (List.mem_of_getElem? HS.out)
  have cl := hf.out.l2
  have l1 : b.svcs.length ≤ 2000000 := by have := hf.out.l1; omega
  have lc2 : cps.length ≤ 200 := by have := hcl.out; omega
  have lc : cps.length ≤ 2000000 := by omega
  obtain ⟨ct, hct⟩ : ∃ ct, cntOf cps s.name s.image = ct := ⟨_, rfl⟩
  have cb := cntOf_bd s.name s.image lc
  rw [hct] at cb
  have HCT := Lib.hid (show cntOf cps a.service s.image = ct by rw [← hnm.out]; exact hct)
  have HC2 := Lib.hid hct
  have hn2 := Lib.hid (show n2 = cps.length from (rows_of S.M.rows).1.2.1)
  clear hct
  have a0 := fun y => blk_p S.X2 0 y
  have a2 := fun y => blk_p S.X2 2 y
  have s2 := fun y => blk_p S.XS 2 y
  have s4 := fun y => blk_p S.XS 4 y
  have s6 := fun y => blk_p S.XS 6 y
  have b0 := fun y => blk_p S.M.box 0 y
  have b1 := fun y => blk_p S.M.box 1 y
  have b2 := fun y => blk_p S.M.box 2 y
  have b3 := fun y => blk_p S.M.box 3 y
  have kf := fun w' => run_cnt0 (.int .i64 ct.live) (.int .i64 ct.serving) (.int .i64 ct.old) (.int .i64 ct.failed) (.int .i64 ct.ending) w'
  have t1 : IntKind.i64.wrap (ct.live + a.create) = ct.live + a.create := IntWalk.i64_in _ (by omega)
  have t2 : IntKind.i64.wrap ((scaled a s).want + s.over) = (scaled a s).want + s.over := IntWalk.i64_in _ (by omega)
  go_upto_region 35 with fail
  refine at_plus ?_
  by_cases h0 : 0 < a.create
  · rcases hg : s.gone
    · rw [hg] at s2
      rcases h5 : decide ((scaled a s).want + s.over < ct.live + a.create)
      · have H5 := Lib.hid h5
        simp only [decide_eq_false_iff_not] at h5
        refine region_quiet ⟨_, rfl⟩ (by kernel_rfl) (by kernel_rfl) ?_
        repeat (first | go_big_quiet_step ((go_at_call 79; exact quiet_grow (l2Count_n ⟨b.now, b.svcs, cps, b.brs⟩ _ _ rfl rfl hn2.out ((rows_of S.M.rows).2.1.plus _) l1 ((rows_of S.M.rows).2.2.1.plus _) lc HQ.out HS.out HCT.out))) | quiet_step (fail))
        refine wpQuiet_nil ?_
        rintro w2 ⟨y, rfl⟩
        go_wp2
        apply l4T37 b cps a s i w _ hf hfm HQ HS hnm hcl hnum REF HB hD0 (Lib.hid (by simp only [HC2.out, hg, H5.out, Bool.false_or, Bool.and_false])) (S.grow (Grow.wplus _ _))
      · have H5 := Lib.hid h5
        simp only [decide_eq_true_eq] at h5
        have HR := Lib.hid (show actV b a = (b, 6) by rw [HB.out, show whyNot b ⟨b.now, b.svcs, cps, b.brs⟩ a s = 6 by unfold whyNot; rw [show (decide (0 < a.create) && (s.gone || decide ((scaled a s).want + s.over < (cntOf cps s.name s.image).live + a.create))) = true by simp only [HC2.out, hg, H5.out, h0, decide_true, Bool.or_true, Bool.and_true]]; simp only [Bool.or_true, if_true]]; rfl)
        refine region_quiet ⟨_, rfl⟩ (by kernel_rfl) (by kernel_rfl) ?_
        repeat (first | go_big_quiet_step ((go_at_call 79; exact quiet_grow (l2Count_n ⟨b.now, b.svcs, cps, b.brs⟩ _ _ rfl rfl hn2.out ((rows_of S.M.rows).2.1.plus _) l1 ((rows_of S.M.rows).2.2.1.plus _) lc HQ.out HS.out HCT.out))) | quiet_step (fail))
        refine wpQuiet_nil ?_
        rintro w2 ⟨y, rfl⟩
        have e1 := blk_grow S.X1 (Grow.wplus U y)
        have e3 := blk_grow S.X3 (Grow.wplus U y)
        have fb0 := cell_of_row (wplus U y) _ 0 _ _ _ e1
        have fb1 := cell_of_row (wplus U y) _ 1 _ _ _ e1
        have fb2 := cell_of_row (wplus U y) _ 2 _ _ _ e1
        have fb3 := cell_of_row (wplus U y) _ 3 _ _ _ e1
        have gz0 := cell_of_row (wplus U y) _ 0 _ _ _ e3
        have gz1 := cell_of_row (wplus U y) _ 1 _ _ _ e3
        have gz2 := cell_of_row (wplus U y) _ 2 _ _ _ e3
        have gz3 := cell_of_row (wplus U y) _ 3 _ _ _ e3
        have fz0 := frozen_of_row (wplus U y) _ 0 _ _ e3
        have fz1 := frozen_of_row (wplus U y) _ 1 _ _ e3
        have fz2 := frozen_of_row (wplus U y) _ 2 _ _ e3
        have fz3 := frozen_of_row (wplus U y) _ 3 _ _ e3
        clear e1 e3
        go_wp2
        refine bodyPost_ret (v := .tuple #[.agg #[.int .i64 b.now, .slice A1 b.svcs.length c1, .slice A2 b.cps.length c2, .slice A3 b.brs.length c3], .int .i64 6]) (by simp [results, Try.results98, go_sem, gz0, gz1, gz2, gz3]) rfl ?_
        rw [HR.out]
        exact REF.out 6 _ (by (repeat (refine Grow.set ?_ (by have := S.o1; have := S.o2; have := S.o3; simp <;> omega) _)); exact S.G.trans (Grow.wplus _ _))

    · rw [hg] at s2
      have HR := Lib.hid (show actV b a = (b, 6) by rw [HB.out, show whyNot b ⟨b.now, b.svcs, cps, b.brs⟩ a s = 6 by unfold whyNot; rw [show (decide (0 < a.create) && (s.gone || decide ((scaled a s).want + s.over < (cntOf cps s.name s.image).live + a.create))) = true by simp only [hg, h0, decide_true, Bool.true_or, Bool.and_true]]; simp only [Bool.or_true, if_true]]; rfl)
      refine region_quiet ⟨_, rfl⟩ (by kernel_rfl) (by kernel_rfl) ?_
      repeat (first | go_big_quiet_step ((go_at_call 79; exact quiet_grow (l2Count_n ⟨b.now, b.svcs, cps, b.brs⟩ _ _ rfl rfl hn2.out ((rows_of S.M.rows).2.1.plus _) l1 ((rows_of S.M.rows).2.2.1.plus _) lc HQ.out HS.out HCT.out))) | quiet_step (fail))
      refine wpQuiet_nil ?_
      rintro w2 ⟨y, rfl⟩
      have e1 := blk_grow S.X1 (Grow.wplus U y)
      have e3 := blk_grow S.X3 (Grow.wplus U y)
      have fb0 := cell_of_row (wplus U y) _ 0 _ _ _ e1
      have fb1 := cell_of_row (wplus U y) _ 1 _ _ _ e1
      have fb2 := cell_of_row (wplus U y) _ 2 _ _ _ e1
      have fb3 := cell_of_row (wplus U y) _ 3 _ _ _ e1
      have gz0 := cell_of_row (wplus U y) _ 0 _ _ _ e3
      have gz1 := cell_of_row (wplus U y) _ 1 _ _ _ e3
      have gz2 := cell_of_row (wplus U y) _ 2 _ _ _ e3
      have gz3 := cell_of_row (wplus U y) _ 3 _ _ _ e3
      have fz0 := frozen_of_row (wplus U y) _ 0 _ _ e3
      have fz1 := frozen_of_row (wplus U y) _ 1 _ _ e3
      have fz2 := frozen_of_row (wplus U y) _ 2 _ _ e3
      have fz3 := frozen_of_row (wplus U y) _ 3 _ _ e3
      clear e1 e3
      go_wp2
      refine bodyPost_ret (v := .tuple #[.agg #[.int .i64 b.now, .slice A1 b.svcs.length c1, .slice A2 b.cps.length c2, .slice A3 b.brs.length c3], .int .i64 6]) (by simp [results, Try.results98, go_sem, gz0, gz1, gz2, gz3]) rfl ?_
      rw [HR.out]
      exact REF.out 6 _ (by (repeat (refine Grow.set ?_ (by have := S.o1; have := S.o2; have := S.o3; simp <;> omega) _)); exact S.G.trans (Grow.wplus _ _))

  · have h1 : decide (0 < a.create) = false := by simpa using h0
    refine region_quiet ⟨_, rfl⟩ (by kernel_rfl) (by kernel_rfl) ?_
    repeat (first | go_big_quiet_step ((go_at_call 79; exact quiet_grow (l2Count_n ⟨b.now, b.svcs, cps, b.brs⟩ _ _ rfl rfl hn2.out ((rows_of S.M.rows).2.1.plus _) l1 ((rows_of S.M.rows).2.2.1.plus _) lc HQ.out HS.out HCT.out))) | quiet_step (fail))
    refine wpQuiet_nil ?_
    rintro w2 ⟨y, rfl⟩
    go_wp2
    apply l4T37 b cps a s i w _ hf hfm HQ HS hnm hcl hnum REF HB hD0 (Lib.hid (by simp only [h1, Bool.false_and])) (S.grow (Grow.wplus _ _))

set_option maxRecDepth 1000000 in
set_option maxHeartbeats 2000000 in
theorem l4T32 (b : Book) (cps : List Cpy) (a : SAct) (s : Svc) (i : Nat) {A1 A2 A3 Ae B2 B3 : Option Addr} {c1 c2 c3 ne ce n2 e1 e2 e3 : Nat} {gb ga gr g gs g1 base : Nat} {ver : Int} (w U : World) (hf : Hid (Fit b)) (hfm : Hid (formedB a = true)) (HQ : Hid (svcAt b.svcs a.service = some i)) (HS : Hid (b.svcs[i]? = some s)) (hnm : Hid (s.name = a.service)) (hcl : Hid (cps.length = b.cps.length)) (hnum : Hid (∀ x ∈ cps, eqN x.service s.name = true → x.number < s.next)) (REF : Hid (∀ (z : Int) (w' : World), Grow w w' → Applied (b, z) w (.returned (.tuple #[.agg #[.int .i64 b.now, .slice A1 b.svcs.length c1, .slice A2 b.cps.length c2, .slice A3 b.brs.length c3], .int .i64 z])) w'))
    (HB : Hid (actV b a = if whyNot b ⟨b.now, b.svcs, cps, b.brs⟩ a s = 0 then (actDone b ⟨b.now, b.svcs, cps, b.brs⟩ a s i, 0) else (b, whyNot b ⟨b.now, b.svcs, cps, b.brs⟩ a s))) (hD0 : Hid ((a.drop && (!s.gone || decide (0 < (cntOf b.cps s.name s.image).live + (cntOf b.cps s.name s.image).ending))) = false))
    (S : L4St b cps a A1 A2 A3 Ae B2 B3 c1 c2 c3 ne ce n2 e1 e2 e3 gb ga gr g gs g1 base #[.string s.name, .int .i64 ver, .bool s.gone, .int .i64 s.image, .int .i64 s.want, .int .i64 s.down, .int .i64 s.over, .int .i64 s.next, .int .i64 s.per, .int .i64 s.least, .int .i64 s.most, .int .i64 s.load, .int .i64 s.cool] w U) (u0 u1 u5 u7 u8 u11 u12 u14 u15 u16 u17 u18 u19 u20 u21 u22 u23 u24 u25 u26 u27 u28 u29 u30 u31 u32 u33 u34 u35 u36 u37 u38 u39 u40 u41 u42 u43 u44 u45 u46 u47 u48 u49 u50 u51 u52 u53 u54 u55 u56 u57 u58 u59 u60 u61 u62 u63 u64 u65 u66 u67 u68 u69 u70 u71 u72 u73 u74 u75 u76 u77 u78 u79 u80 u81 u82 u83 u84 u85 u86 u87 u88 u89 u90 u91 u92 u93 u94 u95 u96 u97 u98 u99 u100 u101 u102 u103 u104 u105 u106 u107 u108 u109 u110 u111 u112 u113 u114 u115 u116 u117 u118 u119 u120 u121 u122 u123 u124 u125 u126 u127 u128 u129 u130 u131 u132 u133 u134 u135 u136 u137 u138 u139 u140 u141 u142 u143 u144 u145 u146 u147 u148 u149 u150 u151 u152 u153 u154 u155 u156 u157 u158 u159 u160 u161 u162 u163 u164 u165 u166 u167 u168 u169 u170 u171 u172 u173 u174 u175 u176 u177 u178 u179 u180 u181 u182 u183 u184 u185 u186 u187 u188 u189 u190 u191 u192 u193 u194 u195 u196 u197 u198 u199 u200 u201 u202 u203 u204 u205 u206 u207 u208 u209 u210 u211 u212 u213 u214 u215 u216 u217 u218 u219 u220 u221 u222 u223 u224 u225 u226 u227 u228 u229 u230 u231 u232 u233 u234 u235 u236 u237 u238 u239 u240 u241 u242 u243 u244 u245 u246 u247 u248 u249 u250 u251 u252 u253 u254 u255 u256 u257 u258 u259 u260 u261 u262 u263 u264 u265 u266 u267 u268 u269 u270 u271 u272 u273 u274 u275 u276 u277 u278 u279 u280 u281 u282 u283 u284 u285 u286 u287 u288 u289 u290 u291 u292 u293 u294 u295 u296 u297 u298 u299 u300 u301 u302 : Value) :
    l4t32.wp Try.prog (bodyPost Try.prog Try.f98 (Applied (actV b a) w)) ⟨#[u0, u1, .pointer (some ⟨gb, 0, none⟩), .pointer (some ⟨ga, 0, none⟩), .pointer (some ⟨gr, 0, none⟩), u5, .int .i64 i, u7, u8, .pointer (some ⟨g, 0, none⟩), .int .i64 (b.now + 1), u11, u12, .pointer (some ⟨gs, 0, none⟩), u14, u15, u16, u17, u18, u19, u20, u21, u22, u23, u24, u25, u26, u27, u28, u29, u30, u31, u32, u33, u34, u35, u36, u37, u38, u39, u40, u41, u42, u43, u44, u45, u46, u47, u48, u49, u50, u51, u52, u53, u54, u55, u56, u57, u58, u59, u60, u61, u62, u63, u64, u65, u66, u67, u68, u69, u70, u71, u72, u73, u74, u75, u76, u77, u78, u79, u80, u81, u82, u83, u84, u85, u86, u87, u88, u89, u90, u91, u92, u93, u94, u95, u96, u97, u98, u99, u100, u101, u102, u103, u104, u105, u106, u107, u108, u109, u110, u111, u112, u113, u114, u115, u116, u117, u118, u119, u120, u121, u122, u123, u124, u125, u126, u127, u128, u129, u130, u131, u132, u133, u134, u135, u136, u137, u138, u139, u140, u141, u142, u143, u144, u145, u146, u147, u148, u149, u150, u151, u152, u153, u154, u155, u156, u157, u158, u159, u160, u161, u162, u163, u164, u165, u166, u167, u168, u169, u170, u171, u172, u173, u174, u175, u176, u177, u178, u179, u180, u181, u182, u183, u184, u185, u186, u187, u188, u189, u190, u191, u192, u193, u194, u195, u196, u197, u198, u199, u200, u201, u202, u203, u204, u205, u206, u207, u208, u209, u210, u211, u212, u213, u214, u215, u216, u217, u218, u219, u220, u221, u222, u223, u224, u225, u226, u227, u228, u229, u230, u231, u232, u233, u234, u235, u236, u237, u238, u239, u240, u241, u242, u243, u244, u245, u246, u247, u248, u249, u250, u251, u252, u253, u254, u255, u256, u257, u258, u259, u260, u261, u262, u263, u264, u265, u266, u267, u268, u269, u270, u271, u272, u273, u274, u275, u276, u277, u278, u279, u280, u281, u282, u283, u284, u285, u286, u287, u288, u289, u290, u291, u292, u293, u294, u295, u296, u297, u298, u299, u300, u301, u302], []⟩ U := by
  refine wp_seq' l4s32 l4t35 (by kernel_rfl) ?_
  conv => arg 2; whnf
  have a5 := cell_of_row U _ 5 _ _ _ S.X2
  have a3 := cell_of_row U _ 3 _ _ _ S.X2
  have a4 := cell_of_row U _ 4 _ _ _ S.X2
  have s4 := cell_of_row U _ 4 _ _ _ S.XS
  have s12 := cell_of_row U _ 12 _ _ _ S.XS
  have sf4 := frozen_of_row U _ 4 _ _ S.XS
  have sf12 := frozen_of_row U _ 12 _ _ S.XS
  have d1 : ¬ ga = gs := by have := S.o3; have := S.o4; have := S.o5; have := S.o6; omega
  have d2 : ¬ gs = ga := fun e => d1 e.symm
  rcases hs : a.scale
  · rw [hs] at a5
    have E1 := Lib.hid (show (scaled a s).want = s.want by simp [scaled, hs])
    have E2 := Lib.hid (show (scaled a s).cool = s.cool by simp [scaled, hs])
    have S' := S
    rw [← E1.out, ← E2.out] at S'
    clear hs
    go_wp2
    apply l4T35 b cps a s i w _ hf hfm HQ HS hnm hcl hnum REF HB hD0 S'
  · rw [hs] at a5
    have E1 := Lib.hid (show (scaled a s).want = a.want by simp [scaled, hs])
    have E2 := Lib.hid (show (scaled a s).cool = a.cool by simp [scaled, hs])
    clear hs
    go_wp2
    refine rename ?_
    intro V hV
    have K := keep_eq hV (show Keep gs U _ by (repeat (first | with_reducible exact Keep.refl _ _ | with_reducible assumption | with_reducible refine Keep.drew ?_ | with_reducible refine Keep.alloc ?_ _ | with_reducible refine Keep.set ?_ rfl _ | (with_reducible refine Keep.setNew ?_ ?_ _; rotate_left; (first | (dsimp only; omega) | (simp <;> omega))))))
    have XS' := heap_eq hV (blk_set (blk_set S.XS 4 _) 12 _)
    clear hV
    have S' : L4St b cps a A1 A2 A3 Ae B2 B3 c1 c2 c3 ne ce n2 e1 e2 e3 gb ga gr g gs g1 base #[.string s.name, .int .i64 ver, .bool s.gone, .int .i64 s.image, .int .i64 (scaled a s).want, .int .i64 s.down, .int .i64 s.over, .int .i64 s.next, .int .i64 s.per, .int .i64 s.least, .int .i64 s.most, .int .i64 s.load, .int .i64 (scaled a s).cool] w V := S.keep K (by rw [E1.out, E2.out]; exact XS')
    apply l4T35 b cps a s i w _ hf hfm HQ HS hnm hcl hnum REF HB hD0 S'

end Go.Proofs.Ytnmknkdbeccmhaa
