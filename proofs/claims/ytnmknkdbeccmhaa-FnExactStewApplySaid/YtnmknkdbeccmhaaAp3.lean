/- Words for the walks: a world that has grown by new blocks ('wplus'), what a callee leaves ('Grow'), a region that only reads and makes garbage. The walks of the laws' own measure of plain data. The walks of the laws' copying of plain data. The walks of the laws' tests on equal plain data: of one and the same they say true. -/
import Derived.Test.YtnmknkdbeccmhaaProg
import Derived.Test.YtnmknkdbeccmhaaAp0
import Derived.WalkKit
import Derived.WalkLawsBesides
import Derived.Outline
import Derived.KernelRfl
import Derived.OwnWalk
import Derived.Deep.LoopGhost
import Derived.Deep.QuietTactic
import Derived.BigQuiet
import Derived.Deep.Light
import Derived.Deep.RegionHeld3
import Derived.Deep.DeepCutAuto
import Derived.Lib.Hide
namespace Go.Proofs.Ytnmknkdbeccmhaa
open Go.RowKit

/-- Old blocks are as they were; new ones may have come. -/
abbrev Grow (w w' : World) : Prop := Below w.heap.size w w'
theorem Grow.refl (w : World) : Grow w w := Below.refl _ _
theorem Grow.trans {a b c : World} (h : Grow a b) (k : Grow b c) : Grow a c := Below.trans h (k.mono h.size)
theorem Grow.alloc {a b : World} (h : Grow a b) (o : Obj) : Grow a (b.alloc o) := Below.alloc h h.size o
theorem Grow.drew {a b : World} (h : Grow a b) : Grow a b.drew := Below.drew h
theorem Grow.drewN {a b : World} (h : Grow a b) (n : Nat) : Grow a (b.drewN n) := h.trans ⟨rfl, rfl, rfl, Nat.le_refl _, fun _ _ => rfl⟩

/-- What a world may grow by: blocks behind its own, and a count of draws. -/
structure Ext where
  e : Array Obj
  d : Nat
instance : Inhabited Ext := ⟨⟨#[], 0⟩⟩
/-- The world w with the blocks of x behind its own. -/
def wplus (w : World) (x : Ext) : World := { w with heap := w.heap ++ x.e, drawn := x.d }
def ext0 (w : World) : Ext := ⟨#[], w.drawn⟩
theorem wplus_self (w : World) : wplus w (ext0 w) = w := by cases w; simp [wplus, ext0]
theorem wplus_wplus (w : World) (x y : Ext) : wplus (wplus w x) y = wplus w ⟨x.e ++ y.e, y.d⟩ := by simp [wplus, Array.append_assoc]
theorem wplus_drew (w : World) (x : Ext) : (wplus w x).drew = wplus w ⟨x.e, x.d + 1⟩ := rfl
theorem wplus_size (w : World) (x : Ext) : (wplus w x).heap.size = w.heap.size + x.e.size := by simp [wplus]
theorem Grow.wplus (w : World) (x : Ext) : Grow w (wplus w x) :=
  ⟨rfl, rfl, rfl, by simp [Proofs.Ytnmknkdbeccmhaa.wplus], fun k hk => by simp only [Proofs.Ytnmknkdbeccmhaa.wplus]; rw [Array.getElem?_append_left hk]⟩
theorem Grow.ex {w w' : World} (h : Grow w w') : ∃ x, w' = Proofs.Ytnmknkdbeccmhaa.wplus w x := by
  refine ⟨⟨w'.heap.extract w.heap.size w'.heap.size, w'.drawn⟩, ?_⟩
  have hh : w'.heap = w.heap ++ w'.heap.extract w.heap.size w'.heap.size := by
    apply Array.ext'
    apply List.ext_getElem?
    intro i
    have hs := h.size
    by_cases hi : i < w.heap.size
    · have := h.block i hi
      simp only [Array.getElem?_toList] at *
      rw [this, Array.getElem?_append_left hi]
    · simp only [Array.getElem?_toList]
      rw [Array.getElem?_append_right (by omega), Array.getElem?_extract]
      split
      · congr 1; omega
      · rw [Array.getElem?_eq_none (by omega)]
  cases w; cases w'
  simp only [Proofs.Ytnmknkdbeccmhaa.wplus, World.mk.injEq]
  exact ⟨hh, h.tape, trivial, h.os, h.output⟩
/-- A callee's growth, met in a world that has grown. -/
theorem Grow.on {w w' : World} {x : Ext} (h : Grow (Proofs.Ytnmknkdbeccmhaa.wplus w x) w') : ∃ y, w' = Proofs.Ytnmknkdbeccmhaa.wplus w y := ((Grow.wplus w x).trans h).ex
theorem Rows.plus {α : Type} {n : Nat} {cs : α → List Value} {w : World} {A : Option Addr} {xs : List α} (h : Rows n cs w A xs) (x : Ext) : Rows n cs (wplus w x) A xs := h.below (Grow.wplus w x)

/-- The class of the worlds that have grown out of w. -/
def Grown (w : World) (w' : World) : Prop := ∃ x, w' = wplus w x
theorem region_quiet {P : Program} {id : Nat} {Q : Exit → Act → World → Prop} {a : Act} {W w : World} {l : List Oper} (hw : ∃ x, w = wplus W x) (hm : P.follows .mixedOrders = true) (hB : Region.lexB .any l.toArray = true)
    (h : wpQuiet P l.toArray (fun w' => ∃ x, w' = wplus W x) (fun a' => ∀ w', (∃ x, w' = wplus W x) → Q .normal a' w') l a) : (Code.region id l.toArray true).wp P Q a w :=
  wp_region_quiet (C := fun w' => ∃ x, w' = wplus W x) hm hB (by obtain ⟨x, rfl⟩ := hw; exact ⟨⟨x.e, x.d + 1⟩, rfl⟩) (by simpa using h)
/-- A callee's contract, met inside such a region. -/
theorem quiet_grow {P : Program} {f : FuncId} {args : Array Value} {w : World} {x : Ext} {v : Value}
    (h : Calls P f args (wplus w x) fun o w' => o = .returned v ∧ Grow (wplus w x) w') : Calls P f args (wplus w x) fun o w' => o = .returned v ∧ ∃ y, w' = wplus w y :=
  h.mono fun _ _ ⟨h1, h2⟩ => ⟨h1, h2.on⟩
theorem quiet_same {P : Program} {f : FuncId} {args : Array Value} {w : World} {x : Ext} {v : Value}
    (h : Calls P f args (wplus w x) fun o w' => o = .returned v ∧ wplus w x = w') : Calls P f args (wplus w x) fun o w' => o = .returned v ∧ ∃ y, w' = wplus w y :=
  h.mono fun _ _ ⟨h1, h2⟩ => ⟨h1, _, h2.symm⟩
theorem at_plus {P : Program} {c : Code} {Q : Exit → Act → World → Prop} {a : Act} {w : World} (h : Code.wp P c Q a (wplus w (ext0 w))) : Code.wp P c Q a w := by
  rwa [wplus_self] at h

/-- The world under a name of its own, from here on. -/
theorem rebase {P : Program} {c : Code} {Q : Exit → Act → World → Prop} {a : Act} {w : World} (h : ∀ W : World, Hid (W = w) → Code.wp P c Q a (wplus W (ext0 W))) : Code.wp P c Q a w := by
  have := h w rfl
  rwa [wplus_self] at this
theorem heap_alloc2 (w : World) (o o' : Obj) : ((w.alloc o).alloc o').heap[w.heap.size]? = some o := (Below.heap_alloc _ _ _ (by simp)).trans (heap_alloc_new w o)
theorem chain2 (a b : Bool) : a = false ∨ (a = true ∧ b = false) ∨ (a = true ∧ b = true) := by cases a <;> cases b <;> simp
theorem chain3 (a b c : Bool) : a = false ∨ (a = true ∧ b = false) ∨ (a = true ∧ b = true ∧ c = false) ∨ (a = true ∧ b = true ∧ c = true) := by cases a <;> cases b <;> cases c <;> simp
theorem chain4 (a b c d : Bool) : a = false ∨ (a = true ∧ b = false) ∨ (a = true ∧ b = true ∧ c = false) ∨ (a = true ∧ b = true ∧ c = true ∧ d = false) ∨ (a = true ∧ b = true ∧ c = true ∧ d = true) := by cases a <;> cases b <;> cases c <;> cases d <;> simp

theorem cells_plus {α : Type} {n : Nat} {cs : α → List Value} {w : World} {A : Option Addr} {xs : List α} (h : Rows n cs w A xs) {i : Nat} {x : α} (hx : xs[i]? = some x) (h0 : ∃ u, (cs x)[0]? = some u) :
    ∃ b o, A = some ⟨b, o, none⟩ ∧ b < w.heap.size ∧ ∀ j u, (cs x)[j]? = some u → ∀ y, (wplus w y).cell? ⟨b, o + i * n + j, none⟩ = some u := by
  obtain ⟨b, o, e, hc⟩ := h.at_ hx
  obtain ⟨u, hu⟩ := h0
  exact ⟨b, o, e, World.block_lt_of_cell? w _ (hc 0 u hu), fun j u hu y => ((Grow.wplus w _).cell (World.block_lt_of_cell? w _ (hc j u hu))).trans (hc j u hu)⟩
theorem svc_p {w : World} {A : Option Addr} {xs : List Svc} (h : Rows 13 svcC w A xs) {i : Nat} {x : Svc} (hx : xs[i]? = some x) :
    ∃ b o, A = some ⟨b, o, none⟩ ∧ b < w.heap.size ∧ (∀ y, (wplus w y).cell? ⟨b, o + i * 13, none⟩ = some (.string x.name)) ∧ (∀ y, (wplus w y).cell? ⟨b, o + i * 13 + 1, none⟩ = some (.int .i64 x.version)) ∧ (∀ y, (wplus w y).cell? ⟨b, o + i * 13 + 2, none⟩ = some (.bool x.gone)) ∧
      (∀ y, (wplus w y).cell? ⟨b, o + i * 13 + 3, none⟩ = some (.int .i64 x.image)) ∧ (∀ y, (wplus w y).cell? ⟨b, o + i * 13 + 4, none⟩ = some (.int .i64 x.want)) ∧ (∀ y, (wplus w y).cell? ⟨b, o + i * 13 + 5, none⟩ = some (.int .i64 x.down)) ∧ (∀ y, (wplus w y).cell? ⟨b, o + i * 13 + 6, none⟩ = some (.int .i64 x.over)) ∧
      (∀ y, (wplus w y).cell? ⟨b, o + i * 13 + 7, none⟩ = some (.int .i64 x.next)) ∧ (∀ y, (wplus w y).cell? ⟨b, o + i * 13 + 8, none⟩ = some (.int .i64 x.per)) ∧ (∀ y, (wplus w y).cell? ⟨b, o + i * 13 + 9, none⟩ = some (.int .i64 x.least)) ∧ (∀ y, (wplus w y).cell? ⟨b, o + i * 13 + 10, none⟩ = some (.int .i64 x.most)) ∧
      (∀ y, (wplus w y).cell? ⟨b, o + i * 13 + 11, none⟩ = some (.int .i64 x.load)) ∧ (∀ y, (wplus w y).cell? ⟨b, o + i * 13 + 12, none⟩ = some (.int .i64 x.cool)) := by
  obtain ⟨b, o, e, hb, hc⟩ := cells_plus h hx ⟨_, rfl⟩
  exact ⟨b, o, e, hb, hc 0 _ rfl, hc 1 _ rfl, hc 2 _ rfl, hc 3 _ rfl, hc 4 _ rfl, hc 5 _ rfl, hc 6 _ rfl, hc 7 _ rfl, hc 8 _ rfl, hc 9 _ rfl, hc 10 _ rfl, hc 11 _ rfl, hc 12 _ rfl⟩
theorem cpy_p {w : World} {A : Option Addr} {xs : List Cpy} (h : Rows 7 cpyC w A xs) {i : Nat} {x : Cpy} (hx : xs[i]? = some x) :
    ∃ b o, A = some ⟨b, o, none⟩ ∧ b < w.heap.size ∧ (∀ y, (wplus w y).cell? ⟨b, o + i * 7, none⟩ = some (.string x.service)) ∧ (∀ y, (wplus w y).cell? ⟨b, o + i * 7 + 1, none⟩ = some (.int .i64 x.number)) ∧ (∀ y, (wplus w y).cell? ⟨b, o + i * 7 + 2, none⟩ = some (.int .i64 x.version)) ∧
      (∀ y, (wplus w y).cell? ⟨b, o + i * 7 + 3, none⟩ = some (.int .i64 x.image)) ∧ (∀ y, (wplus w y).cell? ⟨b, o + i * 7 + 4, none⟩ = some (.int .i64 x.state)) ∧ (∀ y, (wplus w y).cell? ⟨b, o + i * 7 + 5, none⟩ = some (.bool x.ending)) ∧ (∀ y, (wplus w y).cell? ⟨b, o + i * 7 + 6, none⟩ = some (.string x.berth)) := by
  obtain ⟨b, o, e, hb, hc⟩ := cells_plus h hx ⟨_, rfl⟩
  exact ⟨b, o, e, hb, hc 0 _ rfl, hc 1 _ rfl, hc 2 _ rfl, hc 3 _ rfl, hc 4 _ rfl, hc 5 _ rfl, hc 6 _ rfl⟩
theorem brt_p {w : World} {A : Option Addr} {xs : List Brt} (h : Rows 2 brtC w A xs) {i : Nat} {x : Brt} (hx : xs[i]? = some x) :
    ∃ b o, A = some ⟨b, o, none⟩ ∧ b < w.heap.size ∧ (∀ y, (wplus w y).cell? ⟨b, o + i * 2, none⟩ = some (.string x.name)) ∧ (∀ y, (wplus w y).cell? ⟨b, o + i * 2 + 1, none⟩ = some (.bool x.drain)) := by
  obtain ⟨b, o, e, hb, hc⟩ := cells_plus h hx ⟨_, rfl⟩
  exact ⟨b, o, e, hb, hc 0 _ rfl, hc 1 _ rfl⟩
/-- A block that is known whole, in worlds that have grown. -/
theorem blk_p {w : World} {g : Nat} {cs : Array Value} {t : TypeId} {fr : Nat × Nat} (h : w.heap[g]? = some (.cells cs t fr)) (i : Nat) (y : Ext) : (wplus w y).cell? ⟨g, i, none⟩ = cs[i]? := by
  have hg : g < w.heap.size := (Array.getElem?_eq_some_iff.1 h).1
  exact cell_of_row (wplus w y) g i cs t fr (((Grow.wplus w _).block g hg).trans h)

theorem ret_int {k : IntKind} {a b : Int} (h : a = b) : Ending.returned (.int k a) = .returned (.int k b) := by rw [h]
theorem ret_bool {a b : Bool} (h : a = b) : Ending.returned (.bool a) = .returned (.bool b) := by rw [h]
theorem drop_at {α : Type} {xs : List α} {k : Nat} {x : α} (h : xs[k]? = some x) : xs.drop k = x :: xs.drop (k + 1) := by
  obtain ⟨hl, hx⟩ := List.getElem?_eq_some_iff.1 h
  rw [List.drop_eq_getElem_cons hl, hx]
theorem ex_at {α : Type} {xs : List α} {k : Nat} (h : k < xs.length) : ∃ x, xs[k]? = some x := ⟨_, List.getElem?_eq_getElem h⟩
end Go.Proofs.Ytnmknkdbeccmhaa
namespace Go.Proofs.Ytnmknkdbeccmhaa
open Go.RowKit
set_option linter.unusedSimpArgs false

def SmallSvc (xs : List Svc) : Prop := ∀ x ∈ xs, x.name.size ≤ 9223372036854775807
set_option maxHeartbeats 1000000 in
theorem szStewService_c (s : Svc) (l : Int) (h0 : s.name.size ≤ 9223372036854775807) (hl0 : 0 ≤ l) (hl1 : l ≤ 2000000) (w : World) : Calls Try.prog 118 #[.agg #[.string s.name, .int .i64 s.version, .bool s.gone, .int .i64 s.image, .int .i64 s.want, .int .i64 s.down, .int .i64 s.over, .int .i64 s.next, .int .i64 s.per, .int .i64 s.least, .int .i64 s.most, .int .i64 s.load, .int .i64 s.cool], .int .i64 l] w fun e w' => e = .returned (.int .i64 (szSvc s l)) ∧ Grow w w' := by
  go_enter Try.func118, Try.ntmps118
  go_wp2
  all_goals
    go_ret
    refine ⟨ret_int ?_, (Grow.refl _).alloc _⟩
    go_light
    unfold szSvc
    repeat' split
    all_goals omega
set_option maxRecDepth 100000 in
set_option maxHeartbeats 2000000 in
theorem szStewServiceS_c (xs : List Svc) (l : Int) {A : Option Addr} {c : Nat} (hl0 : 0 ≤ l) (hl1 : l ≤ 2000000) (hn : xs.length ≤ 9223372036854775807) (hs : SmallSvc xs) (w : World) (h : Rows 13 svcC w A xs) :
    Calls Try.prog 57 #[.slice A xs.length c, .int .i64 l] w fun e w' => e = .returned (.int .i64 (szS szSvc xs l)) ∧ Grow w w' := by
  have R := Lib.hid (fun (w' : World) (hg : Grow w w') => h.below hg)
  have HS := Lib.hid hs
  clear h hs
  by_cases hc : l - xs.length < 0
  · have HR := Lib.hid (show szS szSvc xs l = -1 by unfold szS; rw [if_pos hc])
    go_enter Try.func57, Try.ntmps57
    go_wp2
    go_ret
    exact ⟨ret_int HR.out.symm, Grow.refl _⟩
  · have HR := Lib.hid (show szS szSvc xs l = szL szSvc xs (l - xs.length) by unfold szS; rw [if_neg hc])
    go_enter Try.func57, Try.ntmps57
    go_wp2
    go_loopw [1, 5] (fun q i wr => ∃ (k : Nat) (m : Int), k ≤ xs.length ∧ i = .int .i64 k ∧ q = .int .i64 m ∧ 0 ≤ m ∧ m ≤ 2000000 ∧ Hid (Grow w wr) ∧ Hid (szL szSvc xs (l - xs.length) = szL szSvc (xs.drop k) m)) (fun _ i _ => xs.length - (intOf i).toNat)
    case atStart => exact ⟨0, l - xs.length, Nat.zero_le _, rfl, rfl, by omega, by omega, Grow.refl _, rfl⟩
    case round =>
      obtain ⟨k, m, hk, rfl, rfl, hm0, hm1, hgr, hi⟩ := hrel
      by_cases hlt : k < xs.length
      · obtain ⟨x, hx⟩ := ex_at hlt
        obtain ⟨bb, o, rfl, hbb, f0, f1, f2, f3, f4, f5, f6, f7, f8, f9, f10, f11, f12⟩ := svc_at (R.out _ hgr.out) hx
        have hd := Lib.hid (drop_at hx)
        have HX := Lib.hid hx
        clear hx
        obtain h0 := HS.out x (List.mem_of_getElem? HX.out)
        obtain ⟨hz1, hz2⟩ := szSvc_le x m hm0
        by_cases hz : szSvc x m < 0
        all_goals go_wp2_with (go_at_call 118; refine (szStewService_c x m h0 hm0 hm1 _).mono ?_; rintro e w' ⟨rfl, hg⟩)
        · go_ret
          exact ⟨ret_int (by rw [HR.out, hi.out, hd.out, szL, if_pos hz]), hgr.out.trans hg⟩
        · go_roundw
          case rel => exact ⟨k + 1, szSvc x m, by omega, by go_num, rfl, by omega, by omega, hgr.out.trans hg, by unfold Hid; rw [hi.out, hd.out, szL, if_neg (by omega)]⟩
          case measure => simp [intOf]; omega
      · obtain rfl : k = xs.length := by omega
        go_wp2
        go_ret
        exact ⟨ret_int (by rw [HR.out, hi.out, List.drop_length]; rfl), hgr.out⟩

def SmallCpy (xs : List Cpy) : Prop := ∀ x ∈ xs, x.service.size ≤ 9223372036854775807 ∧ x.berth.size ≤ 9223372036854775807
set_option maxHeartbeats 1000000 in
theorem szStewCopy_c (s : Cpy) (l : Int) (h0 : s.service.size ≤ 9223372036854775807) (h1 : s.berth.size ≤ 9223372036854775807) (hl0 : 0 ≤ l) (hl1 : l ≤ 2000000) (w : World) : Calls Try.prog 119 #[.agg #[.string s.service, .int .i64 s.number, .int .i64 s.version, .int .i64 s.image, .int .i64 s.state, .bool s.ending, .string s.berth], .int .i64 l] w fun e w' => e = .returned (.int .i64 (szCpy s l)) ∧ Grow w w' := by
  go_enter Try.func119, Try.ntmps119
  go_wp2
  all_goals
    go_ret
    refine ⟨ret_int ?_, (Grow.refl _).alloc _⟩
    go_light
    unfold szCpy
    repeat' split
    all_goals omega
set_option maxRecDepth 100000 in
set_option maxHeartbeats 2000000 in
theorem szStewCopyS_c (xs : List Cpy) (l : Int) {A : Option Addr} {c : Nat} (hl0 : 0 ≤ l) (hl1 : l ≤ 2000000) (hn : xs.length ≤ 9223372036854775807) (hs : SmallCpy xs) (w : World) (h : Rows 7 cpyC w A xs) :
    Calls Try.prog 58 #[.slice A xs.length c, .int .i64 l] w fun e w' => e = .returned (.int .i64 (szS szCpy xs l)) ∧ Grow w w' := by
  have R := Lib.hid (fun (w' : World) (hg : Grow w w') => h.below hg)
  have HS := Lib.hid hs
  clear h hs
  by_cases hc : l - xs.length < 0
  · have HR := Lib.hid (show szS szCpy xs l = -1 by unfold szS; rw [if_pos hc])
    go_enter Try.func58, Try.ntmps58
    go_wp2
    go_ret
    exact ⟨ret_int HR.out.symm, Grow.refl _⟩
  · have HR := Lib.hid (show szS szCpy xs l = szL szCpy xs (l - xs.length) by unfold szS; rw [if_neg hc])
    go_enter Try.func58, Try.ntmps58
    go_wp2
    go_loopw [1, 5] (fun q i wr => ∃ (k : Nat) (m : Int), k ≤ xs.length ∧ i = .int .i64 k ∧ q = .int .i64 m ∧ 0 ≤ m ∧ m ≤ 2000000 ∧ Hid (Grow w wr) ∧ Hid (szL szCpy xs (l - xs.length) = szL szCpy (xs.drop k) m)) (fun _ i _ => xs.length - (intOf i).toNat)
    case atStart => exact ⟨0, l - xs.length, Nat.zero_le _, rfl, rfl, by omega, by omega, Grow.refl _, rfl⟩
    case round =>
      obtain ⟨k, m, hk, rfl, rfl, hm0, hm1, hgr, hi⟩ := hrel
      by_cases hlt : k < xs.length
      · obtain ⟨x, hx⟩ := ex_at hlt
        obtain ⟨bb, o, rfl, hbb, f0, f1, f2, f3, f4, f5, f6⟩ := cpy_at (R.out _ hgr.out) hx
        have hd := Lib.hid (drop_at hx)
        have HX := Lib.hid hx
        clear hx
        obtain ⟨h0, h1⟩ := HS.out x (List.mem_of_getElem? HX.out)
        obtain ⟨hz1, hz2⟩ := szCpy_le x m hm0
        by_cases hz : szCpy x m < 0
        all_goals go_wp2_with (go_at_call 119; refine (szStewCopy_c x m h0 h1 hm0 hm1 _).mono ?_; rintro e w' ⟨rfl, hg⟩)
        · go_ret
          exact ⟨ret_int (by rw [HR.out, hi.out, hd.out, szL, if_pos hz]), hgr.out.trans hg⟩
        · go_roundw
          case rel => exact ⟨k + 1, szCpy x m, by omega, by go_num, rfl, by omega, by omega, hgr.out.trans hg, by unfold Hid; rw [hi.out, hd.out, szL, if_neg (by omega)]⟩
          case measure => simp [intOf]; omega
      · obtain rfl : k = xs.length := by omega
        go_wp2
        go_ret
        exact ⟨ret_int (by rw [HR.out, hi.out, List.drop_length]; rfl), hgr.out⟩

def SmallBrt (xs : List Brt) : Prop := ∀ x ∈ xs, x.name.size ≤ 9223372036854775807
set_option maxHeartbeats 1000000 in
theorem szStewBerth_c (s : Brt) (l : Int) (h0 : s.name.size ≤ 9223372036854775807) (hl0 : 0 ≤ l) (hl1 : l ≤ 2000000) (w : World) : Calls Try.prog 120 #[.agg #[.string s.name, .bool s.drain], .int .i64 l] w fun e w' => e = .returned (.int .i64 (szBrt s l)) ∧ Grow w w' := by
  go_enter Try.func120, Try.ntmps120
  go_wp2
  all_goals
    go_ret
    refine ⟨ret_int ?_, (Grow.refl _).alloc _⟩
    go_light
    unfold szBrt
    repeat' split
    all_goals omega
set_option maxRecDepth 100000 in
set_option maxHeartbeats 2000000 in
theorem szStewBerthS_c (xs : List Brt) (l : Int) {A : Option Addr} {c : Nat} (hl0 : 0 ≤ l) (hl1 : l ≤ 2000000) (hn : xs.length ≤ 9223372036854775807) (hs : SmallBrt xs) (w : World) (h : Rows 2 brtC w A xs) :
    Calls Try.prog 59 #[.slice A xs.length c, .int .i64 l] w fun e w' => e = .returned (.int .i64 (szS szBrt xs l)) ∧ Grow w w' := by
  have R := Lib.hid (fun (w' : World) (hg : Grow w w') => h.below hg)
  have HS := Lib.hid hs
  clear h hs
  by_cases hc : l - xs.length < 0
  · have HR := Lib.hid (show szS szBrt xs l = -1 by unfold szS; rw [if_pos hc])
    go_enter Try.func59, Try.ntmps59
    go_wp2
    go_ret
    exact ⟨ret_int HR.out.symm, Grow.refl _⟩
  · have HR := Lib.hid (show szS szBrt xs l = szL szBrt xs (l - xs.length) by unfold szS; rw [if_neg hc])
    go_enter Try.func59, Try.ntmps59
    go_wp2
    go_loopw [1, 5] (fun q i wr => ∃ (k : Nat) (m : Int), k ≤ xs.length ∧ i = .int .i64 k ∧ q = .int .i64 m ∧ 0 ≤ m ∧ m ≤ 2000000 ∧ Hid (Grow w wr) ∧ Hid (szL szBrt xs (l - xs.length) = szL szBrt (xs.drop k) m)) (fun _ i _ => xs.length - (intOf i).toNat)
    case atStart => exact ⟨0, l - xs.length, Nat.zero_le _, rfl, rfl, by omega, by omega, Grow.refl _, rfl⟩
    case round =>
      obtain ⟨k, m, hk, rfl, rfl, hm0, hm1, hgr, hi⟩ := hrel
      by_cases hlt : k < xs.length
      · obtain ⟨x, hx⟩ := ex_at hlt
        obtain ⟨bb, o, rfl, hbb, f0, f1⟩ := brt_at (R.out _ hgr.out) hx
        have hd := Lib.hid (drop_at hx)
        have HX := Lib.hid hx
        clear hx
        obtain h0 := HS.out x (List.mem_of_getElem? HX.out)
        obtain ⟨hz1, hz2⟩ := szBrt_le x m hm0
        by_cases hz : szBrt x m < 0
        all_goals go_wp2_with (go_at_call 120; refine (szStewBerth_c x m h0 hm0 hm1 _).mono ?_; rintro e w' ⟨rfl, hg⟩)
        · go_ret
          exact ⟨ret_int (by rw [HR.out, hi.out, hd.out, szL, if_pos hz]), hgr.out.trans hg⟩
        · go_roundw
          case rel => exact ⟨k + 1, szBrt x m, by omega, by go_num, rfl, by omega, by omega, hgr.out.trans hg, by unfold Hid; rw [hi.out, hd.out, szL, if_neg (by omega)]⟩
          case measure => simp [intOf]; omega
      · obtain rfl : k = xs.length := by omega
        go_wp2
        go_ret
        exact ⟨ret_int (by rw [HR.out, hi.out, List.drop_length]; rfl), hgr.out⟩

set_option maxHeartbeats 2000000 in
theorem szStewBook_c (b : Book) (l : Int) {A1 A2 A3 : Option Addr} {c1 c2 c3 : Nat} (hl0 : 0 ≤ l) (hl1 : l ≤ 2000000) (w : World) (h1 : Rows 13 svcC w A1 b.svcs) (h2 : Rows 7 cpyC w A2 b.cps) (h3 : Rows 2 brtC w A3 b.brs)
    (l1 : b.svcs.length ≤ 9223372036854775807) (l2 : b.cps.length ≤ 9223372036854775807) (l3 : b.brs.length ≤ 9223372036854775807) (s1 : SmallSvc b.svcs) (s2 : SmallCpy b.cps) (s3 : SmallBrt b.brs) :
    Calls Try.prog 15 #[.agg #[.int .i64 b.now, .slice A1 b.svcs.length c1, .slice A2 b.cps.length c2, .slice A3 b.brs.length c3], .int .i64 l] w fun e w' => e = .returned (.int .i64 (szBook b l)) ∧ Grow w w' := by
  have R1 := Lib.hid (fun (w' : World) (hg : Grow w w') => h1.below hg)
  have R2 := Lib.hid (fun (w' : World) (hg : Grow w w') => h2.below hg)
  have R3 := Lib.hid (fun (w' : World) (hg : Grow w w') => h3.below hg)
  have S1 := Lib.hid s1
  have S2 := Lib.hid s2
  have S3 := Lib.hid s3
  clear h1 h2 h3 s1 s2 s3
  obtain ⟨a1, a2, -⟩ := szS_le szSvc_le b.svcs l hl0
  by_cases z1 : szS szSvc b.svcs l < 0
  · have HR := Lib.hid (show szBook b l = -1 by unfold szBook; rw [if_pos z1])
    go_enter Try.func15, Try.ntmps15
    go_wp2_with (go_at_call 57; refine (szStewServiceS_c b.svcs l hl0 hl1 l1 S1.out _ (R1.out _ ((Grow.refl _).alloc _))).mono ?_; rintro e w1 ⟨rfl, hg1⟩)
    go_ret
    exact ⟨ret_int HR.out.symm, ((Grow.refl _).alloc _).trans hg1⟩
  · obtain ⟨a3, a4, -⟩ := szS_le szCpy_le b.cps (szS szSvc b.svcs l) (by omega)
    by_cases z2 : szS szCpy b.cps (szS szSvc b.svcs l) < 0
    · have HR := Lib.hid (show szBook b l = -1 by unfold szBook; rw [if_neg z1, if_pos z2])
      go_enter Try.func15, Try.ntmps15
      go_wp2_with (first
        | (go_at_call 57; refine (szStewServiceS_c b.svcs l hl0 hl1 l1 S1.out _ (R1.out _ ((Grow.refl _).alloc _))).mono ?_; rintro e w1 ⟨rfl, hg1⟩; have f2 := ((hg1.block _ (by simp)).trans (heap_alloc_new w _)); have f21 := cell_of_row w1 _ 2 _ _ _ f2)
        | (go_at_call 58; refine (szStewCopyS_c b.cps _ (by omega) (by omega) l2 S2.out _ (R2.out _ (((Grow.refl _).alloc _).trans hg1))).mono ?_; rintro e w2 ⟨rfl, hg2⟩))
      go_ret
      exact ⟨ret_int HR.out.symm, (((Grow.refl _).alloc _).trans hg1).trans hg2⟩
    · obtain ⟨a5, a6, -⟩ := szS_le szBrt_le b.brs (szS szCpy b.cps (szS szSvc b.svcs l)) (by omega)
      by_cases z3 : szS szBrt b.brs (szS szCpy b.cps (szS szSvc b.svcs l)) < 0
      · have HR := Lib.hid (show szBook b l = -1 by unfold szBook; rw [if_neg z1, if_neg z2, if_pos z3])
        go_enter Try.func15, Try.ntmps15
        go_wp2_with (first
          | (go_at_call 57; refine (szStewServiceS_c b.svcs l hl0 hl1 l1 S1.out _ (R1.out _ ((Grow.refl _).alloc _))).mono ?_; rintro e w1 ⟨rfl, hg1⟩; have f2 := ((hg1.block _ (by simp)).trans (heap_alloc_new w _)); have f21 := cell_of_row w1 _ 2 _ _ _ f2)
          | (go_at_call 58; refine (szStewCopyS_c b.cps _ (by omega) (by omega) l2 S2.out _ (R2.out _ (((Grow.refl _).alloc _).trans hg1))).mono ?_; rintro e w2 ⟨rfl, hg2⟩; have f3 := cell_of_row w2 _ 3 _ _ _ ((hg2.block _ (Array.getElem?_eq_some_iff.1 f2).1).trans f2))
          | (go_at_call 59; refine (szStewBerthS_c b.brs _ (by omega) (by omega) l3 S3.out _ (R3.out _ ((((Grow.refl _).alloc _).trans hg1).trans hg2))).mono ?_; rintro e w3 ⟨rfl, hg3⟩))
        go_ret
        exact ⟨ret_int HR.out.symm, ((((Grow.refl _).alloc _).trans hg1).trans hg2).trans hg3⟩
      · have HR := Lib.hid (show szBook b l = szS szBrt b.brs (szS szCpy b.cps (szS szSvc b.svcs l)) by unfold szBook; rw [if_neg z1, if_neg z2, if_neg z3])
        go_enter Try.func15, Try.ntmps15
        go_wp2_with (first
          | (go_at_call 57; refine (szStewServiceS_c b.svcs l hl0 hl1 l1 S1.out _ (R1.out _ ((Grow.refl _).alloc _))).mono ?_; rintro e w1 ⟨rfl, hg1⟩; have f2 := ((hg1.block _ (by simp)).trans (heap_alloc_new w _)); have f21 := cell_of_row w1 _ 2 _ _ _ f2)
          | (go_at_call 58; refine (szStewCopyS_c b.cps _ (by omega) (by omega) l2 S2.out _ (R2.out _ (((Grow.refl _).alloc _).trans hg1))).mono ?_; rintro e w2 ⟨rfl, hg2⟩; have f3 := cell_of_row w2 _ 3 _ _ _ ((hg2.block _ (Array.getElem?_eq_some_iff.1 f2).1).trans f2))
          | (go_at_call 59; refine (szStewBerthS_c b.brs _ (by omega) (by omega) l3 S3.out _ (R3.out _ ((((Grow.refl _).alloc _).trans hg1).trans hg2))).mono ?_; rintro e w3 ⟨rfl, hg3⟩))
        go_ret
        exact ⟨ret_int HR.out.symm, ((((Grow.refl _).alloc _).trans hg1).trans hg2).trans hg3⟩
end Go.Proofs.Ytnmknkdbeccmhaa
namespace Go.Proofs.Ytnmknkdbeccmhaa
open Go.RowKit
set_option linter.unusedSimpArgs false

set_option maxRecDepth 100000 in
set_option maxHeartbeats 2000000 in
theorem toStewService_c (s : Svc) (w : World) : Calls Try.prog 123 #[.agg #[.string s.name, .int .i64 s.version, .bool s.gone, .int .i64 s.image, .int .i64 s.want, .int .i64 s.down, .int .i64 s.over, .int .i64 s.next, .int .i64 s.per, .int .i64 s.least, .int .i64 s.most, .int .i64 s.load, .int .i64 s.cool]] w fun e w' => e = .returned (.agg #[.string s.name, .int .i64 s.version, .bool s.gone, .int .i64 s.image, .int .i64 s.want, .int .i64 s.down, .int .i64 s.over, .int .i64 s.next, .int .i64 s.per, .int .i64 s.least, .int .i64 s.most, .int .i64 s.load, .int .i64 s.cool]) ∧ Grow w w' := by
  go_enter Try.func123, Try.ntmps123
  go_wp2
  exact bodyPost_ret (v := .agg #[.string s.name, .int .i64 s.version, .bool s.gone, .int .i64 s.image, .int .i64 s.want, .int .i64 s.down, .int .i64 s.over, .int .i64 s.next, .int .i64 s.per, .int .i64 s.least, .int .i64 s.most, .int .i64 s.load, .int .i64 s.cool]) (by simp [results, Try.results123, go_sem]) rfl ⟨rfl, (((Grow.refl _).alloc _).alloc _).alloc _⟩

set_option maxRecDepth 100000 in
set_option maxHeartbeats 2000000 in
theorem toStewCopy_c (s : Cpy) (w : World) : Calls Try.prog 124 #[.agg #[.string s.service, .int .i64 s.number, .int .i64 s.version, .int .i64 s.image, .int .i64 s.state, .bool s.ending, .string s.berth]] w fun e w' => e = .returned (.agg #[.string s.service, .int .i64 s.number, .int .i64 s.version, .int .i64 s.image, .int .i64 s.state, .bool s.ending, .string s.berth]) ∧ Grow w w' := by
  go_enter Try.func124, Try.ntmps124
  go_wp2
  exact bodyPost_ret (v := .agg #[.string s.service, .int .i64 s.number, .int .i64 s.version, .int .i64 s.image, .int .i64 s.state, .bool s.ending, .string s.berth]) (by simp [results, Try.results124, go_sem]) rfl ⟨rfl, (((Grow.refl _).alloc _).alloc _).alloc _⟩

set_option maxRecDepth 100000 in
set_option maxHeartbeats 2000000 in
theorem toStewBerth_c (s : Brt) (w : World) : Calls Try.prog 125 #[.agg #[.string s.name, .bool s.drain]] w fun e w' => e = .returned (.agg #[.string s.name, .bool s.drain]) ∧ Grow w w' := by
  go_enter Try.func125, Try.ntmps125
  go_wp2
  exact bodyPost_ret (v := .agg #[.string s.name, .bool s.drain]) (by simp [results, Try.results125, go_sem]) rfl ⟨rfl, (((Grow.refl _).alloc _).alloc _).alloc _⟩
end Go.Proofs.Ytnmknkdbeccmhaa
namespace Go.Proofs.Ytnmknkdbeccmhaa
open Go.RowKit
set_option linter.unusedSimpArgs false

set_option maxRecDepth 100000 in
set_option maxHeartbeats 2000000 in
theorem eqStewService_c (s : Svc) (w : World) : Calls Try.prog 126 #[.agg #[.string s.name, .int .i64 s.version, .bool s.gone, .int .i64 s.image, .int .i64 s.want, .int .i64 s.down, .int .i64 s.over, .int .i64 s.next, .int .i64 s.per, .int .i64 s.least, .int .i64 s.most, .int .i64 s.load, .int .i64 s.cool], .agg #[.string s.name, .int .i64 s.version, .bool s.gone, .int .i64 s.image, .int .i64 s.want, .int .i64 s.down, .int .i64 s.over, .int .i64 s.next, .int .i64 s.per, .int .i64 s.least, .int .i64 s.most, .int .i64 s.load, .int .i64 s.cool]] w fun e w' => e = .returned (.bool true) ∧ Grow w w' := by
  go_enter Try.func126, Try.ntmps126
  go_wp2
  go_ret
  exact ⟨rfl, ((Grow.refl _).alloc _).alloc _⟩
set_option maxRecDepth 100000 in
set_option maxHeartbeats 4000000 in
theorem eqStewServiceS_c (xs : List Svc) {A B : Option Addr} {c c' : Nat} (hn : xs.length ≤ 2000000) (w : World) (h : Rows 13 svcC w A xs) (h' : Rows 13 svcC w B xs) :
    Calls Try.prog 73 #[.slice A xs.length c, .slice B xs.length c'] w fun e w' => e = .returned (.bool true) ∧ Grow w w' := by
  have R := Lib.hid h
  have R' := Lib.hid h'
  clear h h'
  go_enter Try.func73, Try.ntmps73
  go_wp2
  refine rebase ?_
  intro W hW
  obtain rfl := hW.out
  go_loopw [5] (fun i wr => ∃ (k : Nat) (y : Ext), k ≤ xs.length ∧ i = .int .i64 k ∧ wr = wplus W y) (fun i _ => xs.length - (intOf i).toNat)
  case atStart => exact ⟨0, _, Nat.zero_le _, rfl, rfl⟩
  case round =>
    obtain ⟨k, y, hk, rfl, rfl⟩ := hrel
    by_cases hlt : k < xs.length
    · obtain ⟨x, hx⟩ := ex_at hlt
      obtain ⟨b1, o1, rfl, hb1, f0, f1, f2, f3, f4, f5, f6, f7, f8, f9, f10, f11, f12⟩ := svc_p R.out hx
      obtain ⟨b2, o2, rfl, hb2, g0, g1, g2, g3, g4, g5, g6, g7, g8, g9, g10, g11, g12⟩ := svc_p R'.out hx
      clear hx
      have t2 : (0 : Int) ≤ (k : Int) := Int.natCast_nonneg _
      have t3 : (k : Int) < (xs.length : Int) := by omega
      go_wp2
      refine region_quiet ⟨_, rfl⟩ (by kernel_rfl) (by kernel_rfl) ?_
      repeat (go_big_quiet_step ((go_at_call 126; exact quiet_grow (eqStewService_c x _))))
      refine wpQuiet_nil ?_
      rintro w2 ⟨y2, rfl⟩
      go_wp2
      go_roundw
      case rel => exact ⟨k + 1, _, by omega, by go_num, rfl⟩
      case measure => simp [intOf]; omega
    · obtain rfl : k = xs.length := by omega
      go_wp2
      go_ret
      exact ⟨rfl, Grow.wplus _ _⟩

set_option maxRecDepth 100000 in
set_option maxHeartbeats 2000000 in
theorem eqStewCopy_c (s : Cpy) (w : World) : Calls Try.prog 127 #[.agg #[.string s.service, .int .i64 s.number, .int .i64 s.version, .int .i64 s.image, .int .i64 s.state, .bool s.ending, .string s.berth], .agg #[.string s.service, .int .i64 s.number, .int .i64 s.version, .int .i64 s.image, .int .i64 s.state, .bool s.ending, .string s.berth]] w fun e w' => e = .returned (.bool true) ∧ Grow w w' := by
  go_enter Try.func127, Try.ntmps127
  go_wp2
  go_ret
  exact ⟨rfl, ((Grow.refl _).alloc _).alloc _⟩
set_option maxRecDepth 100000 in
set_option maxHeartbeats 4000000 in
theorem eqStewCopyS_c (xs : List Cpy) {A B : Option Addr} {c c' : Nat} (hn : xs.length ≤ 2000000) (w : World) (h : Rows 7 cpyC w A xs) (h' : Rows 7 cpyC w B xs) :
    Calls Try.prog 74 #[.slice A xs.length c, .slice B xs.length c'] w fun e w' => e = .returned (.bool true) ∧ Grow w w' := by
  have R := Lib.hid h
  have R' := Lib.hid h'
  clear h h'
  go_enter Try.func74, Try.ntmps74
  go_wp2
  refine rebase ?_
  intro W hW
  obtain rfl := hW.out
  go_loopw [5] (fun i wr => ∃ (k : Nat) (y : Ext), k ≤ xs.length ∧ i = .int .i64 k ∧ wr = wplus W y) (fun i _ => xs.length - (intOf i).toNat)
  case atStart => exact ⟨0, _, Nat.zero_le _, rfl, rfl⟩
  case round =>
    obtain ⟨k, y, hk, rfl, rfl⟩ := hrel
    by_cases hlt : k < xs.length
    · obtain ⟨x, hx⟩ := ex_at hlt
      obtain ⟨b1, o1, rfl, hb1, f0, f1, f2, f3, f4, f5, f6⟩ := cpy_p R.out hx
      obtain ⟨b2, o2, rfl, hb2, g0, g1, g2, g3, g4, g5, g6⟩ := cpy_p R'.out hx
      clear hx
      have t2 : (0 : Int) ≤ (k : Int) := Int.natCast_nonneg _
      have t3 : (k : Int) < (xs.length : Int) := by omega
      go_wp2
      refine region_quiet ⟨_, rfl⟩ (by kernel_rfl) (by kernel_rfl) ?_
      repeat (go_big_quiet_step ((go_at_call 127; exact quiet_grow (eqStewCopy_c x _))))
      refine wpQuiet_nil ?_
      rintro w2 ⟨y2, rfl⟩
      go_wp2
      go_roundw
      case rel => exact ⟨k + 1, _, by omega, by go_num, rfl⟩
      case measure => simp [intOf]; omega
    · obtain rfl : k = xs.length := by omega
      go_wp2
      go_ret
      exact ⟨rfl, Grow.wplus _ _⟩

set_option maxRecDepth 100000 in
set_option maxHeartbeats 2000000 in
theorem eqStewBerth_c (s : Brt) (w : World) : Calls Try.prog 128 #[.agg #[.string s.name, .bool s.drain], .agg #[.string s.name, .bool s.drain]] w fun e w' => e = .returned (.bool true) ∧ Grow w w' := by
  go_enter Try.func128, Try.ntmps128
  go_wp2
  go_ret
  exact ⟨rfl, ((Grow.refl _).alloc _).alloc _⟩
set_option maxRecDepth 100000 in
set_option maxHeartbeats 4000000 in
theorem eqStewBerthS_c (xs : List Brt) {A B : Option Addr} {c c' : Nat} (hn : xs.length ≤ 2000000) (w : World) (h : Rows 2 brtC w A xs) (h' : Rows 2 brtC w B xs) :
    Calls Try.prog 75 #[.slice A xs.length c, .slice B xs.length c'] w fun e w' => e = .returned (.bool true) ∧ Grow w w' := by
  have R := Lib.hid h
  have R' := Lib.hid h'
  clear h h'
  go_enter Try.func75, Try.ntmps75
  go_wp2
  refine rebase ?_
  intro W hW
  obtain rfl := hW.out
  go_loopw [5] (fun i wr => ∃ (k : Nat) (y : Ext), k ≤ xs.length ∧ i = .int .i64 k ∧ wr = wplus W y) (fun i _ => xs.length - (intOf i).toNat)
  case atStart => exact ⟨0, _, Nat.zero_le _, rfl, rfl⟩
  case round =>
    obtain ⟨k, y, hk, rfl, rfl⟩ := hrel
    by_cases hlt : k < xs.length
    · obtain ⟨x, hx⟩ := ex_at hlt
      obtain ⟨b1, o1, rfl, hb1, f0, f1⟩ := brt_p R.out hx
      obtain ⟨b2, o2, rfl, hb2, g0, g1⟩ := brt_p R'.out hx
      clear hx
      have t2 : (0 : Int) ≤ (k : Int) := Int.natCast_nonneg _
      have t3 : (k : Int) < (xs.length : Int) := by omega
      go_wp2
      refine region_quiet ⟨_, rfl⟩ (by kernel_rfl) (by kernel_rfl) ?_
      repeat (go_big_quiet_step ((go_at_call 128; exact quiet_grow (eqStewBerth_c x _))))
      refine wpQuiet_nil ?_
      rintro w2 ⟨y2, rfl⟩
      go_wp2
      go_roundw
      case rel => exact ⟨k + 1, _, by omega, by go_num, rfl⟩
      case measure => simp [intOf]; omega
    · obtain rfl : k = xs.length := by omega
      go_wp2
      go_ret
      exact ⟨rfl, Grow.wplus _ _⟩

set_option maxRecDepth 100000 in
set_option maxHeartbeats 4000000 in
theorem eqStewBook_c (b : Book) {A1 A2 A3 B1 B2 B3 : Option Addr} {c1 c2 c3 d1 d2 d3 : Nat} (w : World) (h1 : Rows 13 svcC w A1 b.svcs) (h2 : Rows 7 cpyC w A2 b.cps) (h3 : Rows 2 brtC w A3 b.brs)
    (k1 : Rows 13 svcC w B1 b.svcs) (k2 : Rows 7 cpyC w B2 b.cps) (k3 : Rows 2 brtC w B3 b.brs) (l1 : b.svcs.length ≤ 2000000) (l2 : b.cps.length ≤ 2000000) (l3 : b.brs.length ≤ 2000000) :
    Calls Try.prog 19 #[.agg #[.int .i64 b.now, .slice A1 b.svcs.length c1, .slice A2 b.cps.length c2, .slice A3 b.brs.length c3], .agg #[.int .i64 b.now, .slice B1 b.svcs.length d1, .slice B2 b.cps.length d2, .slice B3 b.brs.length d3]] w fun e w' => e = .returned (.bool true) ∧ Grow w w' := by
  have H1 := Lib.hid h1
  have H2 := Lib.hid h2
  have H3 := Lib.hid h3
  have K1 := Lib.hid k1
  have K2 := Lib.hid k2
  have K3 := Lib.hid k3
  clear h1 h2 h3 k1 k2 k3
  have G0 := Lib.hid (fun (o o' : Obj) => ((Grow.refl w).alloc o).alloc o')
  go_enter Try.func19, Try.ntmps19
  go_wp2_with (first
    | (go_at_call 73; refine (eqStewServiceS_c b.svcs l1 _ (H1.out.below (G0.out _ _)) (K1.out.below (G0.out _ _))).mono ?_; rintro e w1 ⟨rfl, hg1⟩; have e1 := (hg1.block w.heap.size (by simp; omega)).trans (heap_alloc2 w _ _); have e2 := (hg1.block (w.heap.size + 1) (by simp)).trans (heap_alloc2_new w _ _); have e12 := cell_of_row w1 _ 2 _ _ _ e1; have e22 := cell_of_row w1 _ 2 _ _ _ e2)
    | (go_at_call 74; refine (eqStewCopyS_c b.cps l2 _ (H2.out.below ((G0.out _ _).trans hg1)) (K2.out.below ((G0.out _ _).trans hg1))).mono ?_; rintro e w2 ⟨rfl, hg2⟩; have e13 := cell_of_row w2 _ 3 _ _ _ ((hg2.block _ (Array.getElem?_eq_some_iff.1 e1).1).trans e1); have e23 := cell_of_row w2 _ 3 _ _ _ ((hg2.block _ (Array.getElem?_eq_some_iff.1 e2).1).trans e2))
    | (go_at_call 75; refine (eqStewBerthS_c b.brs l3 _ (H3.out.below (((G0.out _ _).trans hg1).trans hg2)) (K3.out.below (((G0.out _ _).trans hg1).trans hg2))).mono ?_; rintro e w3 ⟨rfl, hg3⟩))
  go_ret
  exact ⟨rfl, (((G0.out _ _).trans hg1).trans hg2).trans hg3⟩
end Go.Proofs.Ytnmknkdbeccmhaa
