/- Words for the walks: a world that has grown by new blocks ('wplus'), what a callee leaves ('Grow'), a region that only reads and makes garbage. -/
import Derived.Test.YtnmknkdbeccmhaaProg
import Derived.Test.YtnmknkdbeccmhaaM0
import Derived.WalkKit
import Derived.WalkLawsBesides
import Derived.Outline
import Derived.KernelRfl
import Derived.OwnWalk
import Derived.Deep.LoopGhost
import Derived.Deep.QuietTactic
import Derived.BigQuiet
import Derived.Deep.Light
import Derived.Deep.RegionHeld3
import Derived.Deep.DeepCutAuto
import Derived.Lib.Hide
namespace Go.Proofs.Ytnmknkdbeccmhaa
open Go.RowKit

/-- Old blocks are as they were; new ones may have come. -/
abbrev Grow (w w' : World) : Prop := Below w.heap.size w w'
theorem Grow.refl (w : World) : Grow w w := Below.refl _ _
theorem Grow.trans {a b c : World} (h : Grow a b) (k : Grow b c) : Grow a c := Below.trans h (k.mono h.size)
theorem Grow.alloc {a b : World} (h : Grow a b) (o : Obj) : Grow a (b.alloc o) := Below.alloc h h.size o
theorem Grow.drew {a b : World} (h : Grow a b) : Grow a b.drew := Below.drew h
theorem Grow.drewN {a b : World} (h : Grow a b) (n : Nat) : Grow a (b.drewN n) := h.trans ⟨rfl, rfl, rfl, Nat.le_refl _, fun _ _ => rfl⟩

/-- What a world may grow by: blocks behind its own, and a count of draws. -/
structure Ext where
  e : Array Obj
  d : Nat
instance : Inhabited Ext := ⟨⟨#[], 0⟩⟩
/-- The world w with the blocks of x behind its own. -/
def wplus (w : World) (x : Ext) : World := { w with heap := w.heap ++ x.e, drawn := x.d }
def ext0 (w : World) : Ext := ⟨#[], w.drawn⟩
theorem wplus_self (w : World) : wplus w (ext0 w) = w := by cases w; simp [wplus, ext0]
theorem wplus_wplus (w : World) (x y : Ext) : wplus (wplus w x) y = wplus w ⟨x.e ++ y.e, y.d⟩ := by simp [wplus, Array.append_assoc]
theorem wplus_drew (w : World) (x : Ext) : (wplus w x).drew = wplus w ⟨x.e, x.d + 1⟩ := rfl
theorem wplus_size (w : World) (x : Ext) : (wplus w x).heap.size = w.heap.size + x.e.size := by simp [wplus]
theorem Grow.wplus (w : World) (x : Ext) : Grow w (wplus w x) :=
  ⟨rfl, rfl, rfl, by simp [Proofs.Ytnmknkdbeccmhaa.wplus], fun k hk => by simp only [Proofs.Ytnmknkdbeccmhaa.wplus]; rw [Array.getElem?_append_left hk]⟩
theorem Grow.ex {w w' : World} (h : Grow w w') : ∃ x, w' = Proofs.Ytnmknkdbeccmhaa.wplus w x := by
  refine ⟨⟨w'.heap.extract w.heap.size w'.heap.size, w'.drawn⟩, ?_⟩
  have hh : w'.heap = w.heap ++ w'.heap.extract w.heap.size w'.heap.size := by
    apply Array.ext'
    apply List.ext_getElem?
    intro i
    have hs := h.size
    by_cases hi : i < w.heap.size
    · have := h.block i hi
      simp only [Array.getElem?_toList] at *
      rw [this, Array.getElem?_append_left hi]
    · simp only [Array.getElem?_toList]
      rw [Array.getElem?_append_right (by omega), Array.getElem?_extract]
      split
      · congr 1; omega
      · rw [Array.getElem?_eq_none (by omega)]
  cases w; cases w'
  simp only [Proofs.Ytnmknkdbeccmhaa.wplus, World.mk.injEq]
  exact ⟨hh, h.tape, trivial, h.os, h.output⟩
/-- A callee's growth, met in a world that has grown. -/
theorem Grow.on {w w' : World} {x : Ext} (h : Grow (Proofs.Ytnmknkdbeccmhaa.wplus w x) w') : ∃ y, w' = Proofs.Ytnmknkdbeccmhaa.wplus w y := ((Grow.wplus w x).trans h).ex
theorem Rows.plus {α : Type} {n : Nat} {cs : α → List Value} {w : World} {A : Option Addr} {xs : List α} (h : Rows n cs w A xs) (x : Ext) : Rows n cs (wplus w x) A xs := h.below (Grow.wplus w x)

/-- The class of the worlds that have grown out of w. -/
def Grown (w : World) (w' : World) : Prop := ∃ x, w' = wplus w x
theorem region_quiet {P : Program} {id : Nat} {Q : Exit → Act → World → Prop} {a : Act} {W w : World} {l : List Oper} (hw : ∃ x, w = wplus W x) (hm : P.follows .mixedOrders = true) (hB : Region.lexB .any l.toArray = true)
    (h : wpQuiet P l.toArray (fun w' => ∃ x, w' = wplus W x) (fun a' => ∀ w', (∃ x, w' = wplus W x) → Q .normal a' w') l a) : (Code.region id l.toArray true).wp P Q a w :=
  wp_region_quiet (C := fun w' => ∃ x, w' = wplus W x) hm hB (by obtain ⟨x, rfl⟩ := hw; exact ⟨⟨x.e, x.d + 1⟩, rfl⟩) (by simpa using h)
/-- A callee's contract, met inside such a region. -/
theorem quiet_grow {P : Program} {f : FuncId} {args : Array Value} {w : World} {x : Ext} {v : Value}
    (h : Calls P f args (wplus w x) fun o w' => o = .returned v ∧ Grow (wplus w x) w') : Calls P f args (wplus w x) fun o w' => o = .returned v ∧ ∃ y, w' = wplus w y :=
  h.mono fun _ _ ⟨h1, h2⟩ => ⟨h1, h2.on⟩
theorem quiet_same {P : Program} {f : FuncId} {args : Array Value} {w : World} {x : Ext} {v : Value}
    (h : Calls P f args (wplus w x) fun o w' => o = .returned v ∧ wplus w x = w') : Calls P f args (wplus w x) fun o w' => o = .returned v ∧ ∃ y, w' = wplus w y :=
  h.mono fun _ _ ⟨h1, h2⟩ => ⟨h1, _, h2.symm⟩
theorem at_plus {P : Program} {c : Code} {Q : Exit → Act → World → Prop} {a : Act} {w : World} (h : Code.wp P c Q a (wplus w (ext0 w))) : Code.wp P c Q a w := by
  rwa [wplus_self] at h

/-- The world under a name of its own, from here on. -/
theorem rebase {P : Program} {c : Code} {Q : Exit → Act → World → Prop} {a : Act} {w : World} (h : ∀ W : World, Hid (W = w) → Code.wp P c Q a (wplus W (ext0 W))) : Code.wp P c Q a w := by
  have := h w rfl
  rwa [wplus_self] at this
theorem heap_alloc2 (w : World) (o o' : Obj) : ((w.alloc o).alloc o').heap[w.heap.size]? = some o := (Below.heap_alloc _ _ _ (by simp)).trans (heap_alloc_new w o)
theorem chain2 (a b : Bool) : a = false ∨ (a = true ∧ b = false) ∨ (a = true ∧ b = true) := by cases a <;> cases b <;> simp
theorem chain3 (a b c : Bool) : a = false ∨ (a = true ∧ b = false) ∨ (a = true ∧ b = true ∧ c = false) ∨ (a = true ∧ b = true ∧ c = true) := by cases a <;> cases b <;> cases c <;> simp
theorem chain4 (a b c d : Bool) : a = false ∨ (a = true ∧ b = false) ∨ (a = true ∧ b = true ∧ c = false) ∨ (a = true ∧ b = true ∧ c = true ∧ d = false) ∨ (a = true ∧ b = true ∧ c = true ∧ d = true) := by cases a <;> cases b <;> cases c <;> cases d <;> simp

theorem cells_plus {α : Type} {n : Nat} {cs : α → List Value} {w : World} {A : Option Addr} {xs : List α} (h : Rows n cs w A xs) {i : Nat} {x : α} (hx : xs[i]? = some x) (h0 : ∃ u, (cs x)[0]? = some u) :
    ∃ b o, A = some ⟨b, o, none⟩ ∧ b < w.heap.size ∧ ∀ j u, (cs x)[j]? = some u → ∀ y, (wplus w y).cell? ⟨b, o + i * n + j, none⟩ = some u := by
  obtain ⟨b, o, e, hc⟩ := h.at_ hx
  obtain ⟨u, hu⟩ := h0
  exact ⟨b, o, e, World.block_lt_of_cell? w _ (hc 0 u hu), fun j u hu y => ((Grow.wplus w _).cell (World.block_lt_of_cell? w _ (hc j u hu))).trans (hc j u hu)⟩
theorem svc_p {w : World} {A : Option Addr} {xs : List Svc} (h : Rows 13 svcC w A xs) {i : Nat} {x : Svc} (hx : xs[i]? = some x) :
    ∃ b o, A = some ⟨b, o, none⟩ ∧ b < w.heap.size ∧ (∀ y, (wplus w y).cell? ⟨b, o + i * 13, none⟩ = some (.string x.name)) ∧ (∀ y, (wplus w y).cell? ⟨b, o + i * 13 + 1, none⟩ = some (.int .i64 x.version)) ∧ (∀ y, (wplus w y).cell? ⟨b, o + i * 13 + 2, none⟩ = some (.bool x.gone)) ∧
      (∀ y, (wplus w y).cell? ⟨b, o + i * 13 + 3, none⟩ = some (.int .i64 x.image)) ∧ (∀ y, (wplus w y).cell? ⟨b, o + i * 13 + 4, none⟩ = some (.int .i64 x.want)) ∧ (∀ y, (wplus w y).cell? ⟨b, o + i * 13 + 5, none⟩ = some (.int .i64 x.down)) ∧ (∀ y, (wplus w y).cell? ⟨b, o + i * 13 + 6, none⟩ = some (.int .i64 x.over)) ∧
      (∀ y, (wplus w y).cell? ⟨b, o + i * 13 + 7, none⟩ = some (.int .i64 x.next)) ∧ (∀ y, (wplus w y).cell? ⟨b, o + i * 13 + 8, none⟩ = some (.int .i64 x.per)) ∧ (∀ y, (wplus w y).cell? ⟨b, o + i * 13 + 9, none⟩ = some (.int .i64 x.least)) ∧ (∀ y, (wplus w y).cell? ⟨b, o + i * 13 + 10, none⟩ = some (.int .i64 x.most)) ∧
      (∀ y, (wplus w y).cell? ⟨b, o + i * 13 + 11, none⟩ = some (.int .i64 x.load)) ∧ (∀ y, (wplus w y).cell? ⟨b, o + i * 13 + 12, none⟩ = some (.int .i64 x.cool)) := by
  obtain ⟨b, o, e, hb, hc⟩ := cells_plus h hx ⟨_, rfl⟩
  exact ⟨b, o, e, hb, hc 0 _ rfl, hc 1 _ rfl, hc 2 _ rfl, hc 3 _ rfl, hc 4 _ rfl, hc 5 _ rfl, hc 6 _ rfl, hc 7 _ rfl, hc 8 _ rfl, hc 9 _ rfl, hc 10 _ rfl, hc 11 _ rfl, hc 12 _ rfl⟩
theorem cpy_p {w : World} {A : Option Addr} {xs : List Cpy} (h : Rows 7 cpyC w A xs) {i : Nat} {x : Cpy} (hx : xs[i]? = some x) :
    ∃ b o, A = some ⟨b, o, none⟩ ∧ b < w.heap.size ∧ (∀ y, (wplus w y).cell? ⟨b, o + i * 7, none⟩ = some (.string x.service)) ∧ (∀ y, (wplus w y).cell? ⟨b, o + i * 7 + 1, none⟩ = some (.int .i64 x.number)) ∧ (∀ y, (wplus w y).cell? ⟨b, o + i * 7 + 2, none⟩ = some (.int .i64 x.version)) ∧
      (∀ y, (wplus w y).cell? ⟨b, o + i * 7 + 3, none⟩ = some (.int .i64 x.image)) ∧ (∀ y, (wplus w y).cell? ⟨b, o + i * 7 + 4, none⟩ = some (.int .i64 x.state)) ∧ (∀ y, (wplus w y).cell? ⟨b, o + i * 7 + 5, none⟩ = some (.bool x.ending)) ∧ (∀ y, (wplus w y).cell? ⟨b, o + i * 7 + 6, none⟩ = some (.string x.berth)) := by
  obtain ⟨b, o, e, hb, hc⟩ := cells_plus h hx ⟨_, rfl⟩
  exact ⟨b, o, e, hb, hc 0 _ rfl, hc 1 _ rfl, hc 2 _ rfl, hc 3 _ rfl, hc 4 _ rfl, hc 5 _ rfl, hc 6 _ rfl⟩
theorem brt_p {w : World} {A : Option Addr} {xs : List Brt} (h : Rows 2 brtC w A xs) {i : Nat} {x : Brt} (hx : xs[i]? = some x) :
    ∃ b o, A = some ⟨b, o, none⟩ ∧ b < w.heap.size ∧ (∀ y, (wplus w y).cell? ⟨b, o + i * 2, none⟩ = some (.string x.name)) ∧ (∀ y, (wplus w y).cell? ⟨b, o + i * 2 + 1, none⟩ = some (.bool x.drain)) := by
  obtain ⟨b, o, e, hb, hc⟩ := cells_plus h hx ⟨_, rfl⟩
  exact ⟨b, o, e, hb, hc 0 _ rfl, hc 1 _ rfl⟩
/-- A block that is known whole, in worlds that have grown. -/
theorem blk_p {w : World} {g : Nat} {cs : Array Value} {t : TypeId} {fr : Nat × Nat} (h : w.heap[g]? = some (.cells cs t fr)) (i : Nat) (y : Ext) : (wplus w y).cell? ⟨g, i, none⟩ = cs[i]? := by
  have hg : g < w.heap.size := (Array.getElem?_eq_some_iff.1 h).1
  exact cell_of_row (wplus w y) g i cs t fr (((Grow.wplus w _).block g hg).trans h)

theorem ret_int {k : IntKind} {a b : Int} (h : a = b) : Ending.returned (.int k a) = .returned (.int k b) := by rw [h]
theorem ret_bool {a b : Bool} (h : a = b) : Ending.returned (.bool a) = .returned (.bool b) := by rw [h]
theorem drop_at {α : Type} {xs : List α} {k : Nat} {x : α} (h : xs[k]? = some x) : xs.drop k = x :: xs.drop (k + 1) := by
  obtain ⟨hl, hx⟩ := List.getElem?_eq_some_iff.1 h
  rw [List.drop_eq_getElem_cons hl, hx]
theorem ex_at {α : Type} {xs : List α} {k : Nat} (h : k < xs.length) : ∃ x, xs[k]? = some x := ⟨_, List.getElem?_eq_getElem h⟩
end Go.Proofs.Ytnmknkdbeccmhaa
