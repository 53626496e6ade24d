/- What is valid: names, services, berths, copies, books, as Bools over plain data. -/
import Derived.Test.YtnmknkdbeccmhaaM0
import Derived.Laws.World
namespace Go.Proofs.Ytnmknkdbeccmhaa
open Go.RowKit

def ltN (a b : ByteArray) : Bool := Op.bytesLess a.toList b.toList
def eqN (a b : ByteArray) : Bool := a.toList == b.toList

def inB (lo n hi : Int) : Bool := decide (lo ≤ n ∧ n ≤ hi)
def chOk (c : UInt8) : Bool := decide (97 ≤ (c.toNat : Int) ∧ (c.toNat : Int) ≤ 122 ∨ 48 ≤ (c.toNat : Int) ∧ (c.toNat : Int) ≤ 57 ∨ (c.toNat : Int) = 45)
def nameOk (s : ByteArray) : Bool := decide (1 ≤ (s.size : Int) ∧ (s.size : Int) ≤ 20) && s.data.toList.all chOk
theorem nameOk_short {s : ByteArray} (h : ¬ (1 ≤ (s.size : Int) ∧ (s.size : Int) ≤ 20)) : nameOk s = false := by unfold nameOk; rw [decide_eq_false h]; rfl
theorem nameOk_len {s : ByteArray} (h : 1 ≤ (s.size : Int) ∧ (s.size : Int) ≤ 20) : nameOk s = s.data.toList.all chOk := by unfold nameOk; rw [decide_eq_true h]; rfl

def SvcNum (s : Svc) (now : Int) : Prop := 1 ≤ s.version ∧ s.version ≤ now ∧ 1 ≤ s.image ∧ s.image ≤ 1000000 ∧ 1 ≤ s.next ∧ s.next ≤ 1000000 ∧ 0 ≤ s.want ∧ s.want ≤ 10 ∧ 0 ≤ s.down ∧ s.down ≤ 10 ∧ 0 ≤ s.over ∧ s.over ≤ 10 ∧ 0 < s.down + s.over ∧
  0 ≤ s.per ∧ s.per ≤ 1000000 ∧ 0 ≤ s.load ∧ s.load ≤ 1000000 ∧ 0 ≤ s.least ∧ s.most ≤ 10 ∧ s.least ≤ s.most ∧ 0 ≤ s.cool ∧ s.cool ≤ 3 ∧ (s.per = 0 → s.most = 0 ∧ s.load = 0 ∧ s.cool = 0)
instance (s : Svc) (now : Int) : Decidable (SvcNum s now) := by unfold SvcNum; infer_instance
def svcOk (s : Svc) (now : Int) : Bool := nameOk s.name && decide (SvcNum s now)
theorem svcOk_iff {s : Svc} {now : Int} : svcOk s now = true ↔ nameOk s.name = true ∧ SvcNum s now := by simp [svcOk]

/-- The services from here on are as they are to be, p being the one ahead of them. -/
def svcsOk (now : Int) : Option Svc → List Svc → Bool
  | _, [] => true
  | none, s :: xs => svcOk s now && svcsOk now (some s) xs
  | some p, s :: xs => svcOk s now && (ltN p.name s.name && svcsOk now (some s) xs)
def brsOk : Option Brt → List Brt → Bool
  | _, [] => true
  | none, s :: xs => nameOk s.name && brsOk (some s) xs
  | some p, s :: xs => nameOk s.name && (ltN p.name s.name && brsOk (some s) xs)
def ahead (a b : Cpy) : Bool := ltN a.service b.service || (eqN a.service b.service && decide (a.number < b.number))

/-- The place of the first that is so. -/
def fIdx {α : Type} (p : α → Bool) : List α → Nat → Option Nat
  | [], _ => none
  | x :: xs, k => if p x then some k else fIdx p xs (k + 1)
def idxI : Option Nat → Int
  | none => -1
  | some i => i
theorem idxI_ge (o : Option Nat) : decide (0 ≤ idxI o) = o.isSome := by cases o <;> simp [idxI]
theorem idxI_lt (o : Option Nat) : decide (idxI o < 0) = o.isNone := by cases o with | none => rfl | some i => exact decide_eq_false (by simp only [idxI]; omega)
def svcAt (xs : List Svc) (nm : ByteArray) : Option Nat := fIdx (fun s => eqN s.name nm) xs 0
def brtAt (xs : List Brt) (nm : ByteArray) : Option Nat := fIdx (fun s => eqN s.name nm) xs 0
def cpyAt (xs : List Cpy) (nm : ByteArray) (n : Int) : Option Nat := fIdx (fun c => eqN c.service nm && decide (c.number = n)) xs 0
theorem fIdx_some {α : Type} {p : α → Bool} : ∀ {xs : List α} {k i : Nat}, fIdx p xs k = some i → k ≤ i ∧ ∃ x, xs[i - k]? = some x ∧ p x = true
  | [], _, _, h => by simp [fIdx] at h
  | x :: xs, k, i, h => by
    unfold fIdx at h
    by_cases hx : p x = true
    · rw [if_pos hx] at h
      obtain rfl := Option.some.inj h
      exact ⟨Nat.le_refl _, x, by simp, hx⟩
    · rw [if_neg hx] at h
      obtain ⟨h1, y, h2, h3⟩ := fIdx_some h
      refine ⟨by omega, y, ?_, h3⟩
      rw [show i - k = (i - (k + 1)) + 1 from by omega, List.getElem?_cons_succ]
      exact h2
theorem fIdx_some0 {α : Type} {p : α → Bool} {xs : List α} {i : Nat} (h : fIdx p xs 0 = some i) : ∃ x, xs[i]? = some x ∧ p x = true := (fIdx_some h).2
theorem fIdx_none {α : Type} {p : α → Bool} : ∀ {xs : List α} {k : Nat}, fIdx p xs k = none → ∀ x ∈ xs, p x = false
  | [], _, _, x, hx => by simp at hx
  | y :: xs, k, h, x, hx => by
    unfold fIdx at h
    by_cases hy : p y = true
    · rw [if_pos hy] at h; simp at h
    · rw [if_neg hy] at h
      rcases List.mem_cons.1 hx with rfl | hm
      · simpa using hy
      · exact fIdx_none h x hm

def cpyNum (b : Book) (s : Svc) (c : Cpy) : Bool := inB 1 c.number (s.next - 1) && inB 1 c.version b.now && inB 1 c.image 1000000 && inB 1 c.state 4 && (if c.state = 1 then c.berth.toList.isEmpty else (brtAt b.brs c.berth).isSome)
def cpyOk (b : Book) (c : Cpy) : Bool := match (svcAt b.svcs c.service).bind (b.svcs[·]?) with | none => false | some s => cpyNum b s c
def cpsOk (b : Book) : Option Cpy → List Cpy → Bool
  | _, [] => true
  | none, s :: xs => cpyOk b s && cpsOk b (some s) xs
  | some p, s :: xs => cpyOk b s && (ahead p s && cpsOk b (some s) xs)
def valid (b : Book) : Bool := decide (0 ≤ b.now ∧ b.now ≤ 1000000 ∧ b.svcs.length ≤ 8 ∧ b.cps.length ≤ 200 ∧ b.brs.length ≤ 6) && svcsOk b.now none b.svcs && brsOk none b.brs && cpsOk b none b.cps

/-- The one ahead of place k. -/
def prev {α : Type} (xs : List α) : Nat → Option α
  | 0 => none
  | k + 1 => xs[k]?
end Go.Proofs.Ytnmknkdbeccmhaa
