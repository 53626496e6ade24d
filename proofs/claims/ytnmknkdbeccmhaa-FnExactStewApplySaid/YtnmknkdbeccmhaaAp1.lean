/- What is valid: names, services, berths, copies, books, as Bools over plain data. The count of a service's copies, and what may be ended, as plain data. The order of names: byte by byte, a strict total order. Counts as plain numbers; what a valid book gives; what may be ended; the ranks. Plain data alone. The ranks and what is done, as plain data. Worlds: a book and the books that were, as plain data; what is ok; their measure. Acts on a book as plain data: what is formed, what is refused and why, what is left. No program in sight. The reference's ranks, service by service, and that they are the ranks. The reference's ranks, step by step. Where new copies go: plain laws on lists. -/
import Derived.Test.YtnmknkdbeccmhaaAp0
import Derived.Laws.World
namespace Go.Proofs.Ytnmknkdbeccmhaa
open Go.RowKit

def ltN (a b : ByteArray) : Bool := Op.bytesLess a.toList b.toList
def eqN (a b : ByteArray) : Bool := a.toList == b.toList

def inB (lo n hi : Int) : Bool := decide (lo ≤ n ∧ n ≤ hi)
def chOk (c : UInt8) : Bool := decide (97 ≤ (c.toNat : Int) ∧ (c.toNat : Int) ≤ 122 ∨ 48 ≤ (c.toNat : Int) ∧ (c.toNat : Int) ≤ 57 ∨ (c.toNat : Int) = 45)
def nameOk (s : ByteArray) : Bool := decide (1 ≤ (s.size : Int) ∧ (s.size : Int) ≤ 20) && s.data.toList.all chOk
theorem nameOk_short {s : ByteArray} (h : ¬ (1 ≤ (s.size : Int) ∧ (s.size : Int) ≤ 20)) : nameOk s = false := by unfold nameOk; rw [decide_eq_false h]; rfl
theorem nameOk_len {s : ByteArray} (h : 1 ≤ (s.size : Int) ∧ (s.size : Int) ≤ 20) : nameOk s = s.data.toList.all chOk := by unfold nameOk; rw [decide_eq_true h]; rfl

def SvcNum (s : Svc) (now : Int) : Prop := 1 ≤ s.version ∧ s.version ≤ now ∧ 1 ≤ s.image ∧ s.image ≤ 1000000 ∧ 1 ≤ s.next ∧ s.next ≤ 1000000 ∧ 0 ≤ s.want ∧ s.want ≤ 10 ∧ 0 ≤ s.down ∧ s.down ≤ 10 ∧ 0 ≤ s.over ∧ s.over ≤ 10 ∧ 0 < s.down + s.over ∧
  0 ≤ s.per ∧ s.per ≤ 1000000 ∧ 0 ≤ s.load ∧ s.load ≤ 1000000 ∧ 0 ≤ s.least ∧ s.most ≤ 10 ∧ s.least ≤ s.most ∧ 0 ≤ s.cool ∧ s.cool ≤ 3 ∧ (s.per = 0 → s.most = 0 ∧ s.load = 0 ∧ s.cool = 0)
instance (s : Svc) (now : Int) : Decidable (SvcNum s now) := by unfold SvcNum; infer_instance
def svcOk (s : Svc) (now : Int) : Bool := nameOk s.name && decide (SvcNum s now)
theorem svcOk_iff {s : Svc} {now : Int} : svcOk s now = true ↔ nameOk s.name = true ∧ SvcNum s now := by simp [svcOk]

/-- The services from here on are as they are to be, p being the one ahead of them. -/
def svcsOk (now : Int) : Option Svc → List Svc → Bool
  | _, [] => true
  | none, s :: xs => svcOk s now && svcsOk now (some s) xs
  | some p, s :: xs => svcOk s now && (ltN p.name s.name && svcsOk now (some s) xs)
def brsOk : Option Brt → List Brt → Bool
  | _, [] => true
  | none, s :: xs => nameOk s.name && brsOk (some s) xs
  | some p, s :: xs => nameOk s.name && (ltN p.name s.name && brsOk (some s) xs)
def ahead (a b : Cpy) : Bool := ltN a.service b.service || (eqN a.service b.service && decide (a.number < b.number))

/-- The place of the first that is so. -/
def fIdx {α : Type} (p : α → Bool) : List α → Nat → Option Nat
  | [], _ => none
  | x :: xs, k => if p x then some k else fIdx p xs (k + 1)
def idxI : Option Nat → Int
  | none => -1
  | some i => i
theorem idxI_ge (o : Option Nat) : decide (0 ≤ idxI o) = o.isSome := by cases o <;> simp [idxI]
theorem idxI_lt (o : Option Nat) : decide (idxI o < 0) = o.isNone := by cases o with | none => rfl | some i => exact decide_eq_false (by simp only [idxI]; omega)
def svcAt (xs : List Svc) (nm : ByteArray) : Option Nat := fIdx (fun s => eqN s.name nm) xs 0
def brtAt (xs : List Brt) (nm : ByteArray) : Option Nat := fIdx (fun s => eqN s.name nm) xs 0
def cpyAt (xs : List Cpy) (nm : ByteArray) (n : Int) : Option Nat := fIdx (fun c => eqN c.service nm && decide (c.number = n)) xs 0
theorem fIdx_some {α : Type} {p : α → Bool} : ∀ {xs : List α} {k i : Nat}, fIdx p xs k = some i → k ≤ i ∧ ∃ x, xs[i - k]? = some x ∧ p x = true
  | [], _, _, h => by simp [fIdx] at h
  | x :: xs, k, i, h => by
    unfold fIdx at h
    by_cases hx : p x = true
    · rw [if_pos hx] at h
      obtain rfl := Option.some.inj h
      exact ⟨Nat.le_refl _, x, by simp, hx⟩
    · rw [if_neg hx] at h
      obtain ⟨h1, y, h2, h3⟩ := fIdx_some h
      refine ⟨by omega, y, ?_, h3⟩
      rw [show i - k = (i - (k + 1)) + 1 from by omega, List.getElem?_cons_succ]
      exact h2
theorem fIdx_some0 {α : Type} {p : α → Bool} {xs : List α} {i : Nat} (h : fIdx p xs 0 = some i) : ∃ x, xs[i]? = some x ∧ p x = true := (fIdx_some h).2
theorem fIdx_none {α : Type} {p : α → Bool} : ∀ {xs : List α} {k : Nat}, fIdx p xs k = none → ∀ x ∈ xs, p x = false
  | [], _, _, x, hx => by simp at hx
  | y :: xs, k, h, x, hx => by
    unfold fIdx at h
    by_cases hy : p y = true
    · rw [if_pos hy] at h; simp at h
    · rw [if_neg hy] at h
      rcases List.mem_cons.1 hx with rfl | hm
      · simpa using hy
      · exact fIdx_none h x hm

def cpyNum (b : Book) (s : Svc) (c : Cpy) : Bool := inB 1 c.number (s.next - 1) && inB 1 c.version b.now && inB 1 c.image 1000000 && inB 1 c.state 4 && (if c.state = 1 then c.berth.toList.isEmpty else (brtAt b.brs c.berth).isSome)
def cpyOk (b : Book) (c : Cpy) : Bool := match (svcAt b.svcs c.service).bind (b.svcs[·]?) with | none => false | some s => cpyNum b s c
def cpsOk (b : Book) : Option Cpy → List Cpy → Bool
  | _, [] => true
  | none, s :: xs => cpyOk b s && cpsOk b (some s) xs
  | some p, s :: xs => cpyOk b s && (ahead p s && cpsOk b (some s) xs)
def valid (b : Book) : Bool := decide (0 ≤ b.now ∧ b.now ≤ 1000000 ∧ b.svcs.length ≤ 8 ∧ b.cps.length ≤ 200 ∧ b.brs.length ≤ 6) && svcsOk b.now none b.svcs && brsOk none b.brs && cpsOk b none b.cps

/-- The one ahead of place k. -/
def prev {α : Type} (xs : List α) : Nat → Option α
  | 0 => none
  | k + 1 => xs[k]?
end Go.Proofs.Ytnmknkdbeccmhaa
namespace Go.Proofs.Ytnmknkdbeccmhaa
open Go.RowKit

structure Cnt where
  live : Int
  serving : Int
  old : Int
  failed : Int
  ending : Int
deriving DecidableEq
def cntC (a : Cnt) : List Value := [.int .i64 a.live, .int .i64 a.serving, .int .i64 a.old, .int .i64 a.failed, .int .i64 a.ending]
def bump (x : Int) : Int := wrap64 (x + 1)
def cntStep (nm : ByteArray) (im : Int) (a : Cnt) (c : Cpy) : Cnt :=
  if eqN c.service nm = false then a
  else if c.ending = true then { a with ending := bump a.ending }
  else { live := bump a.live, serving := if c.state = 3 then bump a.serving else a.serving, old := if c.image = im then a.old else bump a.old, failed := if c.state = 4 then bump a.failed else a.failed, ending := a.ending }
def cnt0 : Cnt := ⟨0, 0, 0, 0, 0⟩
def cntOf (cps : List Cpy) (nm : ByteArray) (im : Int) : Cnt := cps.foldl (cntStep nm im) cnt0
end Go.Proofs.Ytnmknkdbeccmhaa
namespace Go.Proofs.Ytnmknkdbeccmhaa
open Go.RowKit

theorem bl_tri : ∀ (x y : List UInt8), Op.bytesLess y x = !(Op.bytesLess x y || x == y)
  | [], [] => rfl
  | [], b :: y => by simp [Op.bytesLess]
  | a :: x, [] => by simp [Op.bytesLess]
  | a :: x, b :: y => by
    have ih := bl_tri x y
    simp only [Op.bytesLess]
    rw [ih]
    rcases Nat.lt_trichotomy a.toNat b.toNat with h | h | h
    · have h1 : a < b := UInt8.lt_iff_toNat_lt.2 h
      have h2 : ¬ b < a := fun h3 => by have := UInt8.lt_iff_toNat_lt.1 h3; omega
      have h4 : b ≠ a := fun h3 => by subst h3; omega
      simp [h1, h2, h4]
    · have h5 : a = b := UInt8.toNat_inj.1 h
      subst h5
      have h1 : ¬ a < a := fun h3 => by have := UInt8.lt_iff_toNat_lt.1 h3; omega
      simp [h1]
    · have h1 : b < a := UInt8.lt_iff_toNat_lt.2 h
      have h2 : ¬ a < b := fun h3 => by have := UInt8.lt_iff_toNat_lt.1 h3; omega
      have h4 : a ≠ b := fun h3 => by subst h3; omega
      simp [h1, h2, h4]
theorem bl_irr (x : List UInt8) : Op.bytesLess x x = false := by
  have := bl_tri x x
  cases h : Op.bytesLess x x with
  | false => rfl
  | true => rw [h] at this; simp at this
theorem bl_trans : ∀ {x y z : List UInt8}, Op.bytesLess x y = true → Op.bytesLess y z = true → Op.bytesLess x z = true
  | _, [], _, h1, _ => by cases ‹List UInt8› <;> simp [Op.bytesLess] at h1
  | _, _ :: _, [], _, h2 => by simp [Op.bytesLess] at h2
  | [], _ :: _, _ :: _, _, _ => by simp [Op.bytesLess]
  | a :: x, b :: y, c :: z, h1, h2 => by
    simp only [Op.bytesLess, Bool.or_eq_true, decide_eq_true_eq, Bool.and_eq_true, beq_iff_eq] at *
    rcases h1 with h1 | ⟨rfl, h1⟩ <;> rcases h2 with h2 | ⟨rfl, h2⟩
    · exact .inl (UInt8.lt_trans h1 h2)
    · exact .inl h1
    · exact .inl h2
    · exact .inr ⟨rfl, bl_trans h1 h2⟩
theorem le_of_lt {p s : ByteArray} (h : ltN p s = true) : (Op.bytesLess s.toList p.toList || s.toList == p.toList) = false := by
  have := bl_tri s.toList p.toList
  unfold ltN at h
  rw [h] at this
  revert this
  generalize (Op.bytesLess s.toList p.toList || s.toList == p.toList) = c
  cases c <;> simp
theorem le_of_not {p s : ByteArray} (h : ltN p s = false) : (Op.bytesLess s.toList p.toList || s.toList == p.toList) = true := by
  have := bl_tri s.toList p.toList
  unfold ltN at h
  rw [h] at this
  revert this
  generalize (Op.bytesLess s.toList p.toList || s.toList == p.toList) = c
  cases c <;> simp
theorem ahead_not (q x : Cpy) : ahead q x = !(Op.bytesLess x.service.toList q.service.toList || (x.service.toList == q.service.toList && decide (x.number ≤ q.number))) := by
  have h := bl_tri x.service.toList q.service.toList
  unfold ahead ltN eqN
  rw [h]
  have e : (q.service.toList == x.service.toList) = (x.service.toList == q.service.toList) := by rw [Bool.eq_iff_iff, beq_iff_eq, beq_iff_eq]; exact eq_comm
  have d : decide (q.number < x.number) = !decide (x.number ≤ q.number) := by rw [Bool.eq_iff_iff]; simp
  rw [e, d]
  cases h1 : (x.service.toList == q.service.toList) <;> cases h2 : Op.bytesLess x.service.toList q.service.toList <;> simp
  have h3 : x.service.toList = q.service.toList := by simpa using h1
  rw [h3, bl_irr] at h2
  simp at h2
theorem cpsOk_no {b : Book} {x : Cpy} {p : Option Cpy} {xs : List Cpy} (h : cpyOk b x = false) : cpsOk b p (x :: xs) = false := by cases p <;> simp [cpsOk, h]
end Go.Proofs.Ytnmknkdbeccmhaa
namespace Go.Proofs.Ytnmknkdbeccmhaa
open Go.RowKit
set_option linter.unusedSimpArgs false

def isIn (nm : ByteArray) (c : Cpy) : Bool := eqN c.service nm
def isLive (nm : ByteArray) (c : Cpy) : Bool := eqN c.service nm && !c.ending
def isGoing (nm : ByteArray) (c : Cpy) : Bool := eqN c.service nm && c.ending
def isServ (nm : ByteArray) (c : Cpy) : Bool := isLive nm c && decide (c.state = 3)
def isOld (nm : ByteArray) (im : Int) (c : Cpy) : Bool := isLive nm c && !decide (c.image = im)
def isFail (nm : ByteArray) (c : Cpy) : Bool := isLive nm c && decide (c.state = 4)
def cntP (cps : List Cpy) (nm : ByteArray) (im : Int) : Cnt :=
  ⟨cps.countP (isLive nm), cps.countP (isServ nm), cps.countP (isOld nm im), cps.countP (isFail nm), cps.countP (isGoing nm)⟩
theorem wrap64_in {x : Int} (h : -9223372036854775808 ≤ x ∧ x ≤ 9223372036854775807) : wrap64 x = x := by unfold wrap64; omega
theorem cnt_fold {nm : ByteArray} {im : Int} : ∀ (cps : List Cpy) (a : Cnt), (0 ≤ a.live ∧ 0 ≤ a.serving ∧ 0 ≤ a.old ∧ 0 ≤ a.failed ∧ 0 ≤ a.ending) →
    (a.live + cps.length ≤ 4000000 ∧ a.serving + cps.length ≤ 4000000 ∧ a.old + cps.length ≤ 4000000 ∧ a.failed + cps.length ≤ 4000000 ∧ a.ending + cps.length ≤ 4000000) →
    cps.foldl (cntStep nm im) a = ⟨a.live + cps.countP (isLive nm), a.serving + cps.countP (isServ nm), a.old + cps.countP (isOld nm im), a.failed + cps.countP (isFail nm), a.ending + cps.countP (isGoing nm)⟩
  | [], a, _, _ => by simp
  | c :: cps, a, h0, h1 => by
    have w1 : bump a.live = a.live + 1 := wrap64_in (by simp only [List.length_cons] at h1; omega)
    have w2 : bump a.serving = a.serving + 1 := wrap64_in (by simp only [List.length_cons] at h1; omega)
    have w3 : bump a.old = a.old + 1 := wrap64_in (by simp only [List.length_cons] at h1; omega)
    have w4 : bump a.failed = a.failed + 1 := wrap64_in (by simp only [List.length_cons] at h1; omega)
    have w5 : bump a.ending = a.ending + 1 := wrap64_in (by simp only [List.length_cons] at h1; omega)
    rw [List.foldl_cons]
    by_cases e1 : eqN c.service nm = true
    · by_cases e2 : c.ending = true
      · have hs : cntStep nm im a c = { a with ending := a.ending + 1 } := by unfold cntStep; rw [if_neg (by simp [e1]), if_pos e2, w5]
        rw [hs, cnt_fold cps _ (by simp only; omega) (by simp only [List.length_cons] at h1; simp only; omega)]
        simp [List.countP_cons, isLive, isServ, isOld, isFail, isGoing, e1, e2]
        omega
      · have hs : cntStep nm im a c = ⟨a.live + 1, if c.state = 3 then a.serving + 1 else a.serving, if c.image = im then a.old else a.old + 1, if c.state = 4 then a.failed + 1 else a.failed, a.ending⟩ := by
          unfold cntStep; rw [if_neg (by simp [e1]), if_neg e2, w1, w2, w3, w4]
        rw [hs, cnt_fold cps _ (by simp only; refine ⟨by omega, by split <;> omega, by split <;> omega, by split <;> omega, by omega⟩) (by simp only [List.length_cons] at h1; simp only; refine ⟨by omega, by split <;> omega, by split <;> omega, by split <;> omega, by omega⟩)]
        simp only [List.countP_cons, isLive, isServ, isOld, isFail, isGoing, e1, e2, Bool.not_false, Bool.and_self, Bool.true_and, Bool.not_eq_true', decide_eq_true_eq, decide_eq_false_iff_not]
        simp
        refine ⟨by omega, ?_, ?_, ?_⟩
        all_goals (split <;> omega)
    · have hs : cntStep nm im a c = a := if_pos (by simpa using e1)
      rw [hs, cnt_fold cps _ h0 (by simp only [List.length_cons] at h1; omega)]
      simp [List.countP_cons, isLive, isServ, isOld, isFail, isGoing, e1]
theorem cntOf_eq {cps : List Cpy} (nm : ByteArray) (im : Int) (h : cps.length ≤ 2000000) : cntOf cps nm im = cntP cps nm im := by
  rw [cntOf, cnt_fold cps cnt0 (by decide) (by simp only [cnt0]; omega)]
  simp [cntP, cnt0]
theorem cntP_bd (cps : List Cpy) (nm : ByteArray) (im : Int) : 0 ≤ (cntP cps nm im).live ∧ (cntP cps nm im).live ≤ cps.length ∧ 0 ≤ (cntP cps nm im).serving ∧ (cntP cps nm im).serving ≤ cps.length ∧ 0 ≤ (cntP cps nm im).old ∧ (cntP cps nm im).old ≤ cps.length ∧
    0 ≤ (cntP cps nm im).failed ∧ (cntP cps nm im).failed ≤ cps.length ∧ 0 ≤ (cntP cps nm im).ending ∧ (cntP cps nm im).ending ≤ cps.length := by
  have h := fun p => List.countP_le_length (p := p) (l := cps)
  simp only [cntP]
  have h1 := h (isLive nm); have h2 := h (isServ nm); have h3 := h (isOld nm im); have h4 := h (isFail nm); have h5 := h (isGoing nm)
  omega
theorem cntOf_bd {cps : List Cpy} (nm : ByteArray) (im : Int) (h : cps.length ≤ 2000000) : 0 ≤ (cntOf cps nm im).live ∧ (cntOf cps nm im).live ≤ cps.length ∧ 0 ≤ (cntOf cps nm im).serving ∧ (cntOf cps nm im).serving ≤ cps.length ∧ 0 ≤ (cntOf cps nm im).old ∧ (cntOf cps nm im).old ≤ cps.length ∧
    0 ≤ (cntOf cps nm im).failed ∧ (cntOf cps nm im).failed ≤ cps.length ∧ 0 ≤ (cntOf cps nm im).ending ∧ (cntOf cps nm im).ending ≤ cps.length := by
  rw [cntOf_eq nm im h]; exact cntP_bd cps nm im

/-- What a valid book gives to the walks. -/
structure Fit (b : Book) : Prop where
  now : 0 ≤ b.now ∧ b.now ≤ 1000000
  l1 : b.svcs.length ≤ 8
  l2 : b.cps.length ≤ 200
  l3 : b.brs.length ≤ 6
  num : ∀ s ∈ b.svcs, SvcNum s 1000000
  own : ∀ c ∈ b.cps, (svcAt b.svcs c.service).isSome = true
theorem svcsOk_mem {now : Int} : ∀ {p : Option Svc} {xs : List Svc}, svcsOk now p xs = true → ∀ x ∈ xs, svcOk x now = true
  | _, [], _, x, hx => by simp at hx
  | none, s :: xs, h, x, hx => by
    simp only [svcsOk, Bool.and_eq_true] at h
    rcases List.mem_cons.1 hx with rfl | hm
    · exact h.1
    · exact svcsOk_mem h.2 x hm
  | some p, s :: xs, h, x, hx => by
    simp only [svcsOk, Bool.and_eq_true] at h
    rcases List.mem_cons.1 hx with rfl | hm
    · exact h.1
    · exact svcsOk_mem h.2.2 x hm
theorem cpsOk_mem {b : Book} : ∀ {p : Option Cpy} {xs : List Cpy}, cpsOk b p xs = true → ∀ x ∈ xs, cpyOk b x = true
  | _, [], _, x, hx => by simp at hx
  | none, s :: xs, h, x, hx => by
    simp only [cpsOk, Bool.and_eq_true] at h
    rcases List.mem_cons.1 hx with rfl | hm
    · exact h.1
    · exact cpsOk_mem h.2 x hm
  | some p, s :: xs, h, x, hx => by
    simp only [cpsOk, Bool.and_eq_true] at h
    rcases List.mem_cons.1 hx with rfl | hm
    · exact h.1
    · exact cpsOk_mem h.2.2 x hm
theorem fit_of_valid {b : Book} (h : valid b = true) : Fit b := by
  unfold valid at h
  simp only [Bool.and_eq_true, decide_eq_true_eq] at h
  obtain ⟨⟨⟨⟨h1, h2, h3, h4, h5⟩, hs⟩, -⟩, hc⟩ := h
  refine ⟨⟨h1, h2⟩, h3, h4, h5, fun s hm => ?_, fun c hm => ?_⟩
  · obtain ⟨-, hn⟩ := svcOk_iff.1 (svcsOk_mem hs s hm)
    unfold SvcNum at *
    omega
  · have := cpsOk_mem hc c hm
    unfold cpyOk at this
    cases hq : svcAt b.svcs c.service with
    | none => rw [hq] at this; simp at this
    | some i => rfl

def svcGet (b : Book) (nm : ByteArray) : Option Svc := (svcAt b.svcs nm).bind (b.svcs[·]?)
def cpyGet (b : Book) (nm : ByteArray) (n : Int) : Option Cpy := (cpyAt b.cps nm n).bind (b.cps[·]?)
theorem cpyAt_some {xs : List Cpy} {nm : ByteArray} {n : Int} {i : Nat} (h : cpyAt xs nm n = some i) : ∃ c, xs[i]? = some c ∧ eqN c.service nm = true ∧ c.number = n := by
  obtain ⟨c, h1, h2⟩ := fIdx_some0 h
  simp only [Bool.and_eq_true, decide_eq_true_eq] at h2
  exact ⟨c, h1, h2⟩
theorem svcAt_eq {xs : List Svc} {a nm : ByteArray} (h : eqN a nm = true) : svcAt xs nm = svcAt xs a := by
  have : a.toList = nm.toList := by simpa [eqN] using h
  simp [svcAt, eqN, this]
/-- A copy of a service that is there: the service is. -/
theorem svc_there {b : Book} (hf : Fit b) {nm : ByteArray} {n : Int} {k : Nat} (hk : cpyAt b.cps nm n = some k) : ∃ i s, svcAt b.svcs nm = some i ∧ b.svcs[i]? = some s ∧ eqN s.name nm = true ∧ SvcNum s 1000000 := by
  obtain ⟨c, hc, he, -⟩ := cpyAt_some hk
  have := hf.own c (List.mem_of_getElem? hc)
  rw [← svcAt_eq he] at this
  obtain ⟨i, hi⟩ := Option.isSome_iff_exists.1 this
  obtain ⟨s, hs, hn⟩ := fIdx_some0 hi
  exact ⟨i, s, hi, hs, hn, hf.num s (List.mem_of_getElem? hs)⟩
/-- Whether copy c of service s may be ended: the words of the gate. -/
def gate (cps : List Cpy) (s : Svc) (c : Cpy) : Bool := !c.ending && (!decide (c.state = 3) || (s.gone || decide (s.want - s.down ≤ (cntOf cps s.name s.image).serving - 1)))
def mayEndV (b : Book) (nm : ByteArray) (n : Int) : Bool :=
  match cpyGet b nm n with
  | none => false
  | some c => match svcGet b nm with
    | none => false
    | some s => gate b.cps s c
def mayEndB (b : Book) (nm : ByteArray) (n : Int) : Bool := valid b && mayEndV b nm n
end Go.Proofs.Ytnmknkdbeccmhaa
namespace Go.Proofs.Ytnmknkdbeccmhaa
open Go.RowKit
set_option linter.unusedSimpArgs false

/-- What a service's Want is to be by its load. -/
def dsr (s : Svc) : Int := if s.most < (if (s.load + s.per - 1) / s.per < s.least then s.least else (s.load + s.per - 1) / s.per) then s.most else (if (s.load + s.per - 1) / s.per < s.least then s.least else (s.load + s.per - 1) / s.per)
def drainsB (brs : List Brt) (nm : ByteArray) : Bool := match (brtAt brs nm).bind (brs[·]?) with | none => false | some x => x.drain
/-- The service's record, for a copy. -/
def svcOf (svcs : List Svc) (c : Cpy) : Option Svc := (svcAt svcs c.service).bind (svcs[·]?)
def goneOf (svcs : List Svc) (c : Cpy) : Bool := match svcOf svcs c with | none => false | some s => s.gone
def badIn (brs : List Brt) (s : Svc) (c : Cpy) : Bool := !decide (c.image = s.image) || drainsB brs c.berth
def r1P (svcs : List Svc) (c : Cpy) : Bool := c.ending || goneOf svcs c
def r3P (svcs : List Svc) (brs : List Brt) (c : Cpy) : Bool := !c.ending && (match svcOf svcs c with | none => false | some s => !s.gone && badIn brs s c)
def r4P (svcs : List Svc) (c : Cpy) : Bool := !c.ending && (!goneOf svcs c && !decide (c.state = 3))
def offBy (cps : List Cpy) (s : Svc) : Int := if s.gone then 0 else if (cntOf cps s.name s.image).live < s.want then s.want - (cntOf cps s.name s.image).live else (cntOf cps s.name s.image).live - s.want
def offSum (cps : List Cpy) (xs : List Svc) : Int := xs.foldl (fun a s => a + offBy cps s) 0
def rankV (b : Book) : List Int := [b.svcs.countP (·.gone), b.cps.countP (r1P b.svcs), offSum b.cps b.svcs, b.cps.countP (r3P b.svcs b.brs), b.cps.countP (r4P b.svcs)]
def rankB (b : Book) : List Int := if valid b = true then rankV b else [0, 0, 0, 0, 0]
def wantsOk (s : Svc) : Bool := decide (s.per ≤ 0) || (decide (s.want = dsr s) && decide (s.cool = 0))
def doneB (b : Book) : Bool := valid b && ((rankV b).all (fun r => decide (r = 0)) && b.svcs.all wantsOk)

theorem offBy_bd {cps : List Cpy} {s : Svc} (h : cps.length ≤ 2000000) (hs : SvcNum s 1000000) : 0 ≤ offBy cps s ∧ offBy cps s ≤ cps.length + 10 := by
  have := cntOf_bd s.name s.image h
  unfold SvcNum at hs
  unfold offBy
  split
  · omega
  · split <;> omega
theorem foldl_add {α : Type} (f : α → Int) : ∀ (xs : List α) (a : Int), xs.foldl (fun a s => a + f s) a = a + xs.foldl (fun a s => a + f s) 0
  | [], a => by simp
  | x :: xs, a => by
    rw [List.foldl_cons, List.foldl_cons, foldl_add f xs (a + f x), foldl_add f xs (0 + f x)]
    omega
theorem offSum_cons (cps : List Cpy) (s : Svc) (xs : List Svc) : offSum cps (s :: xs) = offBy cps s + offSum cps xs := by
  unfold offSum; rw [List.foldl_cons, foldl_add]; omega
theorem offSum_append (cps : List Cpy) : ∀ (xs ys : List Svc), offSum cps (xs ++ ys) = offSum cps xs + offSum cps ys
  | [], ys => by simp [offSum]
  | x :: xs, ys => by rw [List.cons_append, offSum_cons, offSum_cons, offSum_append cps xs ys]; omega
theorem offSum_bd {cps : List Cpy} (h : cps.length ≤ 2000000) : ∀ (xs : List Svc), (∀ s ∈ xs, SvcNum s 1000000) → 0 ≤ offSum cps xs ∧ offSum cps xs ≤ xs.length * (cps.length + 10)
  | [], _ => by simp [offSum]
  | x :: xs, hx => by
    have h1 := offBy_bd h (hx x (by simp))
    have h2 := offSum_bd h xs fun s hs => hx s (by simp [hs])
    rw [offSum_cons]
    have e : ((x :: xs).length : Int) * (cps.length + 10) = xs.length * (cps.length + 10) + (cps.length + 10) := by
      rw [List.length_cons, Int.natCast_add, Int.natCast_one, Int.add_mul, Int.one_mul]
    omega
theorem take_succ_at {α : Type} {xs : List α} {k : Nat} {x : α} (h : xs[k]? = some x) : xs.take (k + 1) = xs.take k ++ [x] := by
  obtain ⟨hl, rfl⟩ := List.getElem?_eq_some_iff.1 h
  exact List.take_succ_eq_append_getElem hl
theorem countP_succ {α : Type} {p : α → Bool} {xs : List α} {k : Nat} {x : α} (h : xs[k]? = some x) : ((xs.take (k + 1)).countP p : Int) = (xs.take k).countP p + (if p x then 1 else 0) := by
  rw [take_succ_at h, List.countP_append]
  cases hp : p x <;> simp [hp]
theorem countP_take_le {α : Type} {p : α → Bool} {xs : List α} {k : Nat} : (xs.take k).countP p ≤ k := by
  have := List.countP_le_length (p := p) (l := xs.take k)
  have := List.length_take_le k xs
  omega
theorem offSum_succ {cps : List Cpy} {xs : List Svc} {k : Nat} {x : Svc} (h : xs[k]? = some x) : offSum cps (xs.take (k + 1)) = offSum cps (xs.take k) + offBy cps x := by
  rw [take_succ_at h, offSum_append]
  simp [offSum]

/-! the sums over services are sums over copies -/
/-- No two services of one name. -/
def NoTwice (xs : List Svc) : Prop := ∀ (i j : Nat) (x y : Svc), xs[i]? = some x → xs[j]? = some y → x.name.toList = y.name.toList → i = j
/-- sums of a count, service by service -/
def bySvc (p : Svc → Cpy → Bool) (cps : List Cpy) (xs : List Svc) : Int := xs.foldl (fun a s => a + (cps.countP (fun c => eqN c.service s.name && p s c) : Int)) 0
theorem bySvc_cons (p : Svc → Cpy → Bool) (cps : List Cpy) (s : Svc) (xs : List Svc) : bySvc p cps (s :: xs) = (cps.countP (fun c => eqN c.service s.name && p s c) : Int) + bySvc p cps xs := by
  unfold bySvc; rw [List.foldl_cons, foldl_add]; omega
theorem bySvc_nil (p : Svc → Cpy → Bool) : ∀ xs : List Svc, bySvc p [] xs = 0
  | [] => rfl
  | x :: xs => by rw [bySvc_cons, bySvc_nil p xs]; simp
theorem bySvc_step (p : Svc → Cpy → Bool) (c : Cpy) (cps : List Cpy) : ∀ xs : List Svc, bySvc p (c :: cps) xs = bySvc p cps xs + bySvc p [c] xs
  | [] => rfl
  | x :: xs => by
    rw [bySvc_cons, bySvc_cons, bySvc_cons, bySvc_step p c cps xs, List.countP_cons, List.countP_cons, List.countP_nil]
    omega
theorem bySvc_none (p : Svc → Cpy → Bool) (c : Cpy) : ∀ xs : List Svc, (∀ s ∈ xs, eqN c.service s.name = false) → bySvc p [c] xs = 0
  | [], _ => rfl
  | x :: xs, h => by
    rw [bySvc_cons, bySvc_none p c xs fun s hs => h s (by simp [hs])]
    simp [List.countP_cons, h x (by simp)]
theorem eqN_comm (a b : ByteArray) : eqN a b = eqN b a := by unfold eqN; rw [Bool.eq_iff_iff, beq_iff_eq, beq_iff_eq]; exact eq_comm
theorem eqN_iff {a b : ByteArray} : eqN a b = true ↔ a.toList = b.toList := by unfold eqN; exact beq_iff_eq
theorem svcAt_cons (x : Svc) (xs : List Svc) (nm : ByteArray) : svcAt (x :: xs) nm = if eqN x.name nm then some 0 else (svcAt xs nm).map (· + 1) := by
  have shift : ∀ (p : Svc → Bool) (ys : List Svc) (k : Nat), fIdx p ys (k + 1) = (fIdx p ys k).map (· + 1) := by
    intro p ys
    induction ys with
    | nil => intro k; rfl
    | cons y ys ih =>
      intro k
      unfold fIdx
      split
      · rfl
      · exact ih (k + 1)
  unfold svcAt
  rw [fIdx]
  split
  · rfl
  · exact shift _ xs 0
theorem svcOf_cons (x : Svc) (xs : List Svc) (c : Cpy) : svcOf (x :: xs) c = if eqN c.service x.name then some x else svcOf xs c := by
  unfold svcOf
  rw [svcAt_cons, eqN_comm]
  split
  · rfl
  · cases svcAt xs c.service <;> rfl
def onSvc (svcs : List Svc) (p : Svc → Cpy → Bool) (c : Cpy) : Bool := match svcOf svcs c with | none => false | some s => p s c
theorem bySvc_one (p : Svc → Cpy → Bool) (c : Cpy) : ∀ xs : List Svc, NoTwice xs → bySvc p [c] xs = if onSvc xs p c then 1 else 0
  | [], _ => rfl
  | x :: xs, h => by
    have h' : NoTwice xs := fun i j a b ha hb e => by have := h (i + 1) (j + 1) a b (by simpa using ha) (by simpa using hb) e; omega
    unfold onSvc
    rw [bySvc_cons, svcOf_cons]
    by_cases he : eqN c.service x.name = true
    · have hn : ∀ s ∈ xs, eqN c.service s.name = false := fun s hs => by
        obtain ⟨i, hi⟩ := List.mem_iff_getElem?.1 hs
        cases hq : eqN c.service s.name with
        | false => rfl
        | true =>
          have := h 0 (i + 1) x s rfl (by simpa using hi) ((eqN_iff.1 he).symm.trans (eqN_iff.1 hq))
          omega
      rw [bySvc_none p c xs hn, if_pos he]
      simp [List.countP_cons, he]
      split <;> rfl
    · rw [bySvc_one p c xs h', if_neg he, onSvc]
      simp [List.countP_cons, he]
theorem bySvc_eq (p : Svc → Cpy → Bool) (xs : List Svc) (h : NoTwice xs) : ∀ cps : List Cpy, bySvc p cps xs = (cps.countP (onSvc xs p) : Int)
  | [] => by rw [bySvc_nil]; rfl
  | c :: cps => by
    rw [bySvc_step, bySvc_eq p xs h cps, bySvc_one p c xs h, List.countP_cons]
    by_cases hp : onSvc xs p c = true <;> simp [hp]
theorem bySvc_append (p : Svc → Cpy → Bool) (cps : List Cpy) : ∀ (xs ys : List Svc), bySvc p cps (xs ++ ys) = bySvc p cps xs + bySvc p cps ys
  | [], ys => by simp [bySvc]
  | x :: xs, ys => by rw [List.cons_append, bySvc_cons, bySvc_cons, bySvc_append p cps xs ys]; omega
theorem bySvc_succ {p : Svc → Cpy → Bool} {cps : List Cpy} {xs : List Svc} {k : Nat} {x : Svc} (h : xs[k]? = some x) : bySvc p cps (xs.take (k + 1)) = bySvc p cps (xs.take k) + (cps.countP (fun c => eqN c.service x.name && p x c) : Int) := by
  rw [take_succ_at h, bySvc_append]
  simp [bySvc]
theorem bySvc_bd (p : Svc → Cpy → Bool) (cps : List Cpy) : ∀ xs : List Svc, 0 ≤ bySvc p cps xs ∧ bySvc p cps xs ≤ xs.length * cps.length
  | [] => by simp [bySvc]
  | x :: xs => by
    have h1 := List.countP_le_length (p := fun c => eqN c.service x.name && p x c) (l := cps)
    have h2 := bySvc_bd p cps xs
    rw [bySvc_cons]
    have e : ((x :: xs).length : Int) * cps.length = xs.length * cps.length + cps.length := by
      rw [List.length_cons, Int.natCast_add, Int.natCast_one, Int.add_mul, Int.one_mul]
    omega

/-- Ascending names: none twice. -/
theorem ltN_irr (a : ByteArray) : ltN a a = false := bl_irr _
theorem ltN_trans {a b c : ByteArray} (h : ltN a b = true) (k : ltN b c = true) : ltN a c = true := bl_trans h k
theorem svcsOk_above {now : Int} : ∀ {p : Svc} {xs : List Svc}, svcsOk now (some p) xs = true → ∀ x ∈ xs, ltN p.name x.name = true
  | _, [], _, x, hx => by simp at hx
  | p, s :: xs, h, x, hx => by
    simp only [svcsOk, Bool.and_eq_true] at h
    rcases List.mem_cons.1 hx with rfl | hm
    · exact h.2.1
    · exact ltN_trans h.2.1 (svcsOk_above h.2.2 x hm)
theorem svcsOk_tail {now : Int} {p : Option Svc} {s : Svc} {xs : List Svc} (h : svcsOk now p (s :: xs) = true) : svcsOk now (some s) xs = true := by
  cases p <;> simp only [svcsOk, Bool.and_eq_true] at h
  · exact h.2
  · exact h.2.2
theorem noTwice_of {now : Int} : ∀ {p : Option Svc} {xs : List Svc}, svcsOk now p xs = true → NoTwice xs
  | _, [], _ => fun i j x y hx _ _ => by simp at hx
  | p, s :: xs, h => by
    have ht := svcsOk_tail h
    have ih := noTwice_of ht
    have hlt : ∀ x ∈ xs, s.name.toList ≠ x.name.toList := fun x hx e => by
      have := svcsOk_above ht x hx
      unfold ltN at this
      rw [e, bl_irr] at this
      cases this
    intro i j x y hx hy e
    cases i with
    | zero => cases j with
      | zero => rfl
      | succ j =>
        simp only [List.getElem?_cons_zero, Option.some.injEq] at hx
        subst hx
        exact absurd e (hlt y (List.mem_of_getElem? (by simpa using hy)))
    | succ i => cases j with
      | zero =>
        simp only [List.getElem?_cons_zero, Option.some.injEq] at hy
        subst hy
        exact absurd e.symm (hlt x (List.mem_of_getElem? (by simpa using hx)))
      | succ j =>
        have := ih i j x y (by simpa using hx) (by simpa using hy) e
        omega
theorem valid_svcs {b : Book} (h : valid b = true) : svcsOk b.now none b.svcs = true := by
  unfold valid at h; simp only [Bool.and_eq_true] at h; exact h.1.1.2
theorem valid_noTwice {b : Book} (h : valid b = true) : NoTwice b.svcs := noTwice_of (valid_svcs h)
end Go.Proofs.Ytnmknkdbeccmhaa
namespace Go.Proofs.Ytnmknkdbeccmhaa
open Go.RowKit
set_option linter.unusedSimpArgs false

structure Wld where
  past : List Book
  book : Book
deriving DecidableEq
def pastOk (now : Int) : Option Book → List Book → Bool
  | _, [] => true
  | none, p :: ps => valid p && (decide (p.now ≤ now) && pastOk now (some p) ps)
  | some q, p :: ps => valid p && (decide (p.now ≤ now) && (decide (q.now ≤ p.now) && pastOk now (some p) ps))
def worldOk (w : Wld) : Bool := valid w.book && (decide (w.past.length ≤ 8) && pastOk w.book.now none w.past)

/-- A slice of books, each of whose own slices reads. -/
def BookCells (w : World) (bl o : Nat) (x : Book) : Prop := ∃ A1 c1 A2 c2 A3 c3, w.cell? ⟨bl, o, none⟩ = some (.int .i64 x.now) ∧ w.cell? ⟨bl, o + 1, none⟩ = some (.slice A1 x.svcs.length c1) ∧ w.cell? ⟨bl, o + 2, none⟩ = some (.slice A2 x.cps.length c2) ∧ w.cell? ⟨bl, o + 3, none⟩ = some (.slice A3 x.brs.length c3) ∧
  Rows 13 svcC w A1 x.svcs ∧ Rows 7 cpyC w A2 x.cps ∧ Rows 2 brtC w A3 x.brs
def BooksAt (w : World) (A : Option Addr) (xs : List Book) : Prop := xs ≠ [] → ∃ bl o, A = some ⟨bl, o, none⟩ ∧ ∀ (i : Nat) (x : Book), xs[i]? = some x → BookCells w bl (o + i * 4) x
theorem BookCells.below {w w' : World} {bl o : Nat} {x : Book} (h : BookCells w bl o x) (hb : Below w.heap.size w w') : BookCells w' bl o x := by
  obtain ⟨A1, c1, A2, c2, A3, c3, h0, h1, h2, h3, r1, r2, r3⟩ := h
  have k := fun (i : Nat) (v : Value) (hv : w.cell? ⟨bl, i, none⟩ = some v) => (hb.cell (p := ⟨bl, i, none⟩) (World.block_lt_of_cell? w _ hv)).trans hv
  exact ⟨A1, c1, A2, c2, A3, c3, k _ _ h0, k _ _ h1, k _ _ h2, k _ _ h3, r1.below hb, r2.below hb, r3.below hb⟩
theorem BooksAt.below {w w' : World} {A : Option Addr} {xs : List Book} (h : BooksAt w A xs) (hb : Below w.heap.size w w') : BooksAt w' A xs := fun hne => by
  obtain ⟨bl, o, e, hc⟩ := h hne
  exact ⟨bl, o, e, fun i x hx => (hc i x hx).below hb⟩
theorem BooksAt.at_ {w : World} {A : Option Addr} {xs : List Book} (h : BooksAt w A xs) {i : Nat} {x : Book} (hx : xs[i]? = some x) : ∃ bl o, A = some ⟨bl, o, none⟩ ∧ bl < w.heap.size ∧ BookCells w bl (o + i * 4) x := by
  obtain ⟨bl, o, e, hc⟩ := h (by rintro rfl; simp at hx)
  obtain ⟨A1, c1, A2, c2, A3, c3, h0, hr⟩ := hc i x hx
  exact ⟨bl, o, e, World.block_lt_of_cell? w _ h0, A1, c1, A2, c2, A3, c3, h0, hr⟩
/-- Its slices are of a size that no counter wraps at. -/
def Sized (b : Book) : Prop := b.svcs.length ≤ 2000000 ∧ b.cps.length ≤ 2000000 ∧ b.brs.length ≤ 2000000

def szWld (w : Wld) (l : Int) : Int := if szS szBook w.past l < 0 then -1 else if szBook w.book (szS szBook w.past l) < 0 then -1 else szBook w.book (szS szBook w.past l)
theorem szBook_le' (b : Book) (l : Int) (h : 0 ≤ l) : szBook b l ≤ l ∧ -1 ≤ szBook b l := ⟨(szBook_le b l h).1, (szBook_le b l h).2.1⟩
theorem szL_all {f : Book → Int → Int} (hf : ∀ x l, 0 ≤ l → f x l ≤ l ∧ -1 ≤ f x l) : ∀ (xs : List Book) (l : Int), 0 ≤ l → 0 ≤ szL f xs l → ∀ x ∈ xs, ∃ m, 0 ≤ m ∧ m ≤ l ∧ 0 ≤ f x m
  | [], _, _, _, x, hx => by simp at hx
  | y :: ys, l, hl, h, x, hx => by
    unfold szL at h
    split at h
    · omega
    · rcases List.mem_cons.1 hx with rfl | hm
      · exact ⟨l, hl, Int.le_refl _, by omega⟩
      · obtain ⟨m, h1, h2, h3⟩ := szL_all hf ys (f y l) (by omega) h x hm
        exact ⟨m, h1, by have := (hf y l hl).1; omega, h3⟩
theorem szWld_sized {w : Wld} {l : Int} (h0 : 0 ≤ l) (h1 : l ≤ 2000000) (h : 0 ≤ szWld w l) : (w.past.length : Int) ≤ l ∧ (∀ b ∈ w.past, Sized b) ∧ Sized w.book := by
  unfold szWld at h
  have hs := szS_le szBook_le' w.past l h0
  split at h
  · omega
  · rename_i hp
    split at h
    · omega
    · refine ⟨hs.2.2 (by omega), fun b hb => ?_, ?_⟩
      · have hl : 0 ≤ szL szBook w.past (l - w.past.length) := by
          unfold szS at hp
          split at hp
          · omega
          · omega
        have hll : 0 ≤ l - (w.past.length : Int) := by have := hs.2.2 (by omega); omega
        obtain ⟨m, m0, m1, m2⟩ := szL_all szBook_le' w.past _ hll hl b hb
        obtain ⟨-, -, hb3⟩ := szBook_le b m m0
        obtain ⟨q1, q2, q3⟩ := hb3 m2
        exact ⟨by omega, by omega, by omega⟩
      · obtain ⟨-, -, hb3⟩ := szBook_le w.book (szS szBook w.past l) (by omega)
        obtain ⟨q1, q2, q3⟩ := hb3 (by omega)
        exact ⟨by omega, by omega, by omega⟩
end Go.Proofs.Ytnmknkdbeccmhaa
namespace Go.Proofs.Ytnmknkdbeccmhaa
open Go.RowKit

structure SEnd where
  number : Int
  version : Int
deriving DecidableEq

structure SAct where
  service : ByteArray
  version : Int
  create : Int
  want : Int
  cool : Int
  scale : Bool
  ends : List SEnd
  drop : Bool
deriving DecidableEq

def endC (e : SEnd) : List Value := [.int .i64 e.number, .int .i64 e.version]
theorem endC_len (e : SEnd) : (endC e).length = 2 := rfl
theorem endC_one (e : SEnd) : ∀ u ∈ endC e, u.oneCell' = true := by simp [endC, Value.oneCell']
theorem end_at {w : World} {A : Option Addr} {xs : List SEnd} (h : Rows 2 endC w A xs) {i : Nat} {x : SEnd} (hx : xs[i]? = some x) :
    ∃ b o, A = some ⟨b, o, none⟩ ∧ b < w.heap.size ∧ w.cell? ⟨b, o + i * 2, none⟩ = some (.int .i64 x.number) ∧ w.cell? ⟨b, o + i * 2 + 1, none⟩ = some (.int .i64 x.version) := by
  obtain ⟨b, o, e, hc⟩ := h.at_ hx
  exact ⟨b, o, e, World.block_lt_of_cell? w _ (hc 0 _ rfl), hc 0 _ rfl, hc 1 _ rfl⟩

/-- The numbers of what is to be ended rise. -/
def risesB : Option SEnd → List SEnd → Bool
  | _, [] => true
  | none, e :: es => risesB (some e) es
  | some p, e :: es => decide (p.number < e.number) && risesB (some e) es
def formedB (a : SAct) : Bool :=
  (inB 0 a.create 20 && decide (a.ends.length ≤ 200)) && (risesB none a.ends &&
    ((if a.scale then inB 0 a.want 10 && inB 0 a.cool 3 else decide (a.want = 0) && decide (a.cool = 0)) &&
      (!a.drop || (decide (a.create = 0) && (!a.scale && a.ends.isEmpty)))))

/-- Whether every copy that is to be ended is there. -/
def endsThere (cps : List Cpy) (nm : ByteArray) (es : List SEnd) : Bool := es.all fun e => (cpyAt cps nm e.number).isSome
/-- Whether every one of them is at the version that was named. -/
def endsSame (b : Book) (nm : ByteArray) (es : List SEnd) : Bool := es.all fun e => match cpyGet b nm e.number with | none => true | some c => decide (c.version = e.version)
/-- One copy marked as ending. -/
def endOne (b : Book) (t : Int) (j : Nat) : Book := { b with cps := b.cps.modify j fun c => { c with ending := true, version := t } }
/-- The copies ended one behind the other, each by the gate. -/
def endAll (nm : ByteArray) (t : Int) : Book → List SEnd → Option Book
  | b, [] => some b
  | b, e :: es => if mayEndV b nm e.number then (match cpyAt b.cps nm e.number with | none => none | some j => endAll nm t (endOne b t j) es) else none
/-- n new copies of service s at time t. -/
def newCpy (s : Svc) (t : Int) (i : Nat) : Cpy := ⟨s.name, s.next + i, t, s.image, 1, false, ⟨#[]⟩⟩
def news (s : Svc) (t : Int) (n : Nat) : List Cpy := (List.range n).map (newCpy s t)
/-- Where new copies of a service go: behind all whose service is not behind it. -/
def place (nm : ByteArray) (cps : List Cpy) : Nat := (cps.takeWhile fun c => !ltN nm c.service).length
def putIn {α : Type} (k : Nat) (ys xs : List α) : List α := xs.take k ++ ys ++ xs.drop k
/-- The service as the act leaves it. -/
def scaled (a : SAct) (s : Svc) : Svc := if a.scale then { s with want := a.want, cool := a.cool } else s
def grownS (a : SAct) (t : Int) (s : Svc) : Svc := { scaled a s with version := t, next := s.next + a.create }
/-- Why an act is refused once its copies are ended: 6 for what would do harm, 7 for what has no room, 0 for nothing. -/
def whyNot (b b' : Book) (a : SAct) (s : Svc) : Int :=
  if (a.drop && (!s.gone || decide (0 < (cntOf b.cps s.name s.image).live + (cntOf b.cps s.name s.image).ending))) ||
    ((a.scale && (decide (s.per = 0) || !inB s.least a.want s.most)) ||
      (decide (0 < a.create) && (s.gone || decide ((scaled a s).want + s.over < (cntOf b'.cps s.name s.image).live + a.create)))) then 6
  else if decide (200 < (b.cps.length : Int) + a.create) || (decide (1000000 < s.next + a.create) || decide (1000000 ≤ b.now)) then 7
  else 0
def actDone (b b' : Book) (a : SAct) (s : Svc) (i : Nat) : Book :=
  { b' with now := b.now + 1, svcs := if a.drop then b'.svcs.eraseIdx i else b'.svcs.set i (grownS a (b.now + 1) s), cps := putIn (place s.name b'.cps) (news s (b.now + 1) a.create.toNat) b'.cps }
/-- What an act leaves, and its code. -/
def actV (b : Book) (a : SAct) : Book × Int :=
  if formedB a = false then (b, 2) else
  match svcAt b.svcs a.service with
  | none => (b, 3)
  | some i => match b.svcs[i]? with
    | none => (b, 3)
    | some s =>
      if endsThere b.cps a.service a.ends = false then (b, 3)
      else if decide (s.version = a.version) = false then (b, 4)
      else if endsSame b a.service a.ends = false then (b, 4)
      else match endAll a.service (b.now + 1) b a.ends with
        | none => (b, 5)
        | some b' => if whyNot b b' a s = 0 then (actDone b b' a s i, 0) else (b, whyNot b b' a s)
def book0 : Book := ⟨0, [], [], []⟩
def applyB (b : Book) (a : SAct) : Book × Int := if valid b = true then actV b a else (book0, 1)

/-! what the steps keep -/
theorem fIdx_congr {α : Type} {p : α → Bool} : ∀ {xs ys : List α} {k : Nat}, xs.length = ys.length → (∀ (i : Nat) (x y : α), xs[i]? = some x → ys[i]? = some y → p x = p y) → fIdx p xs k = fIdx p ys k
  | [], [], _, _, _ => rfl
  | [], _ :: _, _, h, _ => by simp at h
  | _ :: _, [], _, h, _ => by simp at h
  | x :: xs, y :: ys, k, h, hp => by
    have h0 := hp 0 x y rfl rfl
    have ih := fIdx_congr (p := p) (k := k + 1) (xs := xs) (ys := ys) (by simpa using h) (fun i a b ha hb => hp (i + 1) a b (by simpa using ha) (by simpa using hb))
    simp only [fIdx, h0, ih]
theorem endOne_at {b : Book} {t : Int} {j i : Nat} : (endOne b t j).cps[i]? = (b.cps[i]?).map fun c => if j = i then { c with ending := true, version := t } else c := by
  show (b.cps.modify j _)[i]? = _
  rw [List.getElem?_modify]
  rcases b.cps[i]? with _ | c <;> rfl
theorem endOne_len (b : Book) (t : Int) (j : Nat) : (endOne b t j).cps.length = b.cps.length := by simp [endOne]
theorem endOne_cpyAt (b : Book) (t : Int) (j : Nat) (nm : ByteArray) (n : Int) : cpyAt (endOne b t j).cps nm n = cpyAt b.cps nm n := by
  refine fIdx_congr (endOne_len b t j) fun i x y hx hy => ?_
  rw [endOne_at, hy] at hx
  simp only [Option.map_some, Option.some.injEq] at hx
  subst hx
  split <;> rfl
theorem endOne_fit {b : Book} (hf : Fit b) (t : Int) (j : Nat) : Fit (endOne b t j) :=
  ⟨hf.now, hf.l1, by rw [endOne_len]; exact hf.l2, hf.l3, hf.num, fun c hm => by
    obtain ⟨i, hi⟩ := List.mem_iff_getElem?.1 hm
    rw [endOne_at] at hi
    obtain ⟨d, hd, rfl⟩ := Option.map_eq_some_iff.1 hi
    have := hf.own d (List.mem_of_getElem? hd)
    show (svcAt b.svcs _).isSome = true
    split <;> exact this⟩
theorem gate_of {b : Book} {nm : ByteArray} {n : Int} {i j : Nat} {s : Svc} {c : Cpy} (h1 : svcAt b.svcs nm = some i) (h2 : b.svcs[i]? = some s) (h3 : cpyAt b.cps nm n = some j) (h4 : b.cps[j]? = some c) : mayEndV b nm n = gate b.cps s c := by
  simp [mayEndV, cpyGet, svcGet, h1, h2, h3, h4]
/-- What ending leaves of a book: all but the copies; of these the number, and who they are. -/
theorem endAll_keeps {nm : ByteArray} {t : Int} : ∀ {es : List SEnd} {b b' : Book}, Fit b → endAll nm t b es = some b' → Fit b' ∧ b'.now = b.now ∧ b'.svcs = b.svcs ∧ b'.brs = b.brs ∧ b'.cps.length = b.cps.length ∧ ∀ nm n, cpyAt b'.cps nm n = cpyAt b.cps nm n
  | [], b, b', hf, h => by
    simp only [endAll, Option.some.injEq] at h
    subst h
    exact ⟨hf, rfl, rfl, rfl, rfl, fun _ _ => rfl⟩
  | e :: es, b, b', hf, h => by
    rw [endAll] at h
    split at h
    · rcases hq : cpyAt b.cps nm e.number with _ | j
      · rw [hq] at h; cases h
      · rw [hq] at h
        obtain ⟨h1, h2, h3, h4, h5, h6⟩ := endAll_keeps (endOne_fit hf t j) h
        exact ⟨h1, h2, h3, h4, h5.trans (endOne_len b t j), fun nm n => (h6 nm n).trans (endOne_cpyAt b t j nm n)⟩
    · cases h
end Go.Proofs.Ytnmknkdbeccmhaa
namespace Go.Proofs.Ytnmknkdbeccmhaa
open Go.RowKit
set_option linter.unusedSimpArgs false

def q1 (s : Svc) (c : Cpy) : Bool := c.ending || s.gone
def q3 (brs : List Brt) (s : Svc) (c : Cpy) : Bool := !c.ending && (!s.gone && badIn brs s c)
def q4 (s : Svc) (c : Cpy) : Bool := !c.ending && (!s.gone && !decide (c.state = 3))
def gones (xs : List Svc) : Int := (xs.countP (·.gone) : Int)
theorem gones_succ {xs : List Svc} {k : Nat} {x : Svc} (h : xs[k]? = some x) : gones (xs.take (k + 1)) = gones (xs.take k) + (if x.gone then 1 else 0) := countP_succ h
theorem gones_bd (xs : List Svc) : 0 ≤ gones xs ∧ gones xs ≤ xs.length := by
  have := List.countP_le_length (p := fun s : Svc => s.gone) (l := xs)
  unfold gones; omega
theorem svcAt_self {xs : List Svc} (h : NoTwice xs) {k : Nat} {x : Svc} (hx : xs[k]? = some x) : svcAt xs x.name = some k := by
  cases hq : svcAt xs x.name with
  | none =>
    have := fIdx_none hq x (List.mem_of_getElem? hx)
    simp [eqN] at this
  | some i =>
    obtain ⟨y, hy, hn⟩ := fIdx_some0 hq
    have := h i k y x hy hx (eqN_iff.1 hn)
    rw [this]
theorem countP_congr' {α : Type} {p q : α → Bool} {xs : List α} (h : ∀ x ∈ xs, p x = q x) : xs.countP p = xs.countP q := by
  induction xs with
  | nil => rfl
  | cons x xs ih =>
    rw [List.countP_cons, List.countP_cons, ih fun y hy => h y (by simp [hy]), h x (by simp)]
theorem countP_split {α : Type} (p q r : α → Bool) (xs : List α) (h : ∀ x ∈ xs, (p x = true → q x = false) ∧ r x = (p x || q x)) : xs.countP r = xs.countP p + xs.countP q := by
  induction xs with
  | nil => rfl
  | cons x xs ih =>
    rw [List.countP_cons, List.countP_cons, List.countP_cons, ih fun y hy => h y (by simp [hy])]
    obtain ⟨h1, h2⟩ := h x (by simp)
    cases hp : p x <;> cases hq : q x <;> simp_all <;> omega
theorem q1_live {s : Svc} {cps : List Cpy} (hg : s.gone = true) : (cps.countP (fun c => eqN c.service s.name && q1 s c)) = cps.countP (isGoing s.name) + cps.countP (isLive s.name) :=
  countP_split _ _ _ _ fun c _ => by cases h1 : eqN c.service s.name <;> cases h2 : c.ending <;> simp [isGoing, isLive, q1, h1, h2, hg]
theorem q1_going {s : Svc} {cps : List Cpy} (hg : s.gone = false) : (cps.countP (fun c => eqN c.service s.name && q1 s c)) = cps.countP (isGoing s.name) :=
  countP_congr' fun c _ => by simp [isGoing, q1, hg]
theorem q3_gone {brs : List Brt} {s : Svc} {cps : List Cpy} (hg : s.gone = true) : (cps.countP (fun c => eqN c.service s.name && q3 brs s c)) = 0 := by
  rw [List.countP_eq_zero]; intro c _; simp [q3, hg]
theorem q4_gone {s : Svc} {cps : List Cpy} (hg : s.gone = true) : (cps.countP (fun c => eqN c.service s.name && q4 s c)) = 0 := by
  rw [List.countP_eq_zero]; intro c _; simp [q4, hg]
theorem q3_not {brs : List Brt} {s : Svc} {cps : List Cpy} (hg : s.gone = false) : (cps.countP (fun c => eqN c.service s.name && q3 brs s c)) = cps.countP (fun c => isLive s.name c && badIn brs s c) :=
  countP_congr' fun c _ => by simp [isLive, q3, hg, Bool.and_assoc]
theorem q4_not {s : Svc} {cps : List Cpy} (hg : s.gone = false) : (cps.countP (fun c => eqN c.service s.name && q4 s c)) = cps.countP (fun c => isLive s.name c && !decide (c.state = 3)) :=
  countP_congr' fun c _ => by simp [isLive, q4, hg, Bool.and_assoc]
/-- The reference's list, behind k services. -/
def rankS (b : Book) (k : Nat) : List Int := [gones (b.svcs.take k), bySvc q1 b.cps (b.svcs.take k), offSum b.cps (b.svcs.take k), bySvc (q3 b.brs) b.cps (b.svcs.take k), bySvc q4 b.cps (b.svcs.take k)]
theorem rankS_all {b : Book} (hv : valid b = true) : rankS b b.svcs.length = rankV b := by
  have hn := valid_noTwice hv
  have hf := fit_of_valid hv
  have some_of : ∀ c ∈ b.cps, ∃ s, svcOf b.svcs c = some s := fun c hc => by
    obtain ⟨i, hi⟩ := Option.isSome_iff_exists.1 (hf.own c hc)
    obtain ⟨s, hs, -⟩ := fIdx_some0 hi
    exact ⟨s, by simp [svcOf, hi, hs]⟩
  unfold rankS rankV
  rw [List.take_length, bySvc_eq _ _ hn, bySvc_eq _ _ hn, bySvc_eq _ _ hn]
  have e1 : b.cps.countP (onSvc b.svcs q1) = b.cps.countP (r1P b.svcs) := countP_congr' fun c hc => by
    obtain ⟨s, hs⟩ := some_of c hc
    simp [onSvc, r1P, goneOf, hs, q1]
  have e3 : b.cps.countP (onSvc b.svcs (q3 b.brs)) = b.cps.countP (r3P b.svcs b.brs) := countP_congr' fun c hc => by
    obtain ⟨s, hs⟩ := some_of c hc
    simp [onSvc, r3P, hs, q3]
  have e4 : b.cps.countP (onSvc b.svcs q4) = b.cps.countP (r4P b.svcs) := countP_congr' fun c hc => by
    obtain ⟨s, hs⟩ := some_of c hc
    simp [onSvc, r4P, goneOf, hs, q4]
  rw [e1, e3, e4]
  rfl
end Go.Proofs.Ytnmknkdbeccmhaa
namespace Go.Proofs.Ytnmknkdbeccmhaa
open Go.RowKit
set_option linter.unusedSimpArgs false

theorem rankS_bd {b : Book} (hf : Fit b) {k : Nat} {z0 z1 z2 z3 z4 : Int} (h : rankS b k = [z0, z1, z2, z3, z4]) :
    (0 ≤ z0 ∧ z0 ≤ 100) ∧ (0 ≤ z1 ∧ z1 ≤ 10000) ∧ (0 ≤ z2 ∧ z2 ≤ 10000) ∧ (0 ≤ z3 ∧ z3 ≤ 10000) ∧ (0 ≤ z4 ∧ z4 ≤ 10000) := by
  have l1 := hf.l1
  have l2 := hf.l2
  have lt : (b.svcs.take k).length ≤ 8 := by have := List.length_take_le' k b.svcs; omega
  have g := gones_bd (b.svcs.take k)
  have q := fun p => bySvc_bd p b.cps (b.svcs.take k)
  have o := offSum_bd (cps := b.cps) (by omega) (b.svcs.take k) fun s hs => hf.num s (List.mem_of_mem_take hs)
  have m : ((b.svcs.take k).length : Int) * (b.cps.length : Int) ≤ 8 * 200 := Int.mul_le_mul (by omega) (by omega) (by omega) (by omega)
  have m' : ((b.svcs.take k).length : Int) * ((b.cps.length : Int) + 10) ≤ 8 * 210 := Int.mul_le_mul (by omega) (by omega) (by omega) (by omega)
  simp only [rankS, List.cons.injEq, and_true] at h
  obtain ⟨rfl, rfl, rfl, rfl, rfl⟩ := h
  have a := q q1
  have c := q (q3 b.brs)
  have d := q q4
  omega
theorem rankS_zero (b : Book) : rankS b 0 = [0, 0, 0, 0, 0] := by simp [rankS, gones, bySvc, offSum]
theorem rankS_gone {b : Book} (l2 : b.cps.length ≤ 2000000) {k : Nat} {s : Svc} {ct : Cnt} {z0 z1 z2 z3 z4 : Int} (hx : b.svcs[k]? = some s) (hct : cntOf b.cps s.name s.image = ct) (hg : s.gone = true) (h : rankS b k = [z0, z1, z2, z3, z4]) :
    rankS b (k + 1) = [z0 + 1, z1 + ct.ending + ct.live, z2, z3, z4] := by
  rw [cntOf_eq _ _ l2] at hct
  subst hct
  simp only [rankS, List.cons.injEq, and_true] at h ⊢
  obtain ⟨rfl, rfl, rfl, rfl, rfl⟩ := h
  rw [gones_succ hx, bySvc_succ hx, offSum_succ hx, bySvc_succ hx, bySvc_succ hx, q1_live hg, q3_gone hg, q4_gone hg]
  simp [offBy, hg, cntP]
  omega
theorem rankS_stay {b : Book} (l2 : b.cps.length ≤ 2000000) {k : Nat} {s : Svc} {ct : Cnt} {z0 z1 z2 z3 z4 : Int} (hx : b.svcs[k]? = some s) (hct : cntOf b.cps s.name s.image = ct) (hg : s.gone = false) (h : rankS b k = [z0, z1, z2, z3, z4]) :
    rankS b (k + 1) = [z0, z1 + ct.ending, z2 + (if ct.live < s.want then s.want - ct.live else ct.live - s.want), z3 + (b.cps.countP (fun c => isLive s.name c && badIn b.brs s c) : Int), z4 + (b.cps.countP (fun c => isLive s.name c && !decide (c.state = 3)) : Int)] := by
  have hct' := hct
  rw [cntOf_eq _ _ l2] at hct'
  simp only [rankS, List.cons.injEq, and_true] at h ⊢
  obtain ⟨rfl, rfl, rfl, rfl, rfl⟩ := h
  rw [gones_succ hx, bySvc_succ hx, offSum_succ hx, bySvc_succ hx, bySvc_succ hx, q1_going hg, q3_not hg, q4_not hg, offBy, hct]
  subst hct'
  simp [hg, cntP]

/-- The places of those that are so. -/
def placesOf {α : Type} (p : α → Bool) : List α → Nat → List Nat
  | [], _ => []
  | x :: xs, k => if p x then k :: placesOf p xs (k + 1) else placesOf p xs (k + 1)
theorem placesOf_append {α : Type} (p : α → Bool) : ∀ (xs ys : List α) (k : Nat), placesOf p (xs ++ ys) k = placesOf p xs k ++ placesOf p ys (k + xs.length)
  | [], ys, k => by simp [placesOf]
  | x :: xs, ys, k => by
    rw [List.cons_append, placesOf, placesOf, placesOf_append p xs ys (k + 1), show k + 1 + xs.length = k + (x :: xs).length by simp; omega]
    split <;> simp
theorem placesOf_succ {α : Type} {p : α → Bool} {xs : List α} {k : Nat} {x : α} (h : xs[k]? = some x) : placesOf p (xs.take (k + 1)) 0 = placesOf p (xs.take k) 0 ++ (if p x then [k] else []) := by
  have hl : k < xs.length := (List.getElem?_eq_some_iff.1 h).1
  rw [take_succ_at h, placesOf_append, List.length_take, Nat.min_eq_left (by omega)]
  simp only [placesOf, Nat.zero_add]
theorem placesOf_len {α : Type} (p : α → Bool) : ∀ (xs : List α) (k : Nat), (placesOf p xs k).length ≤ xs.length
  | [], _ => by simp [placesOf]
  | x :: xs, k => by
    have := placesOf_len p xs (k + 1)
    unfold placesOf
    split <;> simp <;> omega
theorem placesOf_mem {α : Type} {p : α → Bool} : ∀ {xs : List α} {k i : Nat}, i ∈ placesOf p xs k → k ≤ i ∧ ∃ x, xs[i - k]? = some x ∧ p x = true
  | [], _, _, h => by simp [placesOf] at h
  | x :: xs, k, i, h => by
    unfold placesOf at h
    by_cases hp : p x = true
    · rw [if_pos hp] at h
      rcases List.mem_cons.1 h with rfl | h
      · exact ⟨Nat.le_refl _, x, by simp, hp⟩
      · obtain ⟨h1, y, h2, h3⟩ := placesOf_mem h
        refine ⟨by omega, y, ?_, h3⟩
        rw [show i - k = (i - (k + 1)) + 1 by omega, List.getElem?_cons_succ]; exact h2
    · rw [if_neg hp] at h
      obtain ⟨h1, y, h2, h3⟩ := placesOf_mem h
      refine ⟨by omega, y, ?_, h3⟩
      rw [show i - k = (i - (k + 1)) + 1 by omega, List.getElem?_cons_succ]; exact h2
theorem placesOf_at {α : Type} {p : α → Bool} {xs : List α} {j i : Nat} (h : (placesOf p xs 0)[j]? = some i) : ∃ x, xs[i]? = some x ∧ p x = true := by
  obtain ⟨-, x, h2, h3⟩ := placesOf_mem (List.mem_of_getElem? h)
  exact ⟨x, h2, h3⟩
def hitAt {α : Type} (ys : List α) (q : α → Bool) (i : Nat) : Bool := (ys[i]?).any q
theorem placesOf_count {α : Type} (p q : α → Bool) (ys : List α) : ∀ (xs : List α) (k : Nat), (∀ j : Nat, xs[j]? = ys[k + j]?) → (placesOf p xs k).countP (hitAt ys q) = xs.countP (fun x => p x && q x)
  | [], _, _ => rfl
  | x :: xs, k, h => by
    have h0 : ys[k]? = some x := by have := h 0; simpa using this.symm
    have ih := placesOf_count p q ys xs (k + 1) fun j => by have := h (j + 1); simpa [Nat.add_assoc, Nat.add_comm 1 j] using this
    unfold placesOf
    rw [List.countP_cons]
    by_cases hp : p x = true
    · rw [if_pos hp, List.countP_cons, ih, hitAt, h0]
      simp [hp]
    · rw [if_neg hp, ih]
      simp [hp]
theorem placesOf_count0 {α : Type} (p q : α → Bool) (xs : List α) : (placesOf p xs 0).countP (hitAt xs q) = xs.countP (fun x => p x && q x) := placesOf_count p q xs xs 0 fun j => by simp
end Go.Proofs.Ytnmknkdbeccmhaa
namespace Go.Proofs.Ytnmknkdbeccmhaa
open Go.RowKit
set_option linter.unusedSimpArgs false
set_option linter.unusedVariables false

theorem ahead_place {c n : Cpy} (h : eqN c.service n.service = true → c.number < n.number) : ahead c n = !ltN n.service c.service := by
  have ht : ltN n.service c.service = !(ltN c.service n.service || eqN c.service n.service) := bl_tri c.service.toList n.service.toList
  rw [ht, Bool.not_not]
  unfold ahead
  rcases he : eqN c.service n.service
  · simp
  · simp [h he]
theorem takeWhile_same {α : Type} {p q : α → Bool} : ∀ {xs : List α}, (∀ x ∈ xs, p x = q x) → xs.takeWhile p = xs.takeWhile q
  | [], _ => rfl
  | x :: xs, h => by
    have h0 := h x (by simp)
    have ih := takeWhile_same (xs := xs) fun y hy => h y (by simp [hy])
    simp only [List.takeWhile_cons, h0, ih]
theorem putIn_len {α : Type} {k : Nat} {ys xs : List α} : (putIn k ys xs).length = xs.length + ys.length := by
  unfold putIn
  simp only [List.length_append, List.length_take, List.length_drop]
  omega
theorem putIn_snoc {α : Type} {p : Nat} {ys xs : List α} {y : α} (hp : p ≤ xs.length) : putIn (p + ys.length) [y] (putIn p ys xs) = putIn p (ys ++ [y]) xs := by
  unfold putIn
  have e1 : (xs.take p ++ ys).length = p + ys.length := by rw [List.length_append, List.length_take, Nat.min_eq_left hp]
  rw [List.take_left' e1, List.drop_left' e1]
  simp
theorem place_le (nm : ByteArray) (cps : List Cpy) : place nm cps ≤ cps.length := by
  unfold place
  exact (List.takeWhile_prefix _).length_le
theorem takeWhile_all {α : Type} {p : α → Bool} {ys zs : List α} : ∀ {xs : List α}, (∀ x ∈ xs, p x = true) → (xs ++ zs).takeWhile p = xs ++ zs.takeWhile p
  | [], _ => rfl
  | x :: xs, h => by
    rw [List.cons_append, List.takeWhile_cons, if_pos (h x (by simp)), takeWhile_all (ys := ys) fun y hy => h y (by simp [hy]), List.cons_append]
theorem takeWhile_mem {α : Type} {p : α → Bool} : ∀ {xs : List α}, ∀ x ∈ xs.takeWhile p, p x = true
  | [], x, h => by simp at h
  | y :: ys, x, h => by
    rw [List.takeWhile_cons] at h
    split at h
    · rcases List.mem_cons.1 h with rfl | h
      · assumption
      · exact takeWhile_mem x h
    · simp at h
theorem takeWhile_drop {α : Type} {p : α → Bool} : ∀ {xs : List α}, xs.take (xs.takeWhile p).length = xs.takeWhile p ∧ (xs.drop (xs.takeWhile p).length).takeWhile p = []
  | [] => ⟨rfl, rfl⟩
  | y :: ys => by
    obtain ⟨h1, h2⟩ := takeWhile_drop (p := p) (xs := ys)
    rw [List.takeWhile_cons]
    split
    · exact ⟨by simp [h1], by simpa using h2⟩
    · next h => exact ⟨rfl, by simp [List.takeWhile_cons, h]⟩
/-- After copies of the service have been put in, the next place is behind them. -/
theorem place_putIn {nm : ByteArray} {ys cps : List Cpy} (h : ∀ y ∈ ys, y.service = nm) : place nm (putIn (place nm cps) ys cps) = place nm cps + ys.length := by
  obtain ⟨h1, h2⟩ := takeWhile_drop (p := fun c : Cpy => !ltN nm c.service) (xs := cps)
  unfold putIn
  unfold place
  rw [List.append_assoc, h1, takeWhile_all (ys := ys) takeWhile_mem, takeWhile_all (ys := ys) (fun y hy => by rw [h y hy, ltN_irr]; rfl), h2]
  simp
theorem formed_drop {a : SAct} (h : formedB a = true) (hd : a.drop = true) : a.create = 0 ∧ a.scale = false ∧ a.ends = [] := by
  unfold formedB at h
  simp only [hd, Bool.and_eq_true, Bool.not_true, Bool.false_or, decide_eq_true_eq, Bool.not_eq_true', List.isEmpty_iff] at h
  exact h.2.2.2
end Go.Proofs.Ytnmknkdbeccmhaa
