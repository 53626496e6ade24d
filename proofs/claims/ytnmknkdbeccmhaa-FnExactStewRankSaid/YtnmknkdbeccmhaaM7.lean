/- The reference's ranks, service by service, and that they are the ranks. -/
import Derived.Test.YtnmknkdbeccmhaaM6
namespace Go.Proofs.Ytnmknkdbeccmhaa
open Go.RowKit
set_option linter.unusedSimpArgs false

def q1 (s : Svc) (c : Cpy) : Bool := c.ending || s.gone
def q3 (brs : List Brt) (s : Svc) (c : Cpy) : Bool := !c.ending && (!s.gone && badIn brs s c)
def q4 (s : Svc) (c : Cpy) : Bool := !c.ending && (!s.gone && !decide (c.state = 3))
def gones (xs : List Svc) : Int := (xs.countP (·.gone) : Int)
theorem gones_succ {xs : List Svc} {k : Nat} {x : Svc} (h : xs[k]? = some x) : gones (xs.take (k + 1)) = gones (xs.take k) + (if x.gone then 1 else 0) := countP_succ h
theorem gones_bd (xs : List Svc) : 0 ≤ gones xs ∧ gones xs ≤ xs.length := by
  have := List.countP_le_length (p := fun s : Svc => s.gone) (l := xs)
  unfold gones; omega
theorem svcAt_self {xs : List Svc} (h : NoTwice xs) {k : Nat} {x : Svc} (hx : xs[k]? = some x) : svcAt xs x.name = some k := by
  cases hq : svcAt xs x.name with
  | none =>
    have := fIdx_none hq x (List.mem_of_getElem? hx)
    simp [eqN] at this
  | some i =>
    obtain ⟨y, hy, hn⟩ := fIdx_some0 hq
    have := h i k y x hy hx (eqN_iff.1 hn)
    rw [this]
theorem countP_congr' {α : Type} {p q : α → Bool} {xs : List α} (h : ∀ x ∈ xs, p x = q x) : xs.countP p = xs.countP q := by
  induction xs with
  | nil => rfl
  | cons x xs ih =>
    rw [List.countP_cons, List.countP_cons, ih fun y hy => h y (by simp [hy]), h x (by simp)]
theorem countP_split {α : Type} (p q r : α → Bool) (xs : List α) (h : ∀ x ∈ xs, (p x = true → q x = false) ∧ r x = (p x || q x)) : xs.countP r = xs.countP p + xs.countP q := by
  induction xs with
  | nil => rfl
  | cons x xs ih =>
    rw [List.countP_cons, List.countP_cons, List.countP_cons, ih fun y hy => h y (by simp [hy])]
    obtain ⟨h1, h2⟩ := h x (by simp)
    cases hp : p x <;> cases hq : q x <;> simp_all <;> omega
theorem q1_live {s : Svc} {cps : List Cpy} (hg : s.gone = true) : (cps.countP (fun c => eqN c.service s.name && q1 s c)) = cps.countP (isGoing s.name) + cps.countP (isLive s.name) :=
  countP_split _ _ _ _ fun c _ => by cases h1 : eqN c.service s.name <;> cases h2 : c.ending <;> simp [isGoing, isLive, q1, h1, h2, hg]
theorem q1_going {s : Svc} {cps : List Cpy} (hg : s.gone = false) : (cps.countP (fun c => eqN c.service s.name && q1 s c)) = cps.countP (isGoing s.name) :=
  countP_congr' fun c _ => by simp [isGoing, q1, hg]
theorem q3_gone {brs : List Brt} {s : Svc} {cps : List Cpy} (hg : s.gone = true) : (cps.countP (fun c => eqN c.service s.name && q3 brs s c)) = 0 := by
  rw [List.countP_eq_zero]; intro c _; simp [q3, hg]
theorem q4_gone {s : Svc} {cps : List Cpy} (hg : s.gone = true) : (cps.countP (fun c => eqN c.service s.name && q4 s c)) = 0 := by
  rw [List.countP_eq_zero]; intro c _; simp [q4, hg]
theorem q3_not {brs : List Brt} {s : Svc} {cps : List Cpy} (hg : s.gone = false) : (cps.countP (fun c => eqN c.service s.name && q3 brs s c)) = cps.countP (fun c => isLive s.name c && badIn brs s c) :=
  countP_congr' fun c _ => by simp [isLive, q3, hg, Bool.and_assoc]
theorem q4_not {s : Svc} {cps : List Cpy} (hg : s.gone = false) : (cps.countP (fun c => eqN c.service s.name && q4 s c)) = cps.countP (fun c => isLive s.name c && !decide (c.state = 3)) :=
  countP_congr' fun c _ => by simp [isLive, q4, hg, Bool.and_assoc]
/-- The reference's list, behind k services. -/
def rankS (b : Book) (k : Nat) : List Int := [gones (b.svcs.take k), bySvc q1 b.cps (b.svcs.take k), offSum b.cps (b.svcs.take k), bySvc (q3 b.brs) b.cps (b.svcs.take k), bySvc q4 b.cps (b.svcs.take k)]
theorem rankS_all {b : Book} (hv : valid b = true) : rankS b b.svcs.length = rankV b := by
  have hn := valid_noTwice hv
  have hf := fit_of_valid hv
  have some_of : ∀ c ∈ b.cps, ∃ s, svcOf b.svcs c = some s := fun c hc => by
    obtain ⟨i, hi⟩ := Option.isSome_iff_exists.1 (hf.own c hc)
    obtain ⟨s, hs, -⟩ := fIdx_some0 hi
    exact ⟨s, by simp [svcOf, hi, hs]⟩
  unfold rankS rankV
  rw [List.take_length, bySvc_eq _ _ hn, bySvc_eq _ _ hn, bySvc_eq _ _ hn]
  have e1 : b.cps.countP (onSvc b.svcs q1) = b.cps.countP (r1P b.svcs) := countP_congr' fun c hc => by
    obtain ⟨s, hs⟩ := some_of c hc
    simp [onSvc, r1P, goneOf, hs, q1]
  have e3 : b.cps.countP (onSvc b.svcs (q3 b.brs)) = b.cps.countP (r3P b.svcs b.brs) := countP_congr' fun c hc => by
    obtain ⟨s, hs⟩ := some_of c hc
    simp [onSvc, r3P, hs, q3]
  have e4 : b.cps.countP (onSvc b.svcs q4) = b.cps.countP (r4P b.svcs) := countP_congr' fun c hc => by
    obtain ⟨s, hs⟩ := some_of c hc
    simp [onSvc, r4P, goneOf, hs, q4]
  rw [e1, e3, e4]
  rfl
end Go.Proofs.Ytnmknkdbeccmhaa
