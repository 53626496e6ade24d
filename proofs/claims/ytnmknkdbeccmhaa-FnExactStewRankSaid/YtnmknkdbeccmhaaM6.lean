/- The ranks and what is done, as plain data. -/
import Derived.Test.YtnmknkdbeccmhaaM5
namespace Go.Proofs.Ytnmknkdbeccmhaa
open Go.RowKit
set_option linter.unusedSimpArgs false

/-- What a service's Want is to be by its load. -/
def dsr (s : Svc) : Int := if s.most < (if (s.load + s.per - 1) / s.per < s.least then s.least else (s.load + s.per - 1) / s.per) then s.most else (if (s.load + s.per - 1) / s.per < s.least then s.least else (s.load + s.per - 1) / s.per)
def drainsB (brs : List Brt) (nm : ByteArray) : Bool := match (brtAt brs nm).bind (brs[·]?) with | none => false | some x => x.drain
/-- The service's record, for a copy. -/
def svcOf (svcs : List Svc) (c : Cpy) : Option Svc := (svcAt svcs c.service).bind (svcs[·]?)
def goneOf (svcs : List Svc) (c : Cpy) : Bool := match svcOf svcs c with | none => false | some s => s.gone
def badIn (brs : List Brt) (s : Svc) (c : Cpy) : Bool := !decide (c.image = s.image) || drainsB brs c.berth
def r1P (svcs : List Svc) (c : Cpy) : Bool := c.ending || goneOf svcs c
def r3P (svcs : List Svc) (brs : List Brt) (c : Cpy) : Bool := !c.ending && (match svcOf svcs c with | none => false | some s => !s.gone && badIn brs s c)
def r4P (svcs : List Svc) (c : Cpy) : Bool := !c.ending && (!goneOf svcs c && !decide (c.state = 3))
def offBy (cps : List Cpy) (s : Svc) : Int := if s.gone then 0 else if (cntOf cps s.name s.image).live < s.want then s.want - (cntOf cps s.name s.image).live else (cntOf cps s.name s.image).live - s.want
def offSum (cps : List Cpy) (xs : List Svc) : Int := xs.foldl (fun a s => a + offBy cps s) 0
def rankV (b : Book) : List Int := [b.svcs.countP (·.gone), b.cps.countP (r1P b.svcs), offSum b.cps b.svcs, b.cps.countP (r3P b.svcs b.brs), b.cps.countP (r4P b.svcs)]
def rankB (b : Book) : List Int := if valid b = true then rankV b else [0, 0, 0, 0, 0]
def wantsOk (s : Svc) : Bool := decide (s.per ≤ 0) || (decide (s.want = dsr s) && decide (s.cool = 0))
def doneB (b : Book) : Bool := valid b && ((rankV b).all (fun r => decide (r = 0)) && b.svcs.all wantsOk)

theorem offBy_bd {cps : List Cpy} {s : Svc} (h : cps.length ≤ 2000000) (hs : SvcNum s 1000000) : 0 ≤ offBy cps s ∧ offBy cps s ≤ cps.length + 10 := by
  have := cntOf_bd s.name s.image h
  unfold SvcNum at hs
  unfold offBy
  split
  · omega
  · split <;> omega
theorem foldl_add {α : Type} (f : α → Int) : ∀ (xs : List α) (a : Int), xs.foldl (fun a s => a + f s) a = a + xs.foldl (fun a s => a + f s) 0
  | [], a => by simp
  | x :: xs, a => by
    rw [List.foldl_cons, List.foldl_cons, foldl_add f xs (a + f x), foldl_add f xs (0 + f x)]
    omega
theorem offSum_cons (cps : List Cpy) (s : Svc) (xs : List Svc) : offSum cps (s :: xs) = offBy cps s + offSum cps xs := by
  unfold offSum; rw [List.foldl_cons, foldl_add]; omega
theorem offSum_append (cps : List Cpy) : ∀ (xs ys : List Svc), offSum cps (xs ++ ys) = offSum cps xs + offSum cps ys
  | [], ys => by simp [offSum]
  | x :: xs, ys => by rw [List.cons_append, offSum_cons, offSum_cons, offSum_append cps xs ys]; omega
theorem offSum_bd {cps : List Cpy} (h : cps.length ≤ 2000000) : ∀ (xs : List Svc), (∀ s ∈ xs, SvcNum s 1000000) → 0 ≤ offSum cps xs ∧ offSum cps xs ≤ xs.length * (cps.length + 10)
  | [], _ => by simp [offSum]
  | x :: xs, hx => by
    have h1 := offBy_bd h (hx x (by simp))
    have h2 := offSum_bd h xs fun s hs => hx s (by simp [hs])
    rw [offSum_cons]
    have e : ((x :: xs).length : Int) * (cps.length + 10) = xs.length * (cps.length + 10) + (cps.length + 10) := by
      rw [List.length_cons, Int.natCast_add, Int.natCast_one, Int.add_mul, Int.one_mul]
    omega
theorem take_succ_at {α : Type} {xs : List α} {k : Nat} {x : α} (h : xs[k]? = some x) : xs.take (k + 1) = xs.take k ++ [x] := by
  obtain ⟨hl, rfl⟩ := List.getElem?_eq_some_iff.1 h
  exact List.take_succ_eq_append_getElem hl
theorem countP_succ {α : Type} {p : α → Bool} {xs : List α} {k : Nat} {x : α} (h : xs[k]? = some x) : ((xs.take (k + 1)).countP p : Int) = (xs.take k).countP p + (if p x then 1 else 0) := by
  rw [take_succ_at h, List.countP_append]
  cases hp : p x <;> simp [hp]
theorem countP_take_le {α : Type} {p : α → Bool} {xs : List α} {k : Nat} : (xs.take k).countP p ≤ k := by
  have := List.countP_le_length (p := p) (l := xs.take k)
  have := List.length_take_le k xs
  omega
theorem offSum_succ {cps : List Cpy} {xs : List Svc} {k : Nat} {x : Svc} (h : xs[k]? = some x) : offSum cps (xs.take (k + 1)) = offSum cps (xs.take k) + offBy cps x := by
  rw [take_succ_at h, offSum_append]
  simp [offSum]

/-! the sums over services are sums over copies -/
/-- No two services of one name. -/
def NoTwice (xs : List Svc) : Prop := ∀ (i j : Nat) (x y : Svc), xs[i]? = some x → xs[j]? = some y → x.name.toList = y.name.toList → i = j
/-- sums of a count, service by service -/
def bySvc (p : Svc → Cpy → Bool) (cps : List Cpy) (xs : List Svc) : Int := xs.foldl (fun a s => a + (cps.countP (fun c => eqN c.service s.name && p s c) : Int)) 0
theorem bySvc_cons (p : Svc → Cpy → Bool) (cps : List Cpy) (s : Svc) (xs : List Svc) : bySvc p cps (s :: xs) = (cps.countP (fun c => eqN c.service s.name && p s c) : Int) + bySvc p cps xs := by
  unfold bySvc; rw [List.foldl_cons, foldl_add]; omega
theorem bySvc_nil (p : Svc → Cpy → Bool) : ∀ xs : List Svc, bySvc p [] xs = 0
  | [] => rfl
  | x :: xs => by rw [bySvc_cons, bySvc_nil p xs]; simp
theorem bySvc_step (p : Svc → Cpy → Bool) (c : Cpy) (cps : List Cpy) : ∀ xs : List Svc, bySvc p (c :: cps) xs = bySvc p cps xs + bySvc p [c] xs
  | [] => rfl
  | x :: xs => by
    rw [bySvc_cons, bySvc_cons, bySvc_cons, bySvc_step p c cps xs, List.countP_cons, List.countP_cons, List.countP_nil]
    omega
theorem bySvc_none (p : Svc → Cpy → Bool) (c : Cpy) : ∀ xs : List Svc, (∀ s ∈ xs, eqN c.service s.name = false) → bySvc p [c] xs = 0
  | [], _ => rfl
  | x :: xs, h => by
    rw [bySvc_cons, bySvc_none p c xs fun s hs => h s (by simp [hs])]
    simp [List.countP_cons, h x (by simp)]
theorem eqN_comm (a b : ByteArray) : eqN a b = eqN b a := by unfold eqN; rw [Bool.eq_iff_iff, beq_iff_eq, beq_iff_eq]; exact eq_comm
theorem eqN_iff {a b : ByteArray} : eqN a b = true ↔ a.toList = b.toList := by unfold eqN; exact beq_iff_eq
theorem svcAt_cons (x : Svc) (xs : List Svc) (nm : ByteArray) : svcAt (x :: xs) nm = if eqN x.name nm then some 0 else (svcAt xs nm).map (· + 1) := by
  have shift : ∀ (p : Svc → Bool) (ys : List Svc) (k : Nat), fIdx p ys (k + 1) = (fIdx p ys k).map (· + 1) := by
    intro p ys
    induction ys with
    | nil => intro k; rfl
    | cons y ys ih =>
      intro k
      unfold fIdx
      split
      · rfl
      · exact ih (k + 1)
  unfold svcAt
  rw [fIdx]
  split
  · rfl
  · exact shift _ xs 0
theorem svcOf_cons (x : Svc) (xs : List Svc) (c : Cpy) : svcOf (x :: xs) c = if eqN c.service x.name then some x else svcOf xs c := by
  unfold svcOf
  rw [svcAt_cons, eqN_comm]
  split
  · rfl
  · cases svcAt xs c.service <;> rfl
def onSvc (svcs : List Svc) (p : Svc → Cpy → Bool) (c : Cpy) : Bool := match svcOf svcs c with | none => false | some s => p s c
theorem bySvc_one (p : Svc → Cpy → Bool) (c : Cpy) : ∀ xs : List Svc, NoTwice xs → bySvc p [c] xs = if onSvc xs p c then 1 else 0
  | [], _ => rfl
  | x :: xs, h => by
    have h' : NoTwice xs := fun i j a b ha hb e => by have := h (i + 1) (j + 1) a b (by simpa using ha) (by simpa using hb) e; omega
    unfold onSvc
    rw [bySvc_cons, svcOf_cons]
    by_cases he : eqN c.service x.name = true
    · have hn : ∀ s ∈ xs, eqN c.service s.name = false := fun s hs => by
        obtain ⟨i, hi⟩ := List.mem_iff_getElem?.1 hs
        cases hq : eqN c.service s.name with
        | false => rfl
        | true =>
          have := h 0 (i + 1) x s rfl (by simpa using hi) ((eqN_iff.1 he).symm.trans (eqN_iff.1 hq))
          omega
      rw [bySvc_none p c xs hn, if_pos he]
      simp [List.countP_cons, he]
      split <;> rfl
    · rw [bySvc_one p c xs h', if_neg he, onSvc]
      simp [List.countP_cons, he]
theorem bySvc_eq (p : Svc → Cpy → Bool) (xs : List Svc) (h : NoTwice xs) : ∀ cps : List Cpy, bySvc p cps xs = (cps.countP (onSvc xs p) : Int)
  | [] => by rw [bySvc_nil]; rfl
  | c :: cps => by
    rw [bySvc_step, bySvc_eq p xs h cps, bySvc_one p c xs h, List.countP_cons]
    by_cases hp : onSvc xs p c = true <;> simp [hp]
theorem bySvc_append (p : Svc → Cpy → Bool) (cps : List Cpy) : ∀ (xs ys : List Svc), bySvc p cps (xs ++ ys) = bySvc p cps xs + bySvc p cps ys
  | [], ys => by simp [bySvc]
  | x :: xs, ys => by rw [List.cons_append, bySvc_cons, bySvc_cons, bySvc_append p cps xs ys]; omega
theorem bySvc_succ {p : Svc → Cpy → Bool} {cps : List Cpy} {xs : List Svc} {k : Nat} {x : Svc} (h : xs[k]? = some x) : bySvc p cps (xs.take (k + 1)) = bySvc p cps (xs.take k) + (cps.countP (fun c => eqN c.service x.name && p x c) : Int) := by
  rw [take_succ_at h, bySvc_append]
  simp [bySvc]
theorem bySvc_bd (p : Svc → Cpy → Bool) (cps : List Cpy) : ∀ xs : List Svc, 0 ≤ bySvc p cps xs ∧ bySvc p cps xs ≤ xs.length * cps.length
  | [] => by simp [bySvc]
  | x :: xs => by
    have h1 := List.countP_le_length (p := fun c => eqN c.service x.name && p x c) (l := cps)
    have h2 := bySvc_bd p cps xs
    rw [bySvc_cons]
    have e : ((x :: xs).length : Int) * cps.length = xs.length * cps.length + cps.length := by
      rw [List.length_cons, Int.natCast_add, Int.natCast_one, Int.add_mul, Int.one_mul]
    omega

/-- Ascending names: none twice. -/
theorem ltN_irr (a : ByteArray) : ltN a a = false := bl_irr _
theorem ltN_trans {a b c : ByteArray} (h : ltN a b = true) (k : ltN b c = true) : ltN a c = true := bl_trans h k
theorem svcsOk_above {now : Int} : ∀ {p : Svc} {xs : List Svc}, svcsOk now (some p) xs = true → ∀ x ∈ xs, ltN p.name x.name = true
  | _, [], _, x, hx => by simp at hx
  | p, s :: xs, h, x, hx => by
    simp only [svcsOk, Bool.and_eq_true] at h
    rcases List.mem_cons.1 hx with rfl | hm
    · exact h.2.1
    · exact ltN_trans h.2.1 (svcsOk_above h.2.2 x hm)
theorem svcsOk_tail {now : Int} {p : Option Svc} {s : Svc} {xs : List Svc} (h : svcsOk now p (s :: xs) = true) : svcsOk now (some s) xs = true := by
  cases p <;> simp only [svcsOk, Bool.and_eq_true] at h
  · exact h.2
  · exact h.2.2
theorem noTwice_of {now : Int} : ∀ {p : Option Svc} {xs : List Svc}, svcsOk now p xs = true → NoTwice xs
  | _, [], _ => fun i j x y hx _ _ => by simp at hx
  | p, s :: xs, h => by
    have ht := svcsOk_tail h
    have ih := noTwice_of ht
    have hlt : ∀ x ∈ xs, s.name.toList ≠ x.name.toList := fun x hx e => by
      have := svcsOk_above ht x hx
      unfold ltN at this
      rw [e, bl_irr] at this
      cases this
    intro i j x y hx hy e
    cases i with
    | zero => cases j with
      | zero => rfl
      | succ j =>
        simp only [List.getElem?_cons_zero, Option.some.injEq] at hx
        subst hx
        exact absurd e (hlt y (List.mem_of_getElem? (by simpa using hy)))
    | succ i => cases j with
      | zero =>
        simp only [List.getElem?_cons_zero, Option.some.injEq] at hy
        subst hy
        exact absurd e.symm (hlt x (List.mem_of_getElem? (by simpa using hx)))
      | succ j =>
        have := ih i j x y (by simpa using hx) (by simpa using hy) e
        omega
theorem valid_svcs {b : Book} (h : valid b = true) : svcsOk b.now none b.svcs = true := by
  unfold valid at h; simp only [Bool.and_eq_true] at h; exact h.1.1.2
theorem valid_noTwice {b : Book} (h : valid b = true) : NoTwice b.svcs := noTwice_of (valid_svcs h)
end Go.Proofs.Ytnmknkdbeccmhaa
