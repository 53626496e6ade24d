/- Counts as plain numbers; what a valid book gives; what may be ended; the ranks. Plain data alone. -/
import Derived.Test.YtnmknkdbeccmhaaM4
import Derived.Test.YtnmknkdbeccmhaaM2
namespace Go.Proofs.Ytnmknkdbeccmhaa
open Go.RowKit
set_option linter.unusedSimpArgs false

def isIn (nm : ByteArray) (c : Cpy) : Bool := eqN c.service nm
def isLive (nm : ByteArray) (c : Cpy) : Bool := eqN c.service nm && !c.ending
def isGoing (nm : ByteArray) (c : Cpy) : Bool := eqN c.service nm && c.ending
def isServ (nm : ByteArray) (c : Cpy) : Bool := isLive nm c && decide (c.state = 3)
def isOld (nm : ByteArray) (im : Int) (c : Cpy) : Bool := isLive nm c && !decide (c.image = im)
def isFail (nm : ByteArray) (c : Cpy) : Bool := isLive nm c && decide (c.state = 4)
def cntP (cps : List Cpy) (nm : ByteArray) (im : Int) : Cnt :=
  ⟨cps.countP (isLive nm), cps.countP (isServ nm), cps.countP (isOld nm im), cps.countP (isFail nm), cps.countP (isGoing nm)⟩
theorem wrap64_in {x : Int} (h : -9223372036854775808 ≤ x ∧ x ≤ 9223372036854775807) : wrap64 x = x := by unfold wrap64; omega
theorem cnt_fold {nm : ByteArray} {im : Int} : ∀ (cps : List Cpy) (a : Cnt), (0 ≤ a.live ∧ 0 ≤ a.serving ∧ 0 ≤ a.old ∧ 0 ≤ a.failed ∧ 0 ≤ a.ending) →
    (a.live + cps.length ≤ 4000000 ∧ a.serving + cps.length ≤ 4000000 ∧ a.old + cps.length ≤ 4000000 ∧ a.failed + cps.length ≤ 4000000 ∧ a.ending + cps.length ≤ 4000000) →
    cps.foldl (cntStep nm im) a = ⟨a.live + cps.countP (isLive nm), a.serving + cps.countP (isServ nm), a.old + cps.countP (isOld nm im), a.failed + cps.countP (isFail nm), a.ending + cps.countP (isGoing nm)⟩
  | [], a, _, _ => by simp
  | c :: cps, a, h0, h1 => by
    have w1 : bump a.live = a.live + 1 := wrap64_in (by simp only [List.length_cons] at h1; omega)
    have w2 : bump a.serving = a.serving + 1 := wrap64_in (by simp only [List.length_cons] at h1; omega)
    have w3 : bump a.old = a.old + 1 := wrap64_in (by simp only [List.length_cons] at h1; omega)
    have w4 : bump a.failed = a.failed + 1 := wrap64_in (by simp only [List.length_cons] at h1; omega)
    have w5 : bump a.ending = a.ending + 1 := wrap64_in (by simp only [List.length_cons] at h1; omega)
    rw [List.foldl_cons]
    by_cases e1 : eqN c.service nm = true
    · by_cases e2 : c.ending = true
      · have hs : cntStep nm im a c = { a with ending := a.ending + 1 } := by unfold cntStep; rw [if_neg (by simp [e1]), if_pos e2, w5]
        rw [hs, cnt_fold cps _ (by simp only; omega) (by simp only [List.length_cons] at h1; simp only; omega)]
        simp [List.countP_cons, isLive, isServ, isOld, isFail, isGoing, e1, e2]
        omega
      · have hs : cntStep nm im a c = ⟨a.live + 1, if c.state = 3 then a.serving + 1 else a.serving, if c.image = im then a.old else a.old + 1, if c.state = 4 then a.failed + 1 else a.failed, a.ending⟩ := by
          unfold cntStep; rw [if_neg (by simp [e1]), if_neg e2, w1, w2, w3, w4]
        rw [hs, cnt_fold cps _ (by simp only; refine ⟨by omega, by split <;> omega, by split <;> omega, by split <;> omega, by omega⟩) (by simp only [List.length_cons] at h1; simp only; refine ⟨by omega, by split <;> omega, by split <;> omega, by split <;> omega, by omega⟩)]
        simp only [List.countP_cons, isLive, isServ, isOld, isFail, isGoing, e1, e2, Bool.not_false, Bool.and_self, Bool.true_and, Bool.not_eq_true', decide_eq_true_eq, decide_eq_false_iff_not]
        simp
        refine ⟨by omega, ?_, ?_, ?_⟩
        all_goals (split <;> omega)
    · have hs : cntStep nm im a c = a := if_pos (by simpa using e1)
      rw [hs, cnt_fold cps _ h0 (by simp only [List.length_cons] at h1; omega)]
      simp [List.countP_cons, isLive, isServ, isOld, isFail, isGoing, e1]
theorem cntOf_eq {cps : List Cpy} (nm : ByteArray) (im : Int) (h : cps.length ≤ 2000000) : cntOf cps nm im = cntP cps nm im := by
  rw [cntOf, cnt_fold cps cnt0 (by decide) (by simp only [cnt0]; omega)]
  simp [cntP, cnt0]
theorem cntP_bd (cps : List Cpy) (nm : ByteArray) (im : Int) : 0 ≤ (cntP cps nm im).live ∧ (cntP cps nm im).live ≤ cps.length ∧ 0 ≤ (cntP cps nm im).serving ∧ (cntP cps nm im).serving ≤ cps.length ∧ 0 ≤ (cntP cps nm im).old ∧ (cntP cps nm im).old ≤ cps.length ∧
    0 ≤ (cntP cps nm im).failed ∧ (cntP cps nm im).failed ≤ cps.length ∧ 0 ≤ (cntP cps nm im).ending ∧ (cntP cps nm im).ending ≤ cps.length := by
  have h := fun p => List.countP_le_length (p := p) (l := cps)
  simp only [cntP]
  have h1 := h (isLive nm); have h2 := h (isServ nm); have h3 := h (isOld nm im); have h4 := h (isFail nm); have h5 := h (isGoing nm)
  omega
theorem cntOf_bd {cps : List Cpy} (nm : ByteArray) (im : Int) (h : cps.length ≤ 2000000) : 0 ≤ (cntOf cps nm im).live ∧ (cntOf cps nm im).live ≤ cps.length ∧ 0 ≤ (cntOf cps nm im).serving ∧ (cntOf cps nm im).serving ≤ cps.length ∧ 0 ≤ (cntOf cps nm im).old ∧ (cntOf cps nm im).old ≤ cps.length ∧
    0 ≤ (cntOf cps nm im).failed ∧ (cntOf cps nm im).failed ≤ cps.length ∧ 0 ≤ (cntOf cps nm im).ending ∧ (cntOf cps nm im).ending ≤ cps.length := by
  rw [cntOf_eq nm im h]; exact cntP_bd cps nm im

/-- What a valid book gives to the walks. -/
structure Fit (b : Book) : Prop where
  now : 0 ≤ b.now ∧ b.now ≤ 1000000
  l1 : b.svcs.length ≤ 8
  l2 : b.cps.length ≤ 200
  l3 : b.brs.length ≤ 6
  num : ∀ s ∈ b.svcs, SvcNum s 1000000
  own : ∀ c ∈ b.cps, (svcAt b.svcs c.service).isSome = true
theorem svcsOk_mem {now : Int} : ∀ {p : Option Svc} {xs : List Svc}, svcsOk now p xs = true → ∀ x ∈ xs, svcOk x now = true
  | _, [], _, x, hx => by simp at hx
  | none, s :: xs, h, x, hx => by
    simp only [svcsOk, Bool.and_eq_true] at h
    rcases List.mem_cons.1 hx with rfl | hm
    · exact h.1
    · exact svcsOk_mem h.2 x hm
  | some p, s :: xs, h, x, hx => by
    simp only [svcsOk, Bool.and_eq_true] at h
    rcases List.mem_cons.1 hx with rfl | hm
    · exact h.1
    · exact svcsOk_mem h.2.2 x hm
theorem cpsOk_mem {b : Book} : ∀ {p : Option Cpy} {xs : List Cpy}, cpsOk b p xs = true → ∀ x ∈ xs, cpyOk b x = true
  | _, [], _, x, hx => by simp at hx
  | none, s :: xs, h, x, hx => by
    simp only [cpsOk, Bool.and_eq_true] at h
    rcases List.mem_cons.1 hx with rfl | hm
    · exact h.1
    · exact cpsOk_mem h.2 x hm
  | some p, s :: xs, h, x, hx => by
    simp only [cpsOk, Bool.and_eq_true] at h
    rcases List.mem_cons.1 hx with rfl | hm
    · exact h.1
    · exact cpsOk_mem h.2.2 x hm
theorem fit_of_valid {b : Book} (h : valid b = true) : Fit b := by
  unfold valid at h
  simp only [Bool.and_eq_true, decide_eq_true_eq] at h
  obtain ⟨⟨⟨⟨h1, h2, h3, h4, h5⟩, hs⟩, -⟩, hc⟩ := h
  refine ⟨⟨h1, h2⟩, h3, h4, h5, fun s hm => ?_, fun c hm => ?_⟩
  · obtain ⟨-, hn⟩ := svcOk_iff.1 (svcsOk_mem hs s hm)
    unfold SvcNum at *
    omega
  · have := cpsOk_mem hc c hm
    unfold cpyOk at this
    cases hq : svcAt b.svcs c.service with
    | none => rw [hq] at this; simp at this
    | some i => rfl

def svcGet (b : Book) (nm : ByteArray) : Option Svc := (svcAt b.svcs nm).bind (b.svcs[·]?)
def cpyGet (b : Book) (nm : ByteArray) (n : Int) : Option Cpy := (cpyAt b.cps nm n).bind (b.cps[·]?)
theorem cpyAt_some {xs : List Cpy} {nm : ByteArray} {n : Int} {i : Nat} (h : cpyAt xs nm n = some i) : ∃ c, xs[i]? = some c ∧ eqN c.service nm = true ∧ c.number = n := by
  obtain ⟨c, h1, h2⟩ := fIdx_some0 h
  simp only [Bool.and_eq_true, decide_eq_true_eq] at h2
  exact ⟨c, h1, h2⟩
theorem svcAt_eq {xs : List Svc} {a nm : ByteArray} (h : eqN a nm = true) : svcAt xs nm = svcAt xs a := by
  have : a.toList = nm.toList := by simpa [eqN] using h
  simp [svcAt, eqN, this]
/-- A copy of a service that is there: the service is. -/
theorem svc_there {b : Book} (hf : Fit b) {nm : ByteArray} {n : Int} {k : Nat} (hk : cpyAt b.cps nm n = some k) : ∃ i s, svcAt b.svcs nm = some i ∧ b.svcs[i]? = some s ∧ eqN s.name nm = true ∧ SvcNum s 1000000 := by
  obtain ⟨c, hc, he, -⟩ := cpyAt_some hk
  have := hf.own c (List.mem_of_getElem? hc)
  rw [← svcAt_eq he] at this
  obtain ⟨i, hi⟩ := Option.isSome_iff_exists.1 this
  obtain ⟨s, hs, hn⟩ := fIdx_some0 hi
  exact ⟨i, s, hi, hs, hn, hf.num s (List.mem_of_getElem? hs)⟩
/-- Whether copy c of service s may be ended: the words of the gate. -/
def gate (cps : List Cpy) (s : Svc) (c : Cpy) : Bool := !c.ending && (!decide (c.state = 3) || (s.gone || decide (s.want - s.down ≤ (cntOf cps s.name s.image).serving - 1)))
def mayEndV (b : Book) (nm : ByteArray) (n : Int) : Bool :=
  match cpyGet b nm n with
  | none => false
  | some c => match svcGet b nm with
    | none => false
    | some s => gate b.cps s c
def mayEndB (b : Book) (nm : ByteArray) (n : Int) : Bool := valid b && mayEndV b nm n
end Go.Proofs.Ytnmknkdbeccmhaa
