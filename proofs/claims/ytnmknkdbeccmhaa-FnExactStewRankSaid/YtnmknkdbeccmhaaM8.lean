/- The reference's ranks, step by step. -/
import Derived.Test.YtnmknkdbeccmhaaM7
namespace Go.Proofs.Ytnmknkdbeccmhaa
open Go.RowKit
set_option linter.unusedSimpArgs false

theorem rankS_bd {b : Book} (hf : Fit b) {k : Nat} {z0 z1 z2 z3 z4 : Int} (h : rankS b k = [z0, z1, z2, z3, z4]) :
    (0 ≤ z0 ∧ z0 ≤ 100) ∧ (0 ≤ z1 ∧ z1 ≤ 10000) ∧ (0 ≤ z2 ∧ z2 ≤ 10000) ∧ (0 ≤ z3 ∧ z3 ≤ 10000) ∧ (0 ≤ z4 ∧ z4 ≤ 10000) := by
  have l1 := hf.l1
  have l2 := hf.l2
  have lt : (b.svcs.take k).length ≤ 8 := by have := List.length_take_le' k b.svcs; omega
  have g := gones_bd (b.svcs.take k)
  have q := fun p => bySvc_bd p b.cps (b.svcs.take k)
  have o := offSum_bd (cps := b.cps) (by omega) (b.svcs.take k) fun s hs => hf.num s (List.mem_of_mem_take hs)
  have m : ((b.svcs.take k).length : Int) * (b.cps.length : Int) ≤ 8 * 200 := Int.mul_le_mul (by omega) (by omega) (by omega) (by omega)
  have m' : ((b.svcs.take k).length : Int) * ((b.cps.length : Int) + 10) ≤ 8 * 210 := Int.mul_le_mul (by omega) (by omega) (by omega) (by omega)
  simp only [rankS, List.cons.injEq, and_true] at h
  obtain ⟨rfl, rfl, rfl, rfl, rfl⟩ := h
  have a := q q1
  have c := q (q3 b.brs)
  have d := q q4
  omega
theorem rankS_zero (b : Book) : rankS b 0 = [0, 0, 0, 0, 0] := by simp [rankS, gones, bySvc, offSum]
theorem rankS_gone {b : Book} (l2 : b.cps.length ≤ 2000000) {k : Nat} {s : Svc} {ct : Cnt} {z0 z1 z2 z3 z4 : Int} (hx : b.svcs[k]? = some s) (hct : cntOf b.cps s.name s.image = ct) (hg : s.gone = true) (h : rankS b k = [z0, z1, z2, z3, z4]) :
    rankS b (k + 1) = [z0 + 1, z1 + ct.ending + ct.live, z2, z3, z4] := by
  rw [cntOf_eq _ _ l2] at hct
  subst hct
  simp only [rankS, List.cons.injEq, and_true] at h ⊢
  obtain ⟨rfl, rfl, rfl, rfl, rfl⟩ := h
  rw [gones_succ hx, bySvc_succ hx, offSum_succ hx, bySvc_succ hx, bySvc_succ hx, q1_live hg, q3_gone hg, q4_gone hg]
  simp [offBy, hg, cntP]
  omega
theorem rankS_stay {b : Book} (l2 : b.cps.length ≤ 2000000) {k : Nat} {s : Svc} {ct : Cnt} {z0 z1 z2 z3 z4 : Int} (hx : b.svcs[k]? = some s) (hct : cntOf b.cps s.name s.image = ct) (hg : s.gone = false) (h : rankS b k = [z0, z1, z2, z3, z4]) :
    rankS b (k + 1) = [z0, z1 + ct.ending, z2 + (if ct.live < s.want then s.want - ct.live else ct.live - s.want), z3 + (b.cps.countP (fun c => isLive s.name c && badIn b.brs s c) : Int), z4 + (b.cps.countP (fun c => isLive s.name c && !decide (c.state = 3)) : Int)] := by
  have hct' := hct
  rw [cntOf_eq _ _ l2] at hct'
  simp only [rankS, List.cons.injEq, and_true] at h ⊢
  obtain ⟨rfl, rfl, rfl, rfl, rfl⟩ := h
  rw [gones_succ hx, bySvc_succ hx, offSum_succ hx, bySvc_succ hx, bySvc_succ hx, q1_going hg, q3_not hg, q4_not hg, offBy, hct]
  subst hct'
  simp [hg, cntP]

/-- The places of those that are so. -/
def placesOf {α : Type} (p : α → Bool) : List α → Nat → List Nat
  | [], _ => []
  | x :: xs, k => if p x then k :: placesOf p xs (k + 1) else placesOf p xs (k + 1)
theorem placesOf_append {α : Type} (p : α → Bool) : ∀ (xs ys : List α) (k : Nat), placesOf p (xs ++ ys) k = placesOf p xs k ++ placesOf p ys (k + xs.length)
  | [], ys, k => by simp [placesOf]
  | x :: xs, ys, k => by
    rw [List.cons_append, placesOf, placesOf, placesOf_append p xs ys (k + 1), show k + 1 + xs.length = k + (x :: xs).length by simp; omega]
    split <;> simp
theorem placesOf_succ {α : Type} {p : α → Bool} {xs : List α} {k : Nat} {x : α} (h : xs[k]? = some x) : placesOf p (xs.take (k + 1)) 0 = placesOf p (xs.take k) 0 ++ (if p x then [k] else []) := by
  have hl : k < xs.length := (List.getElem?_eq_some_iff.1 h).1
  rw [take_succ_at h, placesOf_append, List.length_take, Nat.min_eq_left (by omega)]
  simp only [placesOf, Nat.zero_add]
theorem placesOf_len {α : Type} (p : α → Bool) : ∀ (xs : List α) (k : Nat), (placesOf p xs k).length ≤ xs.length
  | [], _ => by simp [placesOf]
  | x :: xs, k => by
    have := placesOf_len p xs (k + 1)
    unfold placesOf
    split <;> simp <;> omega
theorem placesOf_mem {α : Type} {p : α → Bool} : ∀ {xs : List α} {k i : Nat}, i ∈ placesOf p xs k → k ≤ i ∧ ∃ x, xs[i - k]? = some x ∧ p x = true
  | [], _, _, h => by simp [placesOf] at h
  | x :: xs, k, i, h => by
    unfold placesOf at h
    by_cases hp : p x = true
    · rw [if_pos hp] at h
      rcases List.mem_cons.1 h with rfl | h
      · exact ⟨Nat.le_refl _, x, by simp, hp⟩
      · obtain ⟨h1, y, h2, h3⟩ := placesOf_mem h
        refine ⟨by omega, y, ?_, h3⟩
        rw [show i - k = (i - (k + 1)) + 1 by omega, List.getElem?_cons_succ]; exact h2
    · rw [if_neg hp] at h
      obtain ⟨h1, y, h2, h3⟩ := placesOf_mem h
      refine ⟨by omega, y, ?_, h3⟩
      rw [show i - k = (i - (k + 1)) + 1 by omega, List.getElem?_cons_succ]; exact h2
theorem placesOf_at {α : Type} {p : α → Bool} {xs : List α} {j i : Nat} (h : (placesOf p xs 0)[j]? = some i) : ∃ x, xs[i]? = some x ∧ p x = true := by
  obtain ⟨-, x, h2, h3⟩ := placesOf_mem (List.mem_of_getElem? h)
  exact ⟨x, h2, h3⟩
def hitAt {α : Type} (ys : List α) (q : α → Bool) (i : Nat) : Bool := (ys[i]?).any q
theorem placesOf_count {α : Type} (p q : α → Bool) (ys : List α) : ∀ (xs : List α) (k : Nat), (∀ j : Nat, xs[j]? = ys[k + j]?) → (placesOf p xs k).countP (hitAt ys q) = xs.countP (fun x => p x && q x)
  | [], _, _ => rfl
  | x :: xs, k, h => by
    have h0 : ys[k]? = some x := by have := h 0; simpa using this.symm
    have ih := placesOf_count p q ys xs (k + 1) fun j => by have := h (j + 1); simpa [Nat.add_assoc, Nat.add_comm 1 j] using this
    unfold placesOf
    rw [List.countP_cons]
    by_cases hp : p x = true
    · rw [if_pos hp, List.countP_cons, ih, hitAt, h0]
      simp [hp]
    · rw [if_neg hp, ih]
      simp [hp]
theorem placesOf_count0 {α : Type} (p q : α → Bool) (xs : List α) : (placesOf p xs 0).countP (hitAt xs q) = xs.countP (fun x => p x && q x) := placesOf_count p q xs xs 0 fun j => by simp
end Go.Proofs.Ytnmknkdbeccmhaa
