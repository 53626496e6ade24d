/- The order of names: byte by byte, a strict total order. -/
import Derived.Test.YtnmknkdbeccmhaaM1
namespace Go.Proofs.Ytnmknkdbeccmhaa
open Go.RowKit

theorem bl_tri : ∀ (x y : List UInt8), Op.bytesLess y x = !(Op.bytesLess x y || x == y)
  | [], [] => rfl
  | [], b :: y => by simp [Op.bytesLess]
  | a :: x, [] => by simp [Op.bytesLess]
  | a :: x, b :: y => by
    have ih := bl_tri x y
    simp only [Op.bytesLess]
    rw [ih]
    rcases Nat.lt_trichotomy a.toNat b.toNat with h | h | h
    · have h1 : a < b := UInt8.lt_iff_toNat_lt.2 h
      have h2 : ¬ b < a := fun h3 => by have := UInt8.lt_iff_toNat_lt.1 h3; omega
      have h4 : b ≠ a := fun h3 => by subst h3; omega
      simp [h1, h2, h4]
    · have h5 : a = b := UInt8.toNat_inj.1 h
      subst h5
      have h1 : ¬ a < a := fun h3 => by have := UInt8.lt_iff_toNat_lt.1 h3; omega
      simp [h1]
    · have h1 : b < a := UInt8.lt_iff_toNat_lt.2 h
      have h2 : ¬ a < b := fun h3 => by have := UInt8.lt_iff_toNat_lt.1 h3; omega
      have h4 : a ≠ b := fun h3 => by subst h3; omega
      simp [h1, h2, h4]
theorem bl_irr (x : List UInt8) : Op.bytesLess x x = false := by
  have := bl_tri x x
  cases h : Op.bytesLess x x with
  | false => rfl
  | true => rw [h] at this; simp at this
theorem bl_trans : ∀ {x y z : List UInt8}, Op.bytesLess x y = true → Op.bytesLess y z = true → Op.bytesLess x z = true
  | _, [], _, h1, _ => by cases ‹List UInt8› <;> simp [Op.bytesLess] at h1
  | _, _ :: _, [], _, h2 => by simp [Op.bytesLess] at h2
  | [], _ :: _, _ :: _, _, _ => by simp [Op.bytesLess]
  | a :: x, b :: y, c :: z, h1, h2 => by
    simp only [Op.bytesLess, Bool.or_eq_true, decide_eq_true_eq, Bool.and_eq_true, beq_iff_eq] at *
    rcases h1 with h1 | ⟨rfl, h1⟩ <;> rcases h2 with h2 | ⟨rfl, h2⟩
    · exact .inl (UInt8.lt_trans h1 h2)
    · exact .inl h1
    · exact .inl h2
    · exact .inr ⟨rfl, bl_trans h1 h2⟩
theorem le_of_lt {p s : ByteArray} (h : ltN p s = true) : (Op.bytesLess s.toList p.toList || s.toList == p.toList) = false := by
  have := bl_tri s.toList p.toList
  unfold ltN at h
  rw [h] at this
  revert this
  generalize (Op.bytesLess s.toList p.toList || s.toList == p.toList) = c
  cases c <;> simp
theorem le_of_not {p s : ByteArray} (h : ltN p s = false) : (Op.bytesLess s.toList p.toList || s.toList == p.toList) = true := by
  have := bl_tri s.toList p.toList
  unfold ltN at h
  rw [h] at this
  revert this
  generalize (Op.bytesLess s.toList p.toList || s.toList == p.toList) = c
  cases c <;> simp
theorem ahead_not (q x : Cpy) : ahead q x = !(Op.bytesLess x.service.toList q.service.toList || (x.service.toList == q.service.toList && decide (x.number ≤ q.number))) := by
  have h := bl_tri x.service.toList q.service.toList
  unfold ahead ltN eqN
  rw [h]
  have e : (q.service.toList == x.service.toList) = (x.service.toList == q.service.toList) := by rw [Bool.eq_iff_iff, beq_iff_eq, beq_iff_eq]; exact eq_comm
  have d : decide (q.number < x.number) = !decide (x.number ≤ q.number) := by rw [Bool.eq_iff_iff]; simp
  rw [e, d]
  cases h1 : (x.service.toList == q.service.toList) <;> cases h2 : Op.bytesLess x.service.toList q.service.toList <;> simp
  have h3 : x.service.toList = q.service.toList := by simpa using h1
  rw [h3, bl_irr] at h2
  simp at h2
theorem cpsOk_no {b : Book} {x : Cpy} {p : Option Cpy} {xs : List Cpy} (h : cpyOk b x = false) : cpsOk b p (x :: xs) = false := by cases p <;> simp [cpsOk, h]
end Go.Proofs.Ytnmknkdbeccmhaa
