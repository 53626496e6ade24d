/- How many letters and places plain data hold: what the laws ask first. -/
import Derived.Test.YtnmknkdbeccmhaaM0
namespace Go.Proofs.Ytnmknkdbeccmhaa
open Go.RowKit

def szSvc (s : Svc) (l : Int) : Int := if l - s.name.size < 0 then -1 else l - s.name.size
def szCpy (c : Cpy) (l : Int) : Int := if l - c.service.size < 0 then -1 else if l - c.service.size - c.berth.size < 0 then -1 else l - c.service.size - c.berth.size
def szBrt (x : Brt) (l : Int) : Int := if l - x.name.size < 0 then -1 else l - x.name.size
def szL {α : Type} (f : α → Int → Int) : List α → Int → Int
  | [], l => l
  | x :: xs, l => if f x l < 0 then -1 else szL f xs (f x l)
def szS {α : Type} (f : α → Int → Int) (xs : List α) (l : Int) : Int := if l - xs.length < 0 then -1 else szL f xs (l - xs.length)
def szBook (b : Book) (l : Int) : Int :=
  if szS szSvc b.svcs l < 0 then -1 else if szS szCpy b.cps (szS szSvc b.svcs l) < 0 then -1 else if szS szBrt b.brs (szS szCpy b.cps (szS szSvc b.svcs l)) < 0 then -1 else szS szBrt b.brs (szS szCpy b.cps (szS szSvc b.svcs l))
theorem szSvc_le (s : Svc) (l : Int) (h : 0 ≤ l) : szSvc s l ≤ l ∧ -1 ≤ szSvc s l := by unfold szSvc; split <;> omega
theorem szCpy_le (s : Cpy) (l : Int) (h : 0 ≤ l) : szCpy s l ≤ l ∧ -1 ≤ szCpy s l := by unfold szCpy; split <;> (try split) <;> omega
theorem szBrt_le (s : Brt) (l : Int) (h : 0 ≤ l) : szBrt s l ≤ l ∧ -1 ≤ szBrt s l := by unfold szBrt; split <;> omega
theorem szL_le {α : Type} {f : α → Int → Int} (hf : ∀ x l, 0 ≤ l → f x l ≤ l ∧ -1 ≤ f x l) : ∀ (xs : List α) (l : Int), 0 ≤ l → szL f xs l ≤ l ∧ -1 ≤ szL f xs l
  | [], l, h => by simp [szL]; omega
  | x :: xs, l, h => by
    unfold szL
    have := hf x l h
    split
    · omega
    · have := szL_le hf xs (f x l) (by omega); omega
theorem szS_le {α : Type} {f : α → Int → Int} (hf : ∀ x l, 0 ≤ l → f x l ≤ l ∧ -1 ≤ f x l) (xs : List α) (l : Int) (h : 0 ≤ l) : szS f xs l ≤ l ∧ -1 ≤ szS f xs l ∧ (0 ≤ szS f xs l → (xs.length : Int) ≤ l) := by
  unfold szS
  split
  · omega
  · have := szL_le hf xs (l - xs.length) (by omega); omega
theorem szBook_le (b : Book) (l : Int) (h : 0 ≤ l) : szBook b l ≤ l ∧ -1 ≤ szBook b l ∧ (0 ≤ szBook b l → (b.svcs.length : Int) ≤ l ∧ (b.cps.length : Int) ≤ l ∧ (b.brs.length : Int) ≤ l) := by
  unfold szBook
  have h1 := szS_le szSvc_le b.svcs l h
  split
  · omega
  · have h2 := szS_le szCpy_le b.cps (szS szSvc b.svcs l) (by omega)
    split
    · omega
    · have h3 := szS_le szBrt_le b.brs (szS szCpy b.cps (szS szSvc b.svcs l)) (by omega)
      split <;> omega
end Go.Proofs.Ytnmknkdbeccmhaa
