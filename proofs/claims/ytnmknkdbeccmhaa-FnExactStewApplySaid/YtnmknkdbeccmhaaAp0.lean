/- The plain words of the fleet: services, copies, berths, books, acts, events, worlds, as Lean data. No program in sight. How many letters and places plain data hold: what the laws ask first. -/
import Derived.RowKit
import Derived.Below
namespace Go.Proofs.Ytnmknkdbeccmhaa
open Go.RowKit

structure Svc where
  name : ByteArray
  version : Int
  gone : Bool
  image : Int
  want : Int
  down : Int
  over : Int
  next : Int
  per : Int
  least : Int
  most : Int
  load : Int
  cool : Int
deriving DecidableEq

structure Cpy where
  service : ByteArray
  number : Int
  version : Int
  image : Int
  state : Int
  ending : Bool
  berth : ByteArray
deriving DecidableEq

structure Brt where
  name : ByteArray
  drain : Bool
deriving DecidableEq

structure Book where
  now : Int
  svcs : List Svc
  cps : List Cpy
  brs : List Brt
deriving DecidableEq

/-! the cells of an element, as they lie in memory -/
def svcC (s : Svc) : List Value := [.string s.name, .int .i64 s.version, .bool s.gone, .int .i64 s.image, .int .i64 s.want, .int .i64 s.down, .int .i64 s.over, .int .i64 s.next, .int .i64 s.per, .int .i64 s.least, .int .i64 s.most, .int .i64 s.load, .int .i64 s.cool]
def cpyC (c : Cpy) : List Value := [.string c.service, .int .i64 c.number, .int .i64 c.version, .int .i64 c.image, .int .i64 c.state, .bool c.ending, .string c.berth]
def brtC (x : Brt) : List Value := [.string x.name, .bool x.drain]

/-- The slice at A reads as xs, each element of n cells. -/
def Rows {α : Type} (n : Nat) (cs : α → List Value) (w : World) (A : Option Addr) (xs : List α) : Prop :=
  xs ≠ [] → ∃ b o, A = some ⟨b, o, none⟩ ∧ ∀ i x, xs[i]? = some x → ∀ j u, (cs x)[j]? = some u → w.cell? ⟨b, o + i * n + j, none⟩ = some u

section
variable {α : Type} {n : Nat} {cs : α → List Value} {w w' : World} {A : Option Addr} {xs : List α}
theorem Rows.at_ (h : Rows n cs w A xs) {i : Nat} {x : α} (hx : xs[i]? = some x) : ∃ b o, A = some ⟨b, o, none⟩ ∧ ∀ j u, (cs x)[j]? = some u → w.cell? ⟨b, o + i * n + j, none⟩ = some u := by
  obtain ⟨b, o, e, hc⟩ := h (by rintro rfl; simp at hx)
  exact ⟨b, o, e, hc i x hx⟩
theorem Rows.nil (A : Option Addr) : Rows n cs w A [] := fun h => absurd rfl h
theorem Rows.below (h : Rows n cs w A xs) (hb : Below w.heap.size w w') : Rows n cs w' A xs := fun hne => by
  obtain ⟨b, o, e, hc⟩ := h hne
  exact ⟨b, o, e, fun i x hx j u hu => (hb.cell (World.block_lt_of_cell? w _ (hc i x hx j u hu))).trans (hc i x hx j u hu)⟩
end

theorem svc_at {w : World} {A : Option Addr} {xs : List Svc} (h : Rows 13 svcC w A xs) {i : Nat} {x : Svc} (hx : xs[i]? = some x) :
    ∃ b o, A = some ⟨b, o, none⟩ ∧ b < w.heap.size ∧ w.cell? ⟨b, o + i * 13, none⟩ = some (.string x.name) ∧ w.cell? ⟨b, o + i * 13 + 1, none⟩ = some (.int .i64 x.version) ∧ w.cell? ⟨b, o + i * 13 + 2, none⟩ = some (.bool x.gone) ∧
      w.cell? ⟨b, o + i * 13 + 3, none⟩ = some (.int .i64 x.image) ∧ w.cell? ⟨b, o + i * 13 + 4, none⟩ = some (.int .i64 x.want) ∧ w.cell? ⟨b, o + i * 13 + 5, none⟩ = some (.int .i64 x.down) ∧ w.cell? ⟨b, o + i * 13 + 6, none⟩ = some (.int .i64 x.over) ∧
      w.cell? ⟨b, o + i * 13 + 7, none⟩ = some (.int .i64 x.next) ∧ w.cell? ⟨b, o + i * 13 + 8, none⟩ = some (.int .i64 x.per) ∧ w.cell? ⟨b, o + i * 13 + 9, none⟩ = some (.int .i64 x.least) ∧ w.cell? ⟨b, o + i * 13 + 10, none⟩ = some (.int .i64 x.most) ∧
      w.cell? ⟨b, o + i * 13 + 11, none⟩ = some (.int .i64 x.load) ∧ w.cell? ⟨b, o + i * 13 + 12, none⟩ = some (.int .i64 x.cool) := by
  obtain ⟨b, o, e, hc⟩ := h.at_ hx
  exact ⟨b, o, e, World.block_lt_of_cell? w _ (hc 0 _ rfl), hc 0 _ rfl, hc 1 _ rfl, hc 2 _ rfl, hc 3 _ rfl, hc 4 _ rfl, hc 5 _ rfl, hc 6 _ rfl, hc 7 _ rfl, hc 8 _ rfl, hc 9 _ rfl, hc 10 _ rfl, hc 11 _ rfl, hc 12 _ rfl⟩
theorem cpy_at {w : World} {A : Option Addr} {xs : List Cpy} (h : Rows 7 cpyC w A xs) {i : Nat} {x : Cpy} (hx : xs[i]? = some x) :
    ∃ b o, A = some ⟨b, o, none⟩ ∧ b < w.heap.size ∧ w.cell? ⟨b, o + i * 7, none⟩ = some (.string x.service) ∧ w.cell? ⟨b, o + i * 7 + 1, none⟩ = some (.int .i64 x.number) ∧ w.cell? ⟨b, o + i * 7 + 2, none⟩ = some (.int .i64 x.version) ∧
      w.cell? ⟨b, o + i * 7 + 3, none⟩ = some (.int .i64 x.image) ∧ w.cell? ⟨b, o + i * 7 + 4, none⟩ = some (.int .i64 x.state) ∧ w.cell? ⟨b, o + i * 7 + 5, none⟩ = some (.bool x.ending) ∧ w.cell? ⟨b, o + i * 7 + 6, none⟩ = some (.string x.berth) := by
  obtain ⟨b, o, e, hc⟩ := h.at_ hx
  exact ⟨b, o, e, World.block_lt_of_cell? w _ (hc 0 _ rfl), hc 0 _ rfl, hc 1 _ rfl, hc 2 _ rfl, hc 3 _ rfl, hc 4 _ rfl, hc 5 _ rfl, hc 6 _ rfl⟩
theorem brt_at {w : World} {A : Option Addr} {xs : List Brt} (h : Rows 2 brtC w A xs) {i : Nat} {x : Brt} (hx : xs[i]? = some x) :
    ∃ b o, A = some ⟨b, o, none⟩ ∧ b < w.heap.size ∧ w.cell? ⟨b, o + i * 2, none⟩ = some (.string x.name) ∧ w.cell? ⟨b, o + i * 2 + 1, none⟩ = some (.bool x.drain) := by
  obtain ⟨b, o, e, hc⟩ := h.at_ hx
  exact ⟨b, o, e, World.block_lt_of_cell? w _ (hc 0 _ rfl), hc 0 _ rfl, hc 1 _ rfl⟩
end Go.Proofs.Ytnmknkdbeccmhaa
namespace Go.Proofs.Ytnmknkdbeccmhaa
open Go.RowKit

def szSvc (s : Svc) (l : Int) : Int := if l - s.name.size < 0 then -1 else l - s.name.size
def szCpy (c : Cpy) (l : Int) : Int := if l - c.service.size < 0 then -1 else if l - c.service.size - c.berth.size < 0 then -1 else l - c.service.size - c.berth.size
def szBrt (x : Brt) (l : Int) : Int := if l - x.name.size < 0 then -1 else l - x.name.size
def szL {α : Type} (f : α → Int → Int) : List α → Int → Int
  | [], l => l
  | x :: xs, l => if f x l < 0 then -1 else szL f xs (f x l)
def szS {α : Type} (f : α → Int → Int) (xs : List α) (l : Int) : Int := if l - xs.length < 0 then -1 else szL f xs (l - xs.length)
def szBook (b : Book) (l : Int) : Int :=
  if szS szSvc b.svcs l < 0 then -1 else if szS szCpy b.cps (szS szSvc b.svcs l) < 0 then -1 else if szS szBrt b.brs (szS szCpy b.cps (szS szSvc b.svcs l)) < 0 then -1 else szS szBrt b.brs (szS szCpy b.cps (szS szSvc b.svcs l))
theorem szSvc_le (s : Svc) (l : Int) (h : 0 ≤ l) : szSvc s l ≤ l ∧ -1 ≤ szSvc s l := by unfold szSvc; split <;> omega
theorem szCpy_le (s : Cpy) (l : Int) (h : 0 ≤ l) : szCpy s l ≤ l ∧ -1 ≤ szCpy s l := by unfold szCpy; split <;> (try split) <;> omega
theorem szBrt_le (s : Brt) (l : Int) (h : 0 ≤ l) : szBrt s l ≤ l ∧ -1 ≤ szBrt s l := by unfold szBrt; split <;> omega
theorem szL_le {α : Type} {f : α → Int → Int} (hf : ∀ x l, 0 ≤ l → f x l ≤ l ∧ -1 ≤ f x l) : ∀ (xs : List α) (l : Int), 0 ≤ l → szL f xs l ≤ l ∧ -1 ≤ szL f xs l
  | [], l, h => by simp [szL]; omega
  | x :: xs, l, h => by
    unfold szL
    have := hf x l h
    split
    · omega
    · have := szL_le hf xs (f x l) (by omega); omega
theorem szS_le {α : Type} {f : α → Int → Int} (hf : ∀ x l, 0 ≤ l → f x l ≤ l ∧ -1 ≤ f x l) (xs : List α) (l : Int) (h : 0 ≤ l) : szS f xs l ≤ l ∧ -1 ≤ szS f xs l ∧ (0 ≤ szS f xs l → (xs.length : Int) ≤ l) := by
  unfold szS
  split
  · omega
  · have := szL_le hf xs (l - xs.length) (by omega); omega
theorem szBook_le (b : Book) (l : Int) (h : 0 ≤ l) : szBook b l ≤ l ∧ -1 ≤ szBook b l ∧ (0 ≤ szBook b l → (b.svcs.length : Int) ≤ l ∧ (b.cps.length : Int) ≤ l ∧ (b.brs.length : Int) ≤ l) := by
  unfold szBook
  have h1 := szS_le szSvc_le b.svcs l h
  split
  · omega
  · have h2 := szS_le szCpy_le b.cps (szS szSvc b.svcs l) (by omega)
    split
    · omega
    · have h3 := szS_le szBrt_le b.brs (szS szCpy b.cps (szS szSvc b.svcs l)) (by omega)
      split <;> omega
end Go.Proofs.Ytnmknkdbeccmhaa
