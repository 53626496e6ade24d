/- Worlds: a book and the books that were, as plain data; what is ok; their measure. -/
import Derived.Test.YtnmknkdbeccmhaaM6
import Derived.Test.YtnmknkdbeccmhaaM3
namespace Go.Proofs.Ytnmknkdbeccmhaa
open Go.RowKit
set_option linter.unusedSimpArgs false

structure Wld where
  past : List Book
  book : Book
deriving DecidableEq
def pastOk (now : Int) : Option Book → List Book → Bool
  | _, [] => true
  | none, p :: ps => valid p && (decide (p.now ≤ now) && pastOk now (some p) ps)
  | some q, p :: ps => valid p && (decide (p.now ≤ now) && (decide (q.now ≤ p.now) && pastOk now (some p) ps))
def worldOk (w : Wld) : Bool := valid w.book && (decide (w.past.length ≤ 8) && pastOk w.book.now none w.past)

/-- A slice of books, each of whose own slices reads. -/
def BookCells (w : World) (bl o : Nat) (x : Book) : Prop := ∃ A1 c1 A2 c2 A3 c3, w.cell? ⟨bl, o, none⟩ = some (.int .i64 x.now) ∧ w.cell? ⟨bl, o + 1, none⟩ = some (.slice A1 x.svcs.length c1) ∧ w.cell? ⟨bl, o + 2, none⟩ = some (.slice A2 x.cps.length c2) ∧ w.cell? ⟨bl, o + 3, none⟩ = some (.slice A3 x.brs.length c3) ∧
  Rows 13 svcC w A1 x.svcs ∧ Rows 7 cpyC w A2 x.cps ∧ Rows 2 brtC w A3 x.brs
def BooksAt (w : World) (A : Option Addr) (xs : List Book) : Prop := xs ≠ [] → ∃ bl o, A = some ⟨bl, o, none⟩ ∧ ∀ (i : Nat) (x : Book), xs[i]? = some x → BookCells w bl (o + i * 4) x
theorem BookCells.below {w w' : World} {bl o : Nat} {x : Book} (h : BookCells w bl o x) (hb : Below w.heap.size w w') : BookCells w' bl o x := by
  obtain ⟨A1, c1, A2, c2, A3, c3, h0, h1, h2, h3, r1, r2, r3⟩ := h
  have k := fun (i : Nat) (v : Value) (hv : w.cell? ⟨bl, i, none⟩ = some v) => (hb.cell (p := ⟨bl, i, none⟩) (World.block_lt_of_cell? w _ hv)).trans hv
  exact ⟨A1, c1, A2, c2, A3, c3, k _ _ h0, k _ _ h1, k _ _ h2, k _ _ h3, r1.below hb, r2.below hb, r3.below hb⟩
theorem BooksAt.below {w w' : World} {A : Option Addr} {xs : List Book} (h : BooksAt w A xs) (hb : Below w.heap.size w w') : BooksAt w' A xs := fun hne => by
  obtain ⟨bl, o, e, hc⟩ := h hne
  exact ⟨bl, o, e, fun i x hx => (hc i x hx).below hb⟩
theorem BooksAt.at_ {w : World} {A : Option Addr} {xs : List Book} (h : BooksAt w A xs) {i : Nat} {x : Book} (hx : xs[i]? = some x) : ∃ bl o, A = some ⟨bl, o, none⟩ ∧ bl < w.heap.size ∧ BookCells w bl (o + i * 4) x := by
  obtain ⟨bl, o, e, hc⟩ := h (by rintro rfl; simp at hx)
  obtain ⟨A1, c1, A2, c2, A3, c3, h0, hr⟩ := hc i x hx
  exact ⟨bl, o, e, World.block_lt_of_cell? w _ h0, A1, c1, A2, c2, A3, c3, h0, hr⟩
/-- Its slices are of a size that no counter wraps at. -/
def Sized (b : Book) : Prop := b.svcs.length ≤ 2000000 ∧ b.cps.length ≤ 2000000 ∧ b.brs.length ≤ 2000000

def szWld (w : Wld) (l : Int) : Int := if szS szBook w.past l < 0 then -1 else if szBook w.book (szS szBook w.past l) < 0 then -1 else szBook w.book (szS szBook w.past l)
theorem szBook_le' (b : Book) (l : Int) (h : 0 ≤ l) : szBook b l ≤ l ∧ -1 ≤ szBook b l := ⟨(szBook_le b l h).1, (szBook_le b l h).2.1⟩
theorem szL_all {f : Book → Int → Int} (hf : ∀ x l, 0 ≤ l → f x l ≤ l ∧ -1 ≤ f x l) : ∀ (xs : List Book) (l : Int), 0 ≤ l → 0 ≤ szL f xs l → ∀ x ∈ xs, ∃ m, 0 ≤ m ∧ m ≤ l ∧ 0 ≤ f x m
  | [], _, _, _, x, hx => by simp at hx
  | y :: ys, l, hl, h, x, hx => by
    unfold szL at h
    split at h
    · omega
    · rcases List.mem_cons.1 hx with rfl | hm
      · exact ⟨l, hl, Int.le_refl _, by omega⟩
      · obtain ⟨m, h1, h2, h3⟩ := szL_all hf ys (f y l) (by omega) h x hm
        exact ⟨m, h1, by have := (hf y l hl).1; omega, h3⟩
theorem szWld_sized {w : Wld} {l : Int} (h0 : 0 ≤ l) (h1 : l ≤ 2000000) (h : 0 ≤ szWld w l) : (w.past.length : Int) ≤ l ∧ (∀ b ∈ w.past, Sized b) ∧ Sized w.book := by
  unfold szWld at h
  have hs := szS_le szBook_le' w.past l h0
  split at h
  · omega
  · rename_i hp
    split at h
    · omega
    · refine ⟨hs.2.2 (by omega), fun b hb => ?_, ?_⟩
      · have hl : 0 ≤ szL szBook w.past (l - w.past.length) := by
          unfold szS at hp
          split at hp
          · omega
          · omega
        have hll : 0 ≤ l - (w.past.length : Int) := by have := hs.2.2 (by omega); omega
        obtain ⟨m, m0, m1, m2⟩ := szL_all szBook_le' w.past _ hll hl b hb
        obtain ⟨-, -, hb3⟩ := szBook_le b m m0
        obtain ⟨q1, q2, q3⟩ := hb3 m2
        exact ⟨by omega, by omega, by omega⟩
      · obtain ⟨-, -, hb3⟩ := szBook_le w.book (szS szBook w.past l) (by omega)
        obtain ⟨q1, q2, q3⟩ := hb3 (by omega)
        exact ⟨by omega, by omega, by omega⟩
end Go.Proofs.Ytnmknkdbeccmhaa
