/- A region that draws its order: first operations that are quiet in a class of worlds (reads, arithmetic, calls that leave a world of the class), then a tail in one forced order (a store, an append). One walk in the order of the text serves every order. A region that draws its order and whose operations read and make memory, none of which is written again: whatever order comes up, each operation leaves what it is said to leave. -/
import Derived.Test.YtnmknkdbeccmhaaAp3
import Derived.StillTail
import Derived.Deep.Quiet
namespace Go.Proofs.Ytnmknkdbeccmhaa
open Go.RowKit

section
variable {P : Program} {ops : Array Oper} {md : Region.Mode} {C : World → Prop}

/-- Whatever order the first n operations come up in, they are quiet, and at their end L holds. -/
def HeadAny (P : Program) (md : Region.Mode) (ops : Array Oper) (C : World → Prop) (n : Nat) (L : Array Bool → Act → Prop) : Nat → Array Bool → Act → Prop
  | 0, d, a => L d a
  | f + 1, d, a => Region.ready md ops d ≠ [] ∧ ∀ j ∈ Region.ready md ops d, j < n ∧ qOp P ops C j (HeadAny P md ops C n L f (d.setIfInBounds j true)) a

theorem HeadAny.any {n g : Nat} {L : Array Bool → Act → Prop} {Q' : Exit → Act → World → Prop} (hL : ∀ d a w, C w → L d a → wpAny P md ops Q' g d a w) :
    ∀ (f : Nat) (d : Array Bool) (a : Act) (w : World), C w → HeadAny P md ops C n L f d a → wpAny P md ops Q' (f + g) d a w
  | 0, d, a, w, hw, h => by rw [Nat.zero_add]; exact hL _ _ _ hw h
  | f + 1, d, a, w, hw, h => by
    rw [Nat.add_right_comm]
    refine ⟨fun e => absurd e h.1, fun j hj => ?_⟩
    exact wpOp_of_qOp hw (fun a' w' hw' h' => HeadAny.any hL f _ a' w' hw' h') (h.2 j hj).2

/-- An operation of the head that may come up and yields the same in every world of the class may be taken first. -/
theorem HeadAny.first {n i : Nat} {o : Oper} {v : Value} {L : Array Bool → Act → Prop} (ho : ops[i]? = some o) (nosel : ∀ (j : Nat) (o : Oper) cs b, ops[j]? = some o → o.op ≠ .select cs b)
    (sink : Region.sinkB md ops n = true) (chain : Region.chainB md ops n = true) (hn : n < ops.size) (hi : i < n) (done : ∀ d a, L d a → ∀ j ∈ Region.ready md ops d, n ≤ j) :
    ∀ (f : Nat) (d : Array Bool) (a : Act), HeadInv md ops n d →
      (∀ j oj, ops[j]? = some oj → j ≠ i → d.getD j true = false → (∀ e ∈ oj.after, Region.binds md e = true → e.on ≠ i) → o.apart ops oj = true) →
      i ∈ Region.ready md ops d → YieldsIn P ops C o v a → HeadAny P md ops C n L f (d.setIfInBounds i true) (a.put o.dst v) → HeadAny P md ops C n L (f + 1) d a := by
  intro f
  induction f with
  | zero =>
    intro d a inv _ hr hy H
    refine ⟨List.ne_nil_of_mem hr, fun j hj => ?_⟩
    have lt : j < n := Nat.lt_of_not_le fun h => tail_waits sink chain hn inv _ i rfl hi (mem_ready.1 hr).1 j h hj
    by_cases e : j = i
    · subst e
      exact ⟨lt, hy.qOp ho H⟩
    · exact absurd (done _ _ H j (ready_mono hj e)) (by omega)
  | succ f ih =>
    intro d a inv free hr hy H
    have un := (mem_ready.1 hr).1
    refine ⟨List.ne_nil_of_mem hr, fun j hj => ?_⟩
    have lt : j < n := Nat.lt_of_not_le fun h => tail_waits sink chain hn inv _ i rfl hi un j h hj
    refine ⟨lt, ?_⟩
    by_cases e : j = i
    · subst e
      exact hy.qOp ho H
    · obtain ⟨jun, oj, hoj, all⟩ := mem_ready.1 hj
      have far : ∀ x ∈ oj.after, Region.binds md x = true → x.on ≠ i := by
        intro x hx hb hxi
        have h1 := all x hx hb
        rw [hxi, getD_both un] at h1
        cases h1
      have step := qOp_put hoj (free j oj hoj e jun far) (fun cs b => nosel i o cs b ho) (fun cs b => nosel j oj cs b hoj) hy (H.2 j (ready_mono hj e)).2
      refine qOp_mono (fun a' h' => ?_) step
      refine ih _ a' (inv.set hj lt) (fun k ok hk hki hun hno => free k ok hk hki ?_ hno) (ready_mono hr (Ne.symm e)) h'.1 ?_
      · by_cases hjk : j = k
        · subst hjk; exact jun
        · rwa [getD_set_ne true hjk] at hun
      · rw [Array.setIfInBounds_comm _ _ e]
        exact h'.2

theorem HeadAny.lex {n g : Nat} {Lq : Act → Prop} (hsel : Region.noSelect ops = true) (sink : Region.sinkB md ops n = true) (chain : Region.chainB md ops n = true) (hn : n < ops.size) :
    ∀ (l : List Oper) (k : Nat) (d : Array Bool) (a : Act), (∀ j, j < l.length → l[j]? = ops[k + j]?) → k + l.length = n → HeadInv md ops n d → Region.lexHead md ops g l.length k d = true → wpQuiet P ops C Lq l a →
    HeadAny P md ops C n (fun d' a' => Region.seqB md ops g n d' = true ∧ Lq a') l.length d a
  | [], k, d, a, _, hk, _, hB, h => by
    obtain rfl : k = n := by simpa using hk
    exact ⟨by simpa [Region.lexHead] using hB, h⟩
  | o :: l, k, d, a, hl, hk, inv, hB, h => by
    have h0 : ops[k]? = some o := by simpa using (hl 0 (by simp)).symm
    simp only [List.length_cons, Region.lexHead, Bool.and_eq_true] at hB
    have kn : k < n := by rw [List.length_cons] at hk; omega
    have hr : k ∈ Region.ready md ops d := by simpa using hB.1.1
    have hq : qOp P ops C k (wpQuiet P ops C Lq l) a := by unfold qOp; simp only [h0]; exact h
    obtain ⟨v, hy, hK⟩ := yieldsIn_of_qOp h0 hq
    have rest := HeadAny.lex hsel sink chain hn l (k + 1) _ _ (fun j hj => by have := hl (j + 1) (by simp; omega); simpa [Nat.add_assoc, Nat.add_comm 1 j] using this) (by rw [List.length_cons] at hk; omega) (inv.set hr kn) hB.2 hK
    exact HeadAny.first h0 (Region.noSelect_spec hsel) sink chain hn kn (fun d' a' hL => seqB_ready hL.1) l.length d a inv (Region.free_spec h0 hB.1.2) hr hy rest
end

/-- The law: a quiet head, then a tail. -/
theorem region_tail {P : Program} {C : World → Prop} {id : Nat} {Q : Exit → Act → World → Prop} {a : Act} {w : World} {l : List Oper} (n : Nat) (hm : P.follows .mixedOrders = true) (hB : Region.lexTailB .any l.toArray n = true)
    (hC : C { w with drawn := w.drawn + 1 }) (h : wpQuiet P l.toArray C (fun a' => ∀ w', C w' → wpList P l.toArray Q (l.drop n) a' w') (l.take n) a) : (Code.region id l.toArray true).wp P Q a w := by
  simp only [Region.lexTailB, Bool.and_eq_true, decide_eq_true_eq] at hB
  obtain ⟨⟨⟨⟨hsel, hn⟩, sink⟩, chain⟩, hlex⟩ := hB
  have hn' : n < l.length := by simpa using hn
  have tl : (l.take n).length = n := by simp; omega
  have dl : (l.drop n).length = l.toArray.size - n := by simp
  have inv0 : HeadInv .any l.toArray n (Array.replicate l.toArray.size false) :=
    ⟨by simp, fun j oj _ hl => (by rw [getD_replicate_false] at hl; cases hl), fun t _ ht => getD_in (by simpa using ht) (getD_replicate_false _ _)⟩
  have H := HeadAny.lex (md := .any) (C := C) (g := l.toArray.size - n) hsel sink chain hn (l.take n) 0 _ a (fun j hj => by
    have hj' : j < n := by rw [tl] at hj; exact hj
    simp [hj']) (by simpa using tl) inv0 (by rw [tl]; exact hlex) h
  have fin := HeadAny.any (Q' := Q) (g := l.toArray.size - n) (fun d a' w' hw' hL => by
    have := wpAny_of_seq (md := .any) (Q' := Q) (l.drop n) n d a' w' (fun j => by simp [List.getElem?_drop]) (by rw [dl]; exact hL.1) (hL.2 w' hw')
    rwa [dl] at this) _ _ _ _ hC H
  rw [tl, show n + (l.toArray.size - n) = l.toArray.size by omega] at fin
  exact wp_region_any hm fin
/-- The same at the class of the worlds that have grown out of W. -/
theorem region_quiet_tail {P : Program} {id : Nat} {Q : Exit → Act → World → Prop} {a : Act} {W w : World} {l : List Oper} (n : Nat) (hw : ∃ x, w = wplus W x) (hm : P.follows .mixedOrders = true) (hB : Region.lexTailB .any l.toArray n = true)
    (h : wpQuiet P l.toArray (fun w' => ∃ x, w' = wplus W x) (fun a' => ∀ w', (∃ x, w' = wplus W x) → wpList P l.toArray Q (l.drop n) a' w') (l.take n) a) : (Code.region id l.toArray true).wp P Q a w :=
  region_tail (C := fun w' => ∃ x, w' = wplus W x) n hm hB (by obtain ⟨x, rfl⟩ := hw; exact ⟨⟨x.e, x.d + 1⟩, rfl⟩) h
end Go.Proofs.Ytnmknkdbeccmhaa
namespace Go.Proofs.Ytnmknkdbeccmhaa
open Go.RowKit

def countOff (n : Nat) (d : Array Bool) : Nat := (List.range n).countP fun j => !(d.getD j true)
theorem countP_flip {p q : Nat → Bool} {i : Nat} : ∀ n : Nat, (∀ j, j ≠ i → q j = p j) → i < n → p i = true → q i = false → (List.range n).countP q + 1 = (List.range n).countP p
  | 0, _, h, _, _ => absurd h (Nat.not_lt_zero _)
  | n + 1, hj, h, hp, hq => by
    rw [List.range_succ, List.countP_append, List.countP_append]
    by_cases e : i = n
    · subst e
      have : (List.range i).countP q = (List.range i).countP p := List.countP_congr fun j hm => by rw [hj j (by have := List.mem_range.1 hm; omega)]
      simp [hp, hq, this]
    · have := countP_flip n hj (by omega) hp hq
      have hn := hj n (Ne.symm e)
      simp only [List.countP_cons, List.countP_nil, hn]
      omega
theorem countOff_set {n i : Nat} {d : Array Bool} (hs : d.size = n) (hi : i < n) (h : d.getD i true = false) : countOff n (d.setIfInBounds i true) + 1 = countOff n d := by
  refine countP_flip n (fun j hj => ?_) hi (by simp [h]) ?_
  · rw [getD_set_ne true (Ne.symm hj)]
  · simp [hs, hi]
/-- The invariant rule for a region in whatever order. -/
theorem any_inv {P : Program} {ops : Array Oper} {Q : Exit → Act → World → Prop} (I : Array Bool → Act → World → Prop)
    (step : ∀ d a w i, I d a w → i ∈ Region.ready .any ops d → wpOp P ops Q i (fun a' w' => I (d.setIfInBounds i true) a' w') a w)
    (fin : ∀ d a w, I d a w → d.size = ops.size → Region.ready .any ops d = [] → Q .normal a w) :
    ∀ (f : Nat) (d : Array Bool) (a : Act) (w : World), d.size = ops.size → countOff ops.size d = f → I d a w → wpAny P .any ops Q f d a w
  | 0, d, a, w, hs, hc, hI => by
    have hr : Region.ready .any ops d = [] := by
      rw [List.eq_nil_iff_forall_not_mem]
      intro j hj
      obtain ⟨h0, o, ho, -⟩ := mem_ready.1 hj
      have hl : j < ops.size := (Array.getElem?_eq_some_iff.1 ho).1
      have := List.countP_eq_zero.1 hc j (List.mem_range.2 hl)
      simp [h0] at this
    exact ⟨hr, fin d a w hI hs hr⟩
  | f + 1, d, a, w, hs, hc, hI => by
    refine ⟨fun hr => fin d a w hI hs hr, fun i hi => ?_⟩
    obtain ⟨h0, o, ho, -⟩ := mem_ready.1 hi
    have hl : i < ops.size := (Array.getElem?_eq_some_iff.1 ho).1
    have hc' := countOff_set hs hl h0
    exact wpOp_mono (fun a' w' h' => any_inv I step fin f _ a' w' (by simp [hs]) (by omega) h') (step d a w i hI hi)
/-- What each operation is said to leave stands on as memory grows. -/
def Stable (Φ : Nat → Value → World → Prop) : Prop := ∀ i v w w', Φ i v w → Grow w w' → Φ i v w'
/-- Each operation waits for earlier ones alone. -/
def earlyB (l : List Oper) : Bool := (List.range l.length).all fun i => match l[i]? with | none => true | some o => o.after.all fun e => decide (e.on < i)
theorem earlyB_spec {l : List Oper} (h : earlyB l = true) {i : Nat} {o : Oper} (ho : l[i]? = some o) : ∀ e ∈ o.after, e.on < i := by
  have hl : i < l.length := (List.getElem?_eq_some_iff.1 ho).1
  have h1 := List.all_eq_true.1 h i (List.mem_range.2 hl)
  rw [ho] at h1
  intro e he
  have := Array.all_eq_true'.1 h1 e he
  simpa using this
theorem all_listed {l : List Oper} (h : earlyB l = true) {d : Array Bool} (hs : d.size = l.length) (hr : Region.ready .any l.toArray d = []) : ∀ i, i < l.length → d.getD i true = true := by
  intro i
  induction i using Nat.strongRecOn with
  | _ i ih =>
    intro hi
    cases hq : d.getD i true with
    | true => rfl
    | false =>
      have hmem : i ∈ Region.ready .any l.toArray d := by
        refine mem_ready.2 ⟨hq, l[i], by simp [hi], fun e he hb => ?_⟩
        have lt := earlyB_spec h (List.getElem?_eq_getElem hi) e he
        have h1 := ih e.on lt (by omega)
        rw [Array.getD_eq_getD_getElem?] at h1 ⊢
        rw [Array.getElem?_eq_getElem (by omega)] at h1 ⊢
        exact h1
      rw [hr] at hmem
      cases hmem
/-- Operations that read and make: F lays the values into the frame; Φ is what operation i is said to leave. -/
theorem region_grow {P : Program} {id : Nat} {Q : Exit → Act → World → Prop} {a0 : Act} {W w : World} {l : List Oper} (Φ : Nat → Value → World → Prop) (F : (Nat → Value) → Act) (x0 : Nat → Value)
    (hm : P.follows .mixedOrders = true) (hg : l.all (fun o => o.guard.isNone) = true) (hE : earlyB l = true) (hw : Grow W w) (ha : a0 = F x0) (hΦ : Stable Φ)
    (hput : ∀ (i : Nat) (o : Oper) (x : Nat → Value) (v : Value), l[i]? = some o → (F x).put o.dst v = F (fun j => if j = i then v else x j))
    (step : ∀ (i : Nat) (o : Oper) (x : Nat → Value) (w : World), l[i]? = some o → Grow W w → (∀ e ∈ o.after, Region.binds .any e = true → Φ e.on (x e.on) w) →
      ∀ K : Act → World → Prop, (∀ v w', Grow w w' → Φ i v w' → K ((F x).put o.dst v) w') → o.wp P (F x) w K Q)
    (fin : ∀ (x : Nat → Value) (w' : World), Grow W w' → (∀ i, i < l.length → Φ i (x i) w') → Q .normal (F x) w') : (Code.region id l.toArray true).wp P Q a0 w := by
  refine wp_region_any hm ?_
  refine any_inv (fun d a w' => ∃ x, a = F x ∧ Grow W w' ∧ d.size = l.length ∧ ∀ i, i < l.length → d.getD i true = true → Φ i (x i) w') ?_ ?_ _ _ _ _ (by simp) ?_ ⟨x0, ha, hw.drew, by simp, fun i hi h => ?_⟩
  · rintro d a w' i ⟨x, rfl, hgw, hs, hall⟩ hi
    obtain ⟨h0, o, ho, hdep⟩ := mem_ready.1 hi
    have ho' : l[i]? = some o := by simpa using ho
    have hl : i < l.length := (List.getElem?_eq_some_iff.1 ho').1
    have hgd : o.guard = none := by
      have := List.all_eq_true.1 hg o (List.mem_of_getElem? ho')
      simpa using this
    have hst := step i o x w' ho' hgw fun e he hb => by
      have h1 := hdep e he hb
      have hle : e.on < l.length := by
        rcases Nat.lt_or_ge e.on d.size with h | h
        · omega
        · simp [Array.getElem?_eq_none h] at h1
      refine hall e.on hle ?_
      rw [Array.getD_eq_getD_getElem?] at h1 ⊢
      rw [Array.getElem?_eq_getElem (by omega)] at h1 ⊢
      exact h1
    unfold wpOp
    simp only [ho]
    rw [if_pos (by simp [Region.wanted, hgd])]
    refine .inl (hst _ fun v w'' hg2 hv => ?_)
    refine ⟨_, hput i o x v ho', hgw.trans hg2, by simp [hs], fun j hj hd => ?_⟩
    by_cases e : j = i
    · subst e
      simpa using hv
    · simp only [if_neg e]
      rw [getD_set_ne true (Ne.symm e)] at hd
      exact hΦ _ _ _ _ (hall j hj hd) hg2
  · rintro d a w' ⟨x, rfl, hgw, hs, hall⟩ hds hr
    exact fin x w' hgw fun i hi => hall i hi (all_listed hE hs hr i hi)
  · have : (List.range l.toArray.size).countP (fun j => !((Array.replicate l.toArray.size false).getD j true)) = (List.range l.toArray.size).length := List.countP_eq_length.2 fun j hj => by
      have := List.mem_range.1 hj
      simp at this
      simp [this]
    simpa [countOff] using this
  · simp [hi] at h
/-- The last one waits for all others itself. -/
def lastB (l : List Oper) (n : Nat) : Bool := match l[n]? with | none => false | some o => (List.range n).all fun j => o.after.any fun e => Region.binds .any e && e.on == j
theorem lastB_spec {l : List Oper} {n : Nat} {o : Oper} (h : lastB l n = true) (ho : l[n]? = some o) : ∀ j, j < n → ∃ e ∈ o.after, Region.binds .any e = true ∧ e.on = j := by
  intro j hj
  unfold lastB at h
  rw [ho] at h
  obtain ⟨e, he, h2⟩ := Array.any_eq_true'.1 (List.all_eq_true.1 h j (List.mem_range.2 hj))
  simp only [Bool.and_eq_true, beq_iff_eq] at h2
  exact ⟨e, he, h2.1, h2.2⟩
/-- The same, where the last operation may write. -/
theorem region_grow_tail {P : Program} {id : Nat} {Q : Exit → Act → World → Prop} {a0 : Act} {W w : World} {l : List Oper} {n : Nat} {last : Oper} (hn : l.length = n + 1) (hlast : l[n]? = some last) (hL : lastB l n = true) (Φ : Nat → Value → World → Prop) (F : (Nat → Value) → Act) (x0 : Nat → Value)
    (hm : P.follows .mixedOrders = true) (hg : l.all (fun o => o.guard.isNone) = true) (hE : earlyB l = true) (hw : Grow W w) (ha : a0 = F x0) (hΦ : Stable Φ)
    (hput : ∀ (i : Nat) (o : Oper) (x : Nat → Value) (v : Value), i < n → l[i]? = some o → (F x).put o.dst v = F (fun j => if j = i then v else x j))
    (step : ∀ (i : Nat) (o : Oper) (x : Nat → Value) (w : World), i < n → l[i]? = some o → Grow W w → (∀ e ∈ o.after, Region.binds .any e = true → Φ e.on (x e.on) w) →
      ∀ K : Act → World → Prop, (∀ v w', Grow w w' → Φ i v w' → K ((F x).put o.dst v) w') → o.wp P (F x) w K Q)
    (fin : ∀ (x : Nat → Value) (w' : World), Grow W w' → (∀ i, i < n → Φ i (x i) w') → ∀ K : Act → World → Prop, (∀ a' w'', Q .normal a' w'' → K a' w'') → last.wp P (F x) w' K Q) : (Code.region id l.toArray true).wp P Q a0 w := by
  refine wp_region_any hm ?_
  refine any_inv (fun d a w' => d.size = l.length ∧ ((d.getD n true = true ∧ (∀ j, j < n → d.getD j true = true) ∧ Q .normal a w') ∨ (d.getD n true = false ∧ ∃ x, a = F x ∧ Grow W w' ∧ ∀ i, i < n → d.getD i true = true → Φ i (x i) w'))) ?_ ?_ _ _ _ _ (by simp) ?_ ⟨by simp, .inr ⟨?_, x0, ha, hw.drew, fun i hi h => ?_⟩⟩
  · rintro d a w' i ⟨hs, hcase⟩ hi
    obtain ⟨h0, o, ho, hdep⟩ := mem_ready.1 hi
    have ho' : l[i]? = some o := by simpa using ho
    have hl : i < l.length := (List.getElem?_eq_some_iff.1 ho').1
    have hgd : o.guard = none := by
      have := List.all_eq_true.1 hg o (List.mem_of_getElem? ho')
      simpa using this
    have listed : ∀ e ∈ o.after, Region.binds .any e = true → e.on < l.length ∧ d.getD e.on true = true := fun e he hb => by
      have h1 := hdep e he hb
      have hle : e.on < l.length := by
        rcases Nat.lt_or_ge e.on d.size with h | h
        · omega
        · simp [Array.getElem?_eq_none h] at h1
      refine ⟨hle, ?_⟩
      rw [Array.getD_eq_getD_getElem?] at h1 ⊢
      rw [Array.getElem?_eq_getElem (by omega)] at h1 ⊢
      exact h1
    have hnl : d.getD n true = false := by
      rcases Nat.lt_or_ge i n with hin | hin
      · cases hq : d.getD n true with
        | false => rfl
        | true =>
          rcases hcase with ⟨-, h3, -⟩ | ⟨h2, -⟩
          · have := h3 i hin
            rw [h0] at this; cases this
          · rw [hq] at h2; cases h2
      · have : i = n := by omega
        rw [← this]; exact h0
    rcases hcase with ⟨h2, -⟩ | ⟨-, x, rfl, hgw, hall⟩
    · rw [hnl] at h2; cases h2
    · by_cases e : i = n
      · subst e
        have e2 : o = last := Option.some.inj (ho'.symm.trans hlast)
        subst e2
        have hst := fin x w' hgw fun j hj => by
          obtain ⟨e, he, hb, rfl⟩ := lastB_spec hL hlast j hj
          exact hall _ hj (listed e he hb).2
        unfold wpOp
        simp only [ho]
        rw [if_pos (by simp [Region.wanted, hgd])]
        exact .inl (hst _ (fun a' w'' h' => ⟨by simp [hs], .inl ⟨by simp [hs, hl], fun j hj => by
          rw [getD_set_ne true (by omega)]
          obtain ⟨e, he, hb, rfl⟩ := lastB_spec hL hlast j hj
          exact (listed e he hb).2, h'⟩⟩))
      · have hin : i < n := by omega
        have hst := step i o x w' hin ho' hgw fun e he hb => hall _ (by have := earlyB_spec hE ho' e he; omega) (listed e he hb).2
        unfold wpOp
        simp only [ho]
        rw [if_pos (by simp [Region.wanted, hgd])]
        refine .inl (hst _ fun v w'' hg2 hv => ?_)
        refine ⟨by simp [hs], .inr ⟨by rw [getD_set_ne true e]; exact hnl, _, hput i o x v hin ho', hgw.trans hg2, fun j hj hd => ?_⟩⟩
        by_cases e' : j = i
        · subst e'
          simpa using hv
        · simp only [if_neg e']
          rw [getD_set_ne true (Ne.symm e')] at hd
          exact hΦ _ _ _ _ (hall j hj hd) hg2
  · rintro d a w' ⟨hs, hcase⟩ hds hr
    rcases hcase with ⟨-, -, h2⟩ | ⟨h2, -⟩
    · exact h2
    · have := all_listed hE hs hr n (by omega)
      rw [h2] at this; cases this
  · have : (List.range l.toArray.size).countP (fun j => !((Array.replicate l.toArray.size false).getD j true)) = (List.range l.toArray.size).length := List.countP_eq_length.2 fun j hj => by
      have := List.mem_range.1 hj
      simp at this
      simp [this]
    simpa [countOff] using this
  · simp [hn]
  · simp [show i < l.length by omega] at h
end Go.Proofs.Ytnmknkdbeccmhaa
