/- A region in whatever order, of reads, makes and appends, each append to what an earlier operation left; at its end one operation that waits for all. And a loop that counts. -/
import Derived.Test.YtnmknkdbeccmhaaAp6
import Derived.Test.YtnmknkdbeccmhaaAp9
import Derived.Test.YtnmknkdbeccmhaaAp16
import Derived.Maps.AppendAt
namespace Go.Proofs.Ytnmknkdbeccmhaa
open Go.RowKit
set_option linter.unusedSimpArgs false
set_option linter.unusedVariables false

/-- What the operations leave: Φ; those that are 'made' hold a row of their own, which stands while its block does. -/
structure Kinds (W : World) (Φ : Nat → Value → World → Prop) (made : Nat → Bool) : Prop where
  still : ∀ i v w w', made i = false → Φ i v w → Φ i v w'
  kept : ∀ i v w w' r, made i = true → Φ i v w → w.grownBy w' r → (v.ownBlock = none ∨ v.ownBlock ≠ r) → Φ i v w'
  lt : ∀ i v w k, made i = true → Φ i v w → v.ownBlock = some k → W.heap.size ≤ k ∧ k < w.heap.size
/-- No operation but i writes over what j left. -/
def soleB (eats : Nat → Option Nat) (n j i : Nat) : Bool := (List.range n).all fun k => eats k != some j || k == i
theorem soleB_spec {eats : Nat → Option Nat} {n j i : Nat} (h : soleB eats n j i = true) : ∀ k, k < n → eats k = some j → k = i := fun k hk he => by
  have := List.all_eq_true.1 h k (List.mem_range.2 hk)
  simpa [he] using this
/-- An operation that writes over waits for what it writes over; it alone does so; what it writes over is made. -/
def eatsB (l : List Oper) (eats : Nat → Option Nat) (made : Nat → Bool) (n : Nat) : Bool := (List.range n).all fun i => match eats i with
  | none => true
  | some j => (match l[i]? with | none => false | some o => o.after.any fun e => Region.binds .any e && e.on == j) && (soleB eats n j i && (made j && (decide (j < n) && decide (j ≠ i))))
theorem eatsB_spec {l : List Oper} {eats : Nat → Option Nat} {made : Nat → Bool} {n i j : Nat} {o : Oper} (h : eatsB l eats made n = true) (hi : i < n) (ho : l[i]? = some o) (he : eats i = some j) : (∃ e ∈ o.after, Region.binds .any e = true ∧ e.on = j) ∧ soleB eats n j i = true ∧ made j = true ∧ j < n ∧ j ≠ i := by
  have h1 := List.all_eq_true.1 h i (List.mem_range.2 hi)
  simp only [he, ho, Bool.and_eq_true, decide_eq_true_eq] at h1
  obtain ⟨h2, h3, h4, h5, h6⟩ := h1
  obtain ⟨e, hm, h7⟩ := Array.any_eq_true'.1 h2
  simp only [Bool.and_eq_true, beq_iff_eq] at h7
  exact ⟨⟨e, hm, h7.1, h7.2⟩, h3, h4, h5, h6⟩
theorem region_chain {P : Program} {id : Nat} {Q : Exit → Act → World → Prop} {a0 : Act} {W w : World} {l : List Oper} {n : Nat} {last : Oper} (made : Nat → Bool) (eats : Nat → Option Nat) (hn : l.length = n + 1) (hlast : l[n]? = some last) (hL : lastB l n = true) (Φ : Nat → Value → World → Prop) (F : (Nat → Value) → Act) (x0 : Nat → Value)
    (hm : P.follows .mixedOrders = true) (hg : l.all (fun o => o.guard.isNone) = true) (hE : earlyB l = true) (hT : eatsB l eats made n = true) (hw : Grow W w) (ha : a0 = F x0) (hΦ : Kinds W Φ made)
    (hput : ∀ (i : Nat) (o : Oper) (x : Nat → Value) (v : Value), i < n → l[i]? = some o → (F x).put o.dst v = F (fun j => if j = i then v else x j))
    (step : ∀ (i : Nat) (o : Oper) (x : Nat → Value) (w : World), i < n → l[i]? = some o → Grow W w → (∀ e ∈ o.after, Region.binds .any e = true → soleB eats n e.on i = true → Φ e.on (x e.on) w) →
      ∀ K : Act → World → Prop, (∀ v w' r, w.grownBy w' r → (r = none ∨ ∃ j, eats i = some j ∧ r = (x j).ownBlock) → Φ i v w' → (made i = true → v.ownBlock = none ∨ v.ownBlock = r ∨ ∀ k, v.ownBlock = some k → w.heap.size ≤ k) → K ((F x).put o.dst v) w') → o.wp P (F x) w K Q)
    (fin : ∀ (x : Nat → Value) (w' : World), Grow W w' → (∀ i, i < n → (∀ j, j < n → eats j ≠ some i) → Φ i (x i) w') → ∀ K : Act → World → Prop, (∀ a' w'', Q .normal a' w'' → K a' w'') → last.wp P (F x) w' K Q) : (Code.region id l.toArray true).wp P Q a0 w := by
  refine wp_region_any hm ?_
  refine any_inv (fun d a w' => d.size = l.length ∧ ((d.getD n true = true ∧ (∀ j, j < n → d.getD j true = true) ∧ Q .normal a w') ∨ (d.getD n true = false ∧ ∃ x, a = F x ∧ Grow W w' ∧
    (∀ i, i < n → d.getD i true = true → (∀ j, j < n → eats j = some i → d.getD j true = false) → Φ i (x i) w') ∧
    (∀ i j, i < n → j < n → i ≠ j → d.getD i true = true → d.getD j true = true → made i = true → made j = true → (∀ k, k < n → eats k = some i → d.getD k true = false) → (∀ k, k < n → eats k = some j → d.getD k true = false) → (x i).ownBlock = none ∨ (x i).ownBlock ≠ (x j).ownBlock)))) ?_ ?_ _ _ _ _ (by simp) ?_ ⟨by simp, .inr ⟨?_, x0, ha, hw.drew, fun i hi h => ?_, fun i j hi hj hij h => ?_⟩⟩
  · rintro d a w' i ⟨hs, hcase⟩ hi
    obtain ⟨h0, o, ho, hdep⟩ := mem_ready.1 hi
    have ho' : l[i]? = some o := by simpa using ho
    have hl : i < l.length := (List.getElem?_eq_some_iff.1 ho').1
    have hgd : o.guard = none := by
      have := List.all_eq_true.1 hg o (List.mem_of_getElem? ho')
      simpa using this
    have listed : ∀ e ∈ o.after, Region.binds .any e = true → e.on < l.length ∧ d.getD e.on true = true := fun e he hb => by
      have h1 := hdep e he hb
      have hle : e.on < l.length := by
        rcases Nat.lt_or_ge e.on d.size with h | h
        · omega
        · simp [Array.getElem?_eq_none h] at h1
      refine ⟨hle, ?_⟩
      rw [Array.getD_eq_getD_getElem?] at h1 ⊢
      rw [Array.getElem?_eq_getElem (by omega)] at h1 ⊢
      exact h1
    have hnl : d.getD n true = false := by
      rcases Nat.lt_or_ge i n with hin | hin
      · cases hq : d.getD n true with
        | false => rfl
        | true =>
          rcases hcase with ⟨-, h3, -⟩ | ⟨h2, -⟩
          · have := h3 i hin
            rw [h0] at this; cases this
          · rw [hq] at h2; cases h2
      · have : i = n := by omega
        rw [← this]; exact h0
    rcases hcase with ⟨h2, -⟩ | ⟨-, x, rfl, hgw, hall, hsep⟩
    · rw [hnl] at h2; cases h2
    · by_cases e : i = n
      · subst e
        have e2 : o = last := Option.some.inj (ho'.symm.trans hlast)
        subst e2
        have hst := fin x w' hgw fun j hj hne => by
          obtain ⟨e, he, hb, rfl⟩ := lastB_spec hL hlast j hj
          exact hall _ hj (listed e he hb).2 fun k hk hek => absurd hek (hne k hk)
        unfold wpOp
        simp only [ho]
        rw [if_pos (by simp [Region.wanted, hgd])]
        exact .inl (hst _ (fun a' w'' h' => ⟨by simp [hs], .inl ⟨by simp [hs, hl], fun j hj => by
          rw [getD_set_ne true (by omega)]
          obtain ⟨e, he, hb, rfl⟩ := lastB_spec hL hlast j hj
          exact (listed e he hb).2, h'⟩⟩))
      · have hin : i < n := by omega
        have fresh : ∀ j, soleB eats n j i = true → ∀ k, k < n → eats k = some j → d.getD k true = false := fun j hj k hk hek => by
          have := soleB_spec hj k hk hek
          subst this
          exact h0
        have hst := step i o x w' hin ho' hgw fun e he hb hso => hall _ (by have := earlyB_spec hE ho' e he; omega) (listed e he hb).2 (fresh _ hso)
        unfold wpOp
        simp only [ho]
        rw [if_pos (by simp [Region.wanted, hgd])]
        refine .inl (hst _ fun v w'' r hg2 hr hv hown => ?_)
        -- what the one that is written over is
        have eaten : ∀ j, eats i = some j → d.getD j true = true ∧ (∀ k, k < n → eats k = some j → d.getD k true = false) ∧ made j = true ∧ j < n ∧ j ≠ i := fun j hj => by
          obtain ⟨⟨e, he, hb, e2⟩, h2, h3, h4, h5⟩ := eatsB_spec hT hin ho' hj
          exact ⟨by rw [← e2]; exact (listed e he hb).2, fresh _ h2, h3, h4, h5⟩
        have hgr : Grow W w'' := by
          rcases hr with rfl | ⟨j, hj, rfl⟩
          · exact Grow.grown hgw hg2 fun k hk => by cases hk
          · obtain ⟨q1, q2, q3, q4, -⟩ := eaten j hj
            exact Grow.grown hgw hg2 fun k hk => (hΦ.lt j (x j) w' k q3 (hall j q4 q1 q2) hk).1
        -- others are apart from what is written
        have apart : ∀ j, j < n → d.getD j true = true → (∀ k, k < n → eats k = some j → d.getD k true = false) → eats i ≠ some j → made j = true → (x j).ownBlock = none ∨ (x j).ownBlock ≠ r := fun j hj hd hu hne hmj => by
          rcases hr with rfl | ⟨j0, hj0, rfl⟩
          · by_cases q : (x j).ownBlock = none
            · exact .inl q
            · exact .inr q
          · obtain ⟨q1, q2, q3, q4, -⟩ := eaten j0 hj0
            have hjj : j ≠ j0 := fun e => hne (e ▸ hj0)
            exact hsep j j0 hj q4 hjj hd q1 hmj q3 hu q2
        have undo : ∀ j, j < n → j ≠ i → (d.setIfInBounds i true).getD j true = true → d.getD j true = true := fun j hj hji h => by
          rwa [getD_set_ne true (Ne.symm hji)] at h
        have uneat : ∀ j, (∀ k, k < n → eats k = some j → (d.setIfInBounds i true).getD k true = false) → (∀ k, k < n → eats k = some j → d.getD k true = false) ∧ eats i ≠ some j := fun j h => by
          have hne : eats i ≠ some j := fun e => by
            have := h i hin e
            rw [Array.getD_eq_getD_getElem?, Array.getElem?_setIfInBounds_self_of_lt (by omega)] at this
            cases this
          refine ⟨fun k hk hek => ?_, hne⟩
          have := h k hk hek
          rwa [getD_set_ne true (by rintro rfl; exact hne hek)] at this
        refine ⟨by simp [hs], .inr ⟨by rw [getD_set_ne true e]; exact hnl, _, hput i o x v hin ho', hgr, fun j hj hd hu => ?_, fun j k hj hk hjk hdj hdk hmj hmk huj huk => ?_⟩⟩
        · by_cases e' : j = i
          · subst e'
            simpa using hv
          · simp only [if_neg e']
            obtain ⟨hu1, hne⟩ := uneat j hu
            have hd' := undo j hj e' hd
            have hold := hall j hj hd' hu1
            cases hmj : made j with
            | false => exact hΦ.still j _ _ _ hmj hold
            | true => exact hΦ.kept j _ _ _ r hmj hold hg2 (apart j hj hd' hu1 hne hmj)
        · by_cases ej : j = i
          · subst ej
            have ek : k ≠ j := Ne.symm hjk
            simp only [if_true, if_neg ek]
            obtain ⟨hu1, hne⟩ := uneat k huk
            have hd' := undo k hk ek hdk
            rcases hown hmj with q | q | q
            · exact .inl q
            · rcases apart k hk hd' hu1 hne hmk with p | p
              · by_cases h : v.ownBlock = none
                · exact .inl h
                · exact .inr (by rw [p]; exact h)
              · exact .inr fun e => p (by rw [← e, q])
            · by_cases h : v.ownBlock = none
              · exact .inl h
              · refine .inr fun e => ?_
                cases hb : v.ownBlock with
                | none => exact h hb
                | some z =>
                  have h1 := q z hb
                  have h2 := (hΦ.lt k _ _ z hmk (hall k hk hd' hu1) (by rw [← e, hb])).2
                  omega
          · by_cases ek : k = i
            · subst ek
              simp only [if_neg ej, if_true]
              obtain ⟨hu1, hne⟩ := uneat j huj
              have hd' := undo j hj ej hdj
              rcases hown hmk with q | q | q
              · by_cases h : (x j).ownBlock = none
                · exact .inl h
                · exact .inr (by rw [q]; exact h)
              · rcases apart j hj hd' hu1 hne hmj with p | p
                · exact .inl p
                · exact .inr fun e => p (by rw [e, q])
              · cases hb : (x j).ownBlock with
                | none => exact .inl rfl
                | some z =>
                  refine .inr fun e => ?_
                  have h1 := q z e.symm
                  have h2 := (hΦ.lt j _ _ z hmj (hall j hj hd' hu1) hb).2
                  omega
            · simp only [if_neg ej, if_neg ek]
              exact hsep j k hj hk hjk (undo j hj ej hdj) (undo k hk ek hdk) hmj hmk (uneat j huj).1 (uneat k huk).1
  · rintro d a w' ⟨hs, hcase⟩ hds hr
    rcases hcase with ⟨-, -, h2⟩ | ⟨h2, -⟩
    · exact h2
    · have := all_listed hE hs hr n (by omega)
      rw [h2] at this; cases this
  · have : (List.range l.toArray.size).countP (fun j => !((Array.replicate l.toArray.size false).getD j true)) = (List.range l.toArray.size).length := List.countP_eq_length.2 fun j hj => by
      have := List.mem_range.1 hj
      simp at this
      simp [this]
    simpa [countOff] using this
  · simp [hn]
  · simp [show i < l.length by omega] at h
  · simp [show i < l.length by omega] at h

/-- 'append(own, ys...)', ys a slice that reads as a list (nil or not); where the new row lies. -/
theorem run_append_at {P : Program} {α : Type} {n bytes base : Nat} {cs : α → List Value} {w : World} (t ty e : TypeId) (i : TypeInfo) (z : Value) (ht : P.underlying t = some (.slice e)) (hi : P.info? e = some i) (hz : i.zero = some z) (hsize : i.size = n) (hby : i.bytes = bytes) (hzs : z.cells.size = n) (hsz : 0 < n)
    (hn : ∀ x, (cs x).length = n) (h1 : ∀ x, ∀ u ∈ cs x, u.oneCell' = true)
    (v : Value) (xs ys : List α) (hown : w.ownsRow base e n v xs.length (xs.flatMap cs)) (A : Option Addr) (c : Nat) (hr : Rows n cs w A ys)
    (h63 : xs.length + ys.length ≤ maxLen) (hbytes : (xs.length + ys.length) * bytes ≤ 140737488355328) (hbase : base ≤ w.heap.size) :
    ∃ v' w', (Builtin.append_ #[t, t] ty #[v, .slice A ys.length c]).run P w = .ok v' w' ∧ w'.ownsRow base e n v' (xs ++ ys).length ((xs ++ ys).flatMap cs) ∧ w.grownBy w' v.ownBlock ∧ (v'.ownBlock = v.ownBlock ∨ v'.ownBlock = some w.heap.size) := by
  by_cases hy : ys = []
  · subst hy
    cases A with
    | none => exact ⟨v, w, run_append_nil base t ty e i n c ht hi v xs.length _ hown, by simpa using hown, World.grownBy.refl _ _, .inl rfl⟩
    | some p =>
      obtain ⟨v', w', hr, h2, h3, -, h4⟩ := run_append_own_at (P := P) (w := w) base t ty e i z n bytes ht hi hz hsize hby hzs hsz v xs.length _ hown p 0 c [] (by simp) (by simp) (by simp) (by simpa using h63) (by simpa using hbytes) hbase
      exact ⟨v', w', hr, by simpa using h2, h3, h4⟩
  · obtain ⟨b, o, rfl, -⟩ := hr hy
    obtain ⟨v', w', hrun, h2, h3, -, h4⟩ := run_append_own_at (P := P) (w := w) base t ty e i z n bytes ht hi hz hsize hby hzs hsz v xs.length _ hown ⟨b, o, none⟩ ys.length c (ys.flatMap cs) (flat_len hn ys) (rows_cells hn hr) (fun u hu => by
      obtain ⟨x, -, hx⟩ := List.mem_flatMap.1 hu
      exact h1 x u hx) h63 hbytes hbase
    exact ⟨v', w', hrun, by simpa using h2, h3, h4⟩
theorem wp_append_at {P : Program} {α : Type} {n bytes base : Nat} {cs : α → List Value} {w : World} {o : Oper} {a : Act} {K : Act → World → Prop} {Q : Exit → Act → World → Prop} (s x : Operand) (t : TypeId)
    (ho : o.op = .call { callee := .builtin .append, args := #[s, x], argTypes := #[t, t] })
    (e : TypeId) (i : TypeInfo) (z : Value) (ht : P.underlying t = some (.slice e)) (hi : P.info? e = some i) (hz : i.zero = some z) (hsize : i.size = n) (hby : i.bytes = bytes) (hzs : z.cells.size = n) (hsz : 0 < n)
    (hn : ∀ x, (cs x).length = n) (h1 : ∀ x, ∀ u ∈ cs x, u.oneCell' = true)
    (v : Value) (xs ys : List α) (hs : a.eval s = v) (hown : w.ownsRow base e n v xs.length (xs.flatMap cs)) (A : Option Addr) (m c : Nat) (hx : a.eval x = .slice A m c) (hm : m = ys.length) (hr : Rows n cs w A ys)
    (h63 : xs.length + ys.length ≤ maxLen) (hbytes : (xs.length + ys.length) * bytes ≤ 140737488355328) (hbase : base ≤ w.heap.size)
    (h : ∀ v' w', w'.ownsRow base e n v' (xs ++ ys).length ((xs ++ ys).flatMap cs) → w.grownBy w' v.ownBlock → (v'.ownBlock = v.ownBlock ∨ v'.ownBlock = some w.heap.size) → K (a.put o.dst v') w') : o.wp P a w K Q := by
  subst hm
  obtain ⟨v', w', hrun, h2, h3, h4⟩ := run_append_at (P := P) (w := w) t o.type e i z ht hi hz hsize hby hzs hsz hn h1 v xs ys hown A c hr h63 hbytes hbase
  unfold Oper.wp execOp
  simp only [ho, resolve, invoke, builtin, Sem.run_bind, Sem.run_pure, Result.andThen_ok, List.map_toArray, List.map_cons, List.map_nil, hs, hx, hrun]
  exact h v' w' h2 h3 h4
/-- The round has come to its end: the count has grown. -/
def Again (F : Nat → (Nat → Value) → Act) (R : Nat → World → Prop) (n k : Nat) (a : Act) (w : World) : Prop := ∃ k' u', a = F k' u' ∧ k < k' ∧ k' ≤ n ∧ R k' w
theorem wp_loopN {P : Program} {c : Code} {Q : Exit → Act → World → Prop} {a : Act} {w : World} (F : Nat → (Nat → Value) → Act) (R : Nat → World → Prop) (n : Nat) (idx : Act → Nat) (hidx : ∀ k u, idx (F k u) = k) (k0 : Nat) (u0 : Nat → Value) (ha : a = F k0 u0) (hk : k0 ≤ n) (h0 : R k0 w)
    (round : ∀ k u w, k ≤ n → R k w → c.wp P (Exit.then (Again F R n k) Q) (F k u) w) : (Code.loop c).wp P Q a w := by
  subst ha
  refine wp_loop (fun a w => ∃ k u, a = F k u ∧ k ≤ n ∧ R k w) (fun a _ => n - idx a) ⟨k0, u0, rfl, hk, h0⟩ ?_
  rintro a w ⟨k, u, rfl, hk, hR⟩
  refine wp_mono (round k u w hk hR) ?_
  intro e a' w' h
  cases e <;> try exact h
  obtain ⟨k', u', rfl, h1, h2, h3⟩ := h
  exact ⟨⟨k', u', rfl, h2, h3⟩, by rw [hidx, hidx]; omega⟩
/-- The frame, its slots but for those that are told under letters. -/
theorem reframe {P : Program} {c : Code} {Q : Exit → Act → World → Prop} {a : Act} {w : World} (F : (Nat → Value) → Act) (h : a = F fun j => a.tmps.getD j undef) (hn : ∀ u, c.wp P Q (F u) w) : c.wp P Q a w := by
  rw [h]; exact hn _
theorem wp_block' {P : Program} {Q : Exit → Act → World → Prop} {a : Act} {w : World} {c : Code} (id : Nat) (x : Code) (h : c = .block id x) (hx : x.wp P (Exit.inBlock id Q) a w) : c.wp P Q a w := by
  subst h; exact wp_block hx
theorem grown_alloc (w : World) (o : Obj) : w.grownBy (w.alloc o) none := ⟨rfl, rfl, rfl, by simp, fun k hk _ => Below.heap_alloc _ _ _ hk⟩
theorem Rows.take {α : Type} {n : Nat} {cs : α → List Value} {w : World} {A : Option Addr} {xs : List α} (h : Rows n cs w A xs) (k : Nat) : Rows n cs w A (xs.take k) := fun hne => by
  obtain ⟨b, o, e, hc⟩ := h (fun e => hne (by simp [e]))
  exact ⟨b, o, e, fun i x hx => hc i x (by rw [List.getElem?_take] at hx; split at hx; · exact hx
                                           · cases hx)⟩
theorem Rows.drop {α : Type} {n : Nat} {cs : α → List Value} {w : World} {A : Option Addr} {xs : List α} {c k : Nat} (h : Rows n cs w A xs) (hc : xs.length ≤ c) : Rows n cs w (if c = k then A else A.map (·.add (k * n))) (xs.drop k) := fun hne => by
  have hlt : k < xs.length := by
    apply Nat.lt_of_not_le
    intro hle
    exact hne (List.drop_eq_nil_of_le hle)
  obtain ⟨b, o, e, hcell⟩ := h (by rintro rfl; simp at hlt)
  rw [if_neg (by omega)]
  refine ⟨b, o + k * n, ?_, fun i x hx j u hu => ?_⟩
  · rw [e]
    unfold Addr.add
    by_cases e2 : k * n = 0
    · simp [e2]
    · simp [e2]
  · have := hcell (k + i) x (by rw [List.getElem?_drop] at hx; exact hx) j u hu
    rw [← this]
    congr 2
    rw [Nat.add_mul]; omega
theorem Rows.one {α : Type} {n : Nat} {cs : α → List Value} {w : World} {h : Nat} {x : α} {T : TypeId} (hb : w.heap[h]? = some (.cells (cs x).toArray T (0, 0))) : Rows n cs w (some ⟨h, 0, none⟩) [x] := fun _ => by
  refine ⟨h, 0, rfl, fun i y hy j u hu => ?_⟩
  cases i with
  | zero =>
    simp only [List.getElem?_cons_zero, Option.some.injEq] at hy
    subst hy
    rw [Nat.zero_mul, Nat.add_zero, Nat.zero_add, cell_of_row w h j _ _ _ hb]
    simpa using hu
  | succ i => simp at hy
theorem own_cap {base T n N c : Nat} {A : Option Addr} {L : List Value} {w : World} (h : w.ownsRow base T n (.slice A N c) N L) : N ≤ c := by
  rcases h.2 with ⟨e, h0⟩ | ⟨g, cap, cur, e, -, -, h1, -⟩
  · omega
  · simp only [Value.slice.injEq] at e
    omega
theorem requit {Q : Exit → Act → World → Prop} {e : Exit} {a : Act} {w : World} (F : (Nat → Value) → Act) (h : a = F fun j => a.tmps.getD j undef) (hn : ∀ u, Q e (F u) w) : Q e a w := by
  rw [h]; exact hn _
theorem again {F : Nat → (Nat → Value) → Act} {R : Nat → World → Prop} {n k : Nat} {a : Act} {w : World} (k' : Nat) (h : a = F k' fun j => a.tmps.getD j undef) (h1 : k < k') (h2 : k' ≤ n) (h3 : R k' w) : Again F R n k a w := ⟨k', _, h, h1, h2, h3⟩
theorem inBlock_out {id : Nat} {Q : Exit → Act → World → Prop} {a : Act} {w : World} (h : Q .normal a w) : Exit.inBlock id Q (.exit id) a w := by
  show (if id = id then Q .normal a w else Q (.exit id) a w)
  rw [if_pos rfl]
  exact h
theorem wpList_append_at {P : Program} {α : Type} {n bytes base : Nat} {cs : α → List Value} {w : World} {ops : Array Oper} {rest : List Oper} {o : Oper} {a : Act} {Q : Exit → Act → World → Prop} (hgd : o.guard = none) (s x : Operand) (t : TypeId)
    (ho : o.op = .call { callee := .builtin .append, args := #[s, x], argTypes := #[t, t] })
    (e : TypeId) (i : TypeInfo) (z : Value) (ht : P.underlying t = some (.slice e)) (hi : P.info? e = some i) (hz : i.zero = some z) (hsize : i.size = n) (hby : i.bytes = bytes) (hzs : z.cells.size = n) (hsz : 0 < n)
    (hn : ∀ x, (cs x).length = n) (h1 : ∀ x, ∀ u ∈ cs x, u.oneCell' = true)
    (v : Value) (xs ys : List α) (hs : a.eval s = v) (hown : w.ownsRow base e n v xs.length (xs.flatMap cs)) (A : Option Addr) (m c : Nat) (hx : a.eval x = .slice A m c) (hm : m = ys.length) (hr : Rows n cs w A ys)
    (h63 : xs.length + ys.length ≤ maxLen) (hbytes : (xs.length + ys.length) * bytes ≤ 140737488355328) (hbase : base ≤ w.heap.size)
    (h : ∀ v' w', w'.ownsRow base e n v' (xs ++ ys).length ((xs ++ ys).flatMap cs) → w.grownBy w' v.ownBlock → (v'.ownBlock = v.ownBlock ∨ v'.ownBlock = some w.heap.size) → wpList P ops Q rest (a.put o.dst v') w') : wpList P ops Q (o :: rest) a w :=
  wpList_plain hgd fun _ hK => wp_append_at s x t ho e i z ht hi hz hsize hby hzs hsz hn h1 v xs ys hs hown A m c hx hm hr h63 hbytes hbase fun v' w' h2 h3 h4 => hK _ _ (h v' w' h2 h3 h4)
end Go.Proofs.Ytnmknkdbeccmhaa
