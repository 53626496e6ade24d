/- New copies in a book's order; what ending leaves of who is there: plain laws. What an act is, case by case: plain data. -/
import Derived.Test.YtnmknkdbeccmhaaAp1
namespace Go.Proofs.Ytnmknkdbeccmhaa
open Go.RowKit
set_option linter.unusedSimpArgs false
set_option linter.unusedVariables false

theorem tw_lt {α : Type} {p : α → Bool} : ∀ {xs : List α} {j : Nat}, j < (xs.takeWhile p).length → ∃ x, xs[j]? = some x ∧ p x = true
  | [], j, h => by simp at h
  | y :: ys, j, h => by
    rw [List.takeWhile_cons] at h
    split at h
    · cases j with
      | zero => exact ⟨y, rfl, by assumption⟩
      | succ j =>
        obtain ⟨x, h1, h2⟩ := tw_lt (xs := ys) (j := j) (by simpa using h)
        exact ⟨x, by simpa using h1, h2⟩
    · simp at h
theorem tw_at {α : Type} {p : α → Bool} : ∀ {xs : List α}, (xs.takeWhile p).length < xs.length → ∃ x, xs[(xs.takeWhile p).length]? = some x ∧ p x = false
  | [], h => by simp at h
  | y :: ys, h => by
    rw [List.takeWhile_cons] at h ⊢
    split
    · rename_i hp
      rw [if_pos hp] at h
      obtain ⟨x, h1, h2⟩ := tw_at (xs := ys) (by simpa using h)
      exact ⟨x, by simpa using h1, h2⟩
    · rename_i hp
      exact ⟨y, rfl, by simpa using hp⟩
theorem tw_le {α : Type} (p : α → Bool) (xs : List α) : (xs.takeWhile p).length ≤ xs.length := (List.takeWhile_prefix _).length_le
theorem tw_eq {α : Type} {p q : α → Bool} {xs : List α} {n : Nat} (hn : n = (xs.takeWhile q).length) (h : ∀ x ∈ xs, p x = q x) : n = (xs.takeWhile p).length := by rw [takeWhile_same h]; exact hn

theorem endOne_who {b : Book} {t : Int} {j : Nat} {x : Cpy} (h : x ∈ (endOne b t j).cps) : ∃ y ∈ b.cps, y.service = x.service ∧ y.number = x.number := by
  obtain ⟨i, hi⟩ := List.mem_iff_getElem?.1 h
  rw [endOne_at] at hi
  obtain ⟨d, hd, rfl⟩ := Option.map_eq_some_iff.1 hi
  refine ⟨d, List.mem_of_getElem? hd, ?_⟩
  split <;> exact ⟨rfl, rfl⟩
theorem endAll_who {nm : ByteArray} {t : Int} : ∀ {es : List SEnd} {b b' : Book}, endAll nm t b es = some b' → ∀ x ∈ b'.cps, ∃ y ∈ b.cps, y.service = x.service ∧ y.number = x.number
  | [], b, b', h, x, hx => by
    simp only [endAll, Option.some.injEq] at h
    subst h
    exact ⟨x, hx, rfl, rfl⟩
  | e :: es, b, b', h, x, hx => by
    rw [endAll] at h
    split at h
    · rcases hq : cpyAt b.cps nm e.number with _ | j
      · rw [hq] at h; cases h
      · rw [hq] at h
        obtain ⟨y, h1, h2, h3⟩ := endAll_who h x hx
        obtain ⟨z, h4, h5, h6⟩ := endOne_who h1
        exact ⟨z, h4, h5.trans h2, h6.trans h3⟩
    · cases h
theorem valid_cps {b : Book} (h : valid b = true) : cpsOk b none b.cps = true := by
  unfold valid at h
  simp only [Bool.and_eq_true] at h
  exact h.2
theorem num_next {b : Book} (hv : valid b = true) {nm : ByteArray} {i : Nat} {s : Svc} (hq : svcAt b.svcs nm = some i) (hs : b.svcs[i]? = some s) {c : Cpy} (hc : c ∈ b.cps) (he : eqN c.service nm = true) : c.number < s.next := by
  have h1 := cpsOk_mem (valid_cps hv) c hc
  unfold cpyOk at h1
  rw [← svcAt_eq he, hq] at h1
  simp only [Option.bind_some, hs, cpyNum, Bool.and_eq_true, inB, decide_eq_true_eq] at h1
  omega
theorem news_len (s : Svc) (t : Int) (k : Nat) : (news s t k).length = k := by simp [news]
theorem news_succ (s : Svc) (t : Int) (k : Nat) : news s t (k + 1) = news s t k ++ [newCpy s t k] := by simp [news, List.range_succ]
theorem news_mem {s : Svc} {t : Int} {k : Nat} {x : Cpy} (h : x ∈ news s t k) : x.service = s.name ∧ x.number < s.next + k := by
  obtain ⟨j, hj, rfl⟩ := List.mem_map.1 h
  have := List.mem_range.1 hj
  exact ⟨rfl, by simp only [newCpy]; omega⟩
theorem putIn_mem {α : Type} {k : Nat} {ys xs : List α} {x : α} (h : x ∈ putIn k ys xs) : x ∈ ys ∨ x ∈ xs := by
  unfold putIn at h
  simp only [List.mem_append] at h
  rcases h with (h | h) | h
  · exact .inr (List.mem_of_mem_take h)
  · exact .inl h
  · exact .inr (List.mem_of_mem_drop h)
/-- Where the next new copy goes: behind those that are put in already. -/
theorem news_place {s : Svc} {t : Int} {cps : List Cpy} (hn : ∀ x ∈ cps, eqN x.service s.name = true → x.number < s.next) (k : Nat) :
    place s.name cps + k = ((putIn (place s.name cps) (news s t k) cps).takeWhile fun x => ahead x (newCpy s t k)).length := by
  refine tw_eq (q := fun c : Cpy => !ltN s.name c.service) ?_ fun x hx => ?_
  · have := place_putIn (nm := s.name) (ys := news s t k) (cps := cps) fun y hy => (news_mem hy).1
    rw [news_len] at this
    exact this.symm
  · refine ahead_place (n := newCpy s t k) fun he => ?_
    have he' : eqN x.service s.name = true := he
    show x.number < s.next + k
    rcases putIn_mem hx with h | h
    · exact (news_mem h).2
    · have := hn x h he'
      omega
theorem news_put {s : Svc} {t : Int} {cps : List Cpy} (k : Nat) : (putIn (place s.name cps) (news s t k) cps).take (place s.name cps + k) ++ [newCpy s t k] ++ (putIn (place s.name cps) (news s t k) cps).drop (place s.name cps + k) = putIn (place s.name cps) (news s t (k + 1)) cps := by
  have h := putIn_snoc (p := place s.name cps) (ys := news s t k) (xs := cps) (y := newCpy s t k) (place_le s.name cps)
  rw [news_len] at h
  rw [news_succ, ← h]
  rfl
theorem putIn_none {α : Type} (k : Nat) (xs : List α) : putIn k [] xs = xs := by simp [putIn]
theorem putIn_length {s : Svc} {t : Int} {cps : List Cpy} (k : Nat) : (putIn (place s.name cps) (news s t k) cps).length = cps.length + k := by rw [putIn_len, news_len]
end Go.Proofs.Ytnmknkdbeccmhaa
namespace Go.Proofs.Ytnmknkdbeccmhaa
open Go.RowKit
set_option linter.unusedVariables false
section
variable {b : Book} {a : SAct} {s : Svc} {i : Nat} {cps : List Cpy}
theorem actV_2 (h : formedB a = false) : actV b a = (b, 2) := by unfold actV; rw [if_pos h]
theorem actV_3 (h : formedB a = true) (hq : svcAt b.svcs a.service = none) : actV b a = (b, 3) := by unfold actV; rw [if_neg (by simp [h]), hq]
theorem actV_go (h : formedB a = true) (hq : svcAt b.svcs a.service = some i) (hs : b.svcs[i]? = some s) :
    actV b a = if endsThere b.cps a.service a.ends = false then (b, 3)
      else if decide (s.version = a.version) = false then (b, 4)
      else if endsSame b a.service a.ends = false then (b, 4)
      else match endAll a.service (b.now + 1) b a.ends with
        | none => (b, 5)
        | some b' => if whyNot b b' a s = 0 then (actDone b b' a s i, 0) else (b, whyNot b b' a s) := by
  conv => lhs; unfold actV
  rw [if_neg (by simp [h]), hq]
  simp only [hs]
  rfl
/-- Where a service is dropped nothing has been ended. -/
theorem drop_same (h : formedB a = true) (hE : endAll a.service (b.now + 1) b a.ends = some ⟨b.now, b.svcs, cps, b.brs⟩) (hd : a.drop = true) : cps = b.cps := by
  obtain ⟨-, -, he⟩ := formed_drop h hd
  rw [he, endAll] at hE
  have := Option.some.inj hE
  rw [this]
theorem set_svcAt {xs : List Svc} {x : Svc} {nm : ByteArray} (hs : xs[i]? = some s) (hn : x.name = s.name) : svcAt (xs.set i x) nm = svcAt xs nm := by
  refine fIdx_congr (by simp) fun k p q hp hq => ?_
  rw [List.getElem?_set] at hp
  split at hp
  · rename_i e
    subst e
    rw [hs] at hq
    obtain rfl := Option.some.inj hq
    split at hp
    · obtain rfl := Option.some.inj hp
      rw [hn]
    · cases hp
  · rw [hq] at hp
    obtain rfl := Option.some.inj hp
    rfl
theorem set_noTwice {xs : List Svc} {x : Svc} (hs : xs[i]? = some s) (hn : x.name = s.name) (h : NoTwice xs) : NoTwice (xs.set i x) := by
  have key : ∀ (k : Nat) (p : Svc), (xs.set i x)[k]? = some p → ∃ q, xs[k]? = some q ∧ q.name = p.name := fun k p hp => by
    rw [List.getElem?_set] at hp
    split at hp
    · rename_i e
      subst e
      split at hp
      · obtain rfl := Option.some.inj hp
        exact ⟨s, hs, hn.symm⟩
      · cases hp
    · exact ⟨p, hp, rfl⟩
  intro k j p q hp hq e
  obtain ⟨p', h1, e1⟩ := key k p hp
  obtain ⟨q', h2, e2⟩ := key j q hq
  exact h k j p' q' h1 h2 (by rw [e1, e2]; exact e)
theorem set_erase {α : Type} : ∀ {xs : List α} {i : Nat} {x : α}, (xs.set i x).eraseIdx i = xs.eraseIdx i
  | [], _, _ => rfl
  | _ :: _, 0, _ => rfl
  | y :: ys, i + 1, x => by
    show y :: (ys.set i x).eraseIdx i = y :: ys.eraseIdx i
    rw [set_erase]
def d0 (b : Book) (a : SAct) (s : Svc) (ct : Cnt) : Bool := a.drop && (!s.gone || decide (0 < ct.live + ct.ending))
def d1 (a : SAct) (s : Svc) : Bool := a.scale && (decide (s.per = 0) || !inB s.least a.want s.most)
def d2 (a : SAct) (s : Svc) (ct : Cnt) : Bool := decide (0 < a.create) && (s.gone || decide ((scaled a s).want + s.over < ct.live + a.create))
def d3 (b : Book) (a : SAct) (s : Svc) (n : Nat) : Bool := decide (200 < (n : Int) + a.create) || (decide (1000000 < s.next + a.create) || decide (1000000 ≤ b.now))
/-- Why an act is refused, in the words of the walk. -/
theorem whyNot_eq (h : formedB a = true) (hE : endAll a.service (b.now + 1) b a.ends = some ⟨b.now, b.svcs, cps, b.brs⟩) (hl : cps.length = b.cps.length) :
    whyNot b ⟨b.now, b.svcs, cps, b.brs⟩ a s = if (d0 b a s (cntOf cps s.name s.image) || (d1 a s || d2 a s (cntOf cps s.name s.image))) = true then 6 else if d3 b a s cps.length = true then 7 else 0 := by
  have e0 : (a.drop && (!s.gone || decide (0 < (cntOf b.cps s.name s.image).live + (cntOf b.cps s.name s.image).ending))) = d0 b a s (cntOf cps s.name s.image) := by
    unfold d0
    cases hd : a.drop with
    | false => rfl
    | true => rw [drop_same h hE hd]
  unfold whyNot
  rw [e0, ← hl]
  rfl
theorem actV_same (h : (actV b a).2 ≠ 0) : (actV b a).1 = b := by
  cases hfo : formedB a with
  | false => rw [actV_2 hfo]
  | true =>
    rcases hq : svcAt b.svcs a.service with _ | i
    · rw [actV_3 hfo hq]
    · obtain ⟨s, hs, hn⟩ := fIdx_some0 hq
      rw [actV_go hfo hq hs] at h ⊢
      split
      · rfl
      · rename_i c1
        rw [if_neg c1] at h
        split
        · rfl
        · rename_i c2
          rw [if_neg c2] at h
          split
          · rfl
          · rename_i c3
            rw [if_neg c3] at h
            rcases hE : endAll a.service (b.now + 1) b a.ends with _ | b'
            · rfl
            · rw [hE] at h
              simp only [] at h ⊢
              split
              · rename_i c4
                rw [if_pos c4] at h
                exact absurd rfl h
              · rfl
theorem actV_sized (hf : Fit b) : (actV b a).1.svcs.length ≤ 2000000 ∧ (actV b a).1.cps.length ≤ 2000000 ∧ (actV b a).1.brs.length ≤ 2000000 := by
  have l1 := hf.l1
  have l2 := hf.l2
  have l3 := hf.l3
  have hb : b.svcs.length ≤ 2000000 ∧ b.cps.length ≤ 2000000 ∧ b.brs.length ≤ 2000000 := by omega
  cases hfo : formedB a with
  | false => rw [actV_2 hfo]; exact hb
  | true =>
    rcases hq : svcAt b.svcs a.service with _ | i
    · rw [actV_3 hfo hq]; exact hb
    · obtain ⟨s, hs, hn⟩ := fIdx_some0 hq
      rw [actV_go hfo hq hs]
      split
      · exact hb
      · split
        · exact hb
        · split
          · exact hb
          · rcases hE : endAll a.service (b.now + 1) b a.ends with _ | b'
            · exact hb
            · simp only []
              split
              · obtain ⟨-, -, k1, k2, k3, -⟩ := endAll_keeps hf hE
                have hc : a.create ≤ 20 := by unfold formedB at hfo; simp only [Bool.and_eq_true, inB, decide_eq_true_eq] at hfo; exact hfo.1.1.2
                refine ⟨?_, ?_, ?_⟩
                · unfold actDone
                  split
                  · show (b'.svcs.eraseIdx i).length ≤ _
                    have := List.length_eraseIdx_le b'.svcs i
                    rw [k1] at this ⊢
                    omega
                  · show (b'.svcs.set i _).length ≤ _
                    rw [List.length_set, k1]
                    exact hb.1
                · show (putIn _ _ _).length ≤ _
                  rw [putIn_len, news_len, k3]
                  omega
                · show b'.brs.length ≤ _
                  rw [k2]
                  exact hb.2.2
              · exact hb
end
end Go.Proofs.Ytnmknkdbeccmhaa
