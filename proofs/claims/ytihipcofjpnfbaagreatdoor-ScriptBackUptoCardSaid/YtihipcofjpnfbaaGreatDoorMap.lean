/- Maps in memory: what a map holds as a list of pairs, and the steps over it. -/
import Derived.Test.YtihipcofjpnfbaaGreatDoorIter
import Derived.Maps.Keyed
import Derived.WideKeyPair
namespace Go.Proofs.YtihipcofjpnfbaaGreatDoor.Tr
open Go
set_option linter.unusedSimpArgs false
set_option linter.unusedVariables false
set_option linter.unusedSectionVars false
open Go.RowKit

/-- Block b is a map of these entries, told through kf and vf; its keys can be keys of the type kt. -/
structure MapAt {α β : Type} (P : Program) (kt : TypeId) (kf : α → Value) (vf : β → Value) (w : World) (b : Nat) (D : List (α × β)) : Prop where
  at_ : ∃ es clock, w.heap[b]? = some (.map es clock) ∧ MapKept.Stamped es clock ∧ es.toList.map (fun e => (e.key, e.val)) = D.map (fun p => (kf p.1, vf p.2))
  keys : ∀ p ∈ D, ∃ l, keyOf P kt (kf p.1) = some l

/-- A pair put: in its key's place, or behind all. -/
def putAt {α β : Type} [DecidableEq α] : List (α × β) → α → β → List (α × β)
  | [], a, v => [(a, v)]
  | p :: r, a, v => if p.1 = a then (a, v) :: r else p :: putAt r a v
def getAt {α β : Type} [DecidableEq α] : List (α × β) → α → Option β
  | [], _ => none
  | p :: r, a => if p.1 = a then some p.2 else getAt r a

section
variable {α β : Type} [DecidableEq α]
theorem getAt_put (D : List (α × β)) (a c : α) (v : β) : getAt (putAt D a v) c = if a = c then some v else getAt D c := by
  induction D with
  | nil => simp only [putAt, getAt]
  | cons p r ih =>
    simp only [putAt]
    split
    · rename_i h
      simp only [getAt]
      by_cases hc : a = c
      · simp [hc]
      · simp [hc, h]
    · rename_i h
      simp only [getAt, ih]
      by_cases hc : p.1 = c
      · have : a ≠ c := fun e => h (hc.trans e.symm)
        simp [hc, this]
      · simp [hc]
theorem getAt_none {D : List (α × β)} {a : α} : getAt D a = none ↔ ∀ p ∈ D, p.1 ≠ a := by
  induction D with
  | nil => simp [getAt]
  | cons p r ih =>
    simp only [getAt]
    split
    · rename_i h; simp [h]
    · rename_i h; simp [h, ih]
theorem putAt_none {D : List (α × β)} {a : α} {v : β} (h : ∀ p ∈ D, p.1 ≠ a) : putAt D a v = D ++ [(a, v)] := by
  induction D with
  | nil => rfl
  | cons p r ih =>
    simp only [putAt]
    rw [if_neg (h p (by simp)), ih (fun q hq => h q (by simp [hq]))]
    rfl
theorem putAt_some {D : List (α × β)} {a : α} {v : β} {j : Nat} {p : α × β} (hj : D[j]? = some p) (ha : p.1 = a) (hlt : ∀ i q, i < j → D[i]? = some q → q.1 ≠ a) : putAt D a v = D.set j (a, v) ∧ getAt D a = some p.2 := by
  induction D generalizing j with
  | nil => simp at hj
  | cons q r ih =>
    cases j with
    | zero =>
      simp only [List.getElem?_cons_zero, Option.some.injEq] at hj
      subst hj
      simp [putAt, getAt, ha]
    | succ j =>
      have hq := hlt 0 q (by omega) rfl
      simp only [putAt, getAt, if_neg hq]
      obtain ⟨h1, h2⟩ := ih (j := j) (by simpa using hj) (fun i q' hi hq' => hlt (i + 1) q' (by omega) (by simpa using hq'))
      exact ⟨by rw [h1]; rfl, h2⟩
theorem putAt_mem {D : List (α × β)} {a : α} {v : β} {p : α × β} (h : p ∈ putAt D a v) : p ∈ D ∨ p = (a, v) := by
  induction D with
  | nil => simp [putAt] at h; exact .inr h
  | cons q r ih =>
    simp only [putAt] at h
    split at h
    · rcases List.mem_cons.1 h with h | h
      · exact .inr h
      · exact .inl (by simp [h])
    · rcases List.mem_cons.1 h with h | h
      · exact .inl (by simp [h])
      · rcases ih h with h | h
        · exact .inl (by simp [h])
        · exact .inr h
end

section
variable {α β : Type} [DecidableEq α] {P : Program} {Q : Ending → World → Prop} {ρ : Lv} {w w' : World} {kt e t : TypeId} {kf : α → Value} {vf : β → Value} {b : Nat} {D : List (α × β)} {F : List Nat}

theorem MapAt.lt (h : MapAt P kt kf vf w b D) : b < w.heap.size := by
  obtain ⟨es, clock, hb, _⟩ := h.at_
  exact (Array.getElem?_eq_some_iff.1 hb).1
theorem MapAt.fr (h : MapAt P kt kf vf w b D) (hf : Fr F w w') (hb : b ∉ F) : MapAt P kt kf vf w' b D := by
  obtain ⟨es, clock, hh, rest⟩ := h.at_
  exact ⟨⟨es, clock, by rw [hf.block b h.lt hb]; exact hh, rest⟩, h.keys⟩
theorem MapAt.aux (h : MapAt P kt kf vf w b D) (ha : Aux w F) (hf : Fr F w w') : MapAt P kt kf vf w' b D := by
  refine h.fr hf (fun hb => ?_)
  obtain ⟨es, clock, hh, rest⟩ := h.at_
  rcases ha b hb with ⟨r, hr⟩ | ⟨r, hr⟩ <;> (unfold ObjAt at hr; rw [hh] at hr; cases hr)
theorem MapAt.new (h : w.heap[b]? = some (.map #[] 0)) : MapAt P kt kf vf w b ([] : List (α × β)) :=
  ⟨⟨#[], 0, h, MapKept.stamped_empty 0, rfl⟩, by simp⟩

/-- Where a key is found. -/
theorem MapAt.find (h : MapAt P kt kf vf w b D) (K : Maps.Keyed P kt) {a : α} (hinj : ∀ p ∈ D, kf p.1 = kf a → p.1 = a) {l : Lit} (hk : keyOf P kt (kf a) = some l) :
    ∃ es clock, w.heap[b]? = some (.map es clock) ∧ MapKept.Stamped es clock ∧ es.toList.map (fun e => (e.key, e.val)) = D.map (fun p => (kf p.1, vf p.2)) ∧
    (((Instr.findKey kt (kf a) es.toList).run P w = .ok none w ∧ (∀ x ∈ es.toList, x.key ≠ kf a) ∧ ∀ p ∈ D, p.1 ≠ a) ∨
      ∃ j x v, (Instr.findKey kt (kf a) es.toList).run P w = .ok (some (j, vf v)) w ∧ es.toList[j]? = some x ∧ x.key = kf a ∧ D[j]? = some (a, v)) := by
  obtain ⟨es, clock, hb, hst, hD⟩ := h.at_
  refine ⟨es, clock, hb, hst, hD, ?_⟩
  have hpair : ∀ x ∈ es.toList, ∃ p ∈ D, x.key = kf p.1 ∧ x.val = vf p.2 := fun x hx => by
    have : (x.key, x.val) ∈ D.map (fun p => (kf p.1, vf p.2)) := by rw [← hD]; exact List.mem_map.2 ⟨x, hx, rfl⟩
    obtain ⟨p, hp, he⟩ := List.mem_map.1 this
    simp only [Prod.mk.injEq] at he
    exact ⟨p, hp, he.1.symm, he.2.symm⟩
  have hkeys : ∀ x ∈ es.toList, ∃ l, keyOf P kt x.key = some l := fun x hx => by
    obtain ⟨p, hp, he, _⟩ := hpair x hx
    rw [he]
    exact h.keys p hp
  rcases K.find w hk es.toList hkeys with ⟨h1, h2⟩ | ⟨j, x, h1, h2, h3⟩
  · refine .inl ⟨h1, h2, fun p hp he => ?_⟩
    have : (kf p.1, vf p.2) ∈ es.toList.map (fun e => (e.key, e.val)) := by rw [hD]; exact List.mem_map.2 ⟨p, hp, rfl⟩
    obtain ⟨x, hx, hxe⟩ := List.mem_map.1 this
    simp only [Prod.mk.injEq] at hxe
    exact h2 x hx (by rw [hxe.1, he])
  · have hj : (D.map (fun p => (kf p.1, vf p.2)))[j]? = some (x.key, x.val) := by rw [← hD, List.getElem?_map, h2]; rfl
    rw [List.getElem?_map] at hj
    obtain ⟨p, hp, he⟩ := Option.map_eq_some_iff.1 hj
    simp only [Prod.mk.injEq] at he
    have ha : p.1 = a := hinj p (List.mem_of_getElem? hp) (by rw [he.1, h3])
    refine .inr ⟨j, x, p.2, by rw [he.2]; exact h1, h2, h3, ?_⟩
    rw [hp, ← ha]

theorem MapAt.nodup (h : MapAt P kt kf vf w b D) : ∀ (i j : Nat) (p q : α × β), D[i]? = some p → D[j]? = some q → kf p.1 = kf q.1 → i = j := by
  obtain ⟨es, clock, hb, hst, hD⟩ := h.at_
  intro i j p q hi hj he
  have hn := hst.2.2
  have hkey : ∀ (i : Nat) (p : α × β), D[i]? = some p → (es.toList.map (·.key))[i]? = some (kf p.1) := fun i p hi => by
    have h1 : (es.toList.map (fun e => (e.key, e.val)))[i]? = some (kf p.1, vf p.2) := by rw [hD, List.getElem?_map, hi]; rfl
    rw [List.getElem?_map] at h1 ⊢
    obtain ⟨x, hx, hxe⟩ := Option.map_eq_some_iff.1 h1
    simp only [Prod.mk.injEq] at hxe
    rw [hx, ← hxe.1]; rfl
  have h1 := hkey i p hi
  have h2 := hkey j q hj
  rw [he] at h1
  obtain ⟨hi', h1⟩ := List.getElem?_eq_some_iff.1 h1
  obtain ⟨hj', h2⟩ := List.getElem?_eq_some_iff.1 h2
  have hpw := List.pairwise_iff_getElem.1 hn
  rcases Nat.lt_trichotomy i j with h | h | h
  · exact absurd (h1.trans h2.symm) (hpw i j hi' hj' h)
  · exact h
  · exact absurd (h2.trans h1.symm) (hpw j i hj' hi' h)

theorem MapAt.get_lt (h : MapAt P kt kf vf w b D) {j : Nat} {a : α} {v : β} (hj : D[j]? = some (a, v)) : ∀ (i : Nat) (q : α × β), i < j → D[i]? = some q → q.1 ≠ a := fun i q hi hq he => by
  have := h.nodup i j q (a, v) hq hj (by rw [he])
  omega

theorem s_look2 {k : Value → T} {z : Value} {a : α} (h : MapAt P kt kf vf w b D) (K : Maps.Keyed P kt) (ht : P.underlying t = some (.map kt e)) (hz : (zeroValue e).run P w = .ok z w)
    (hinj : ∀ p ∈ D, kf p.1 = kf a → p.1 = a) {l : Lit} (hkey : keyOf P kt (kf a) = some l) (hk : (k (.tuple #[((getAt D a).map vf).getD z, .bool (getAt D a).isSome])).sem P Q ρ w) :
    (T.run (Instr.lookup t (.map (some b)) (kf a) true) k).sem P Q ρ w := by
  obtain ⟨es, clock, hb, hst, hD, ⟨h1, h2, h3⟩ | ⟨j, x, v, h1, h2, h3, h4⟩⟩ := h.find K hinj hkey
  · rw [getAt_none.2 h3] at hk
    refine ⟨_, w, ?_, hk⟩
    simp [Instr.lookup, run_underlying ht, MapKept.run_getObj_map hb, K.check w _ hkey, h1, hz, Result.andThen]
  · rw [(putAt_some (v := v) h4 rfl (h.get_lt h4)).2] at hk
    refine ⟨_, w, ?_, hk⟩
    simp [Instr.lookup, run_underlying ht, MapKept.run_getObj_map hb, K.check w _ hkey, h1, Result.andThen]

theorem s_look1 {k : Value → T} {z : Value} {a : α} (h : MapAt P kt kf vf w b D) (K : Maps.Keyed P kt) (ht : P.underlying t = some (.map kt e)) (hz : (zeroValue e).run P w = .ok z w)
    (hinj : ∀ p ∈ D, kf p.1 = kf a → p.1 = a) {l : Lit} (hkey : keyOf P kt (kf a) = some l) (hk : (k (((getAt D a).map vf).getD z)).sem P Q ρ w) :
    (T.run (Instr.lookup t (.map (some b)) (kf a) false) k).sem P Q ρ w := by
  obtain ⟨es, clock, hb, hst, hD, ⟨h1, h2, h3⟩ | ⟨j, x, v, h1, h2, h3, h4⟩⟩ := h.find K hinj hkey
  · rw [getAt_none.2 h3] at hk
    refine ⟨_, w, ?_, hk⟩
    simp [Instr.lookup, run_underlying ht, MapKept.run_getObj_map hb, K.check w _ hkey, h1, hz, Result.andThen]
  · rw [(putAt_some (v := v) h4 rfl (h.get_lt h4)).2] at hk
    refine ⟨_, w, ?_, hk⟩
    simp [Instr.lookup, run_underlying ht, MapKept.run_getObj_map hb, K.check w _ hkey, h1, Result.andThen]

theorem s_put {k : Value → T} {a : α} {v : β} (h : MapAt P kt kf vf w b D) (K : Maps.Keyed P kt) (ht : P.underlying t = some (.map kt e)) (hinj : ∀ p ∈ D, kf p.1 = kf a → p.1 = a) {l : Lit} (hkey : keyOf P kt (kf a) = some l)
    (hk : ∀ w', w'.heap.size = w.heap.size → Fr [b] w w' → MapAt P kt kf vf w' b (putAt D a v) → (k undef).sem P Q ρ w') :
    (T.run (muV t (.map (some b)) (kf a) (vf v)) k).sem P Q ρ w := by
  have hkeys : ∀ p ∈ putAt D a v, ∃ l, keyOf P kt (kf p.1) = some l := fun p hp => by
    rcases putAt_mem hp with hp | rfl
    · exact h.keys p hp
    · exact ⟨l, hkey⟩
  obtain ⟨es, clock, hb, hst, hD, ⟨h1, h2, h3⟩ | ⟨j, x, v', h1, h2, h3, h4⟩⟩ := h.find K hinj hkey
  · refine ⟨undef, putObj w b (.map (es.push ⟨kf a, vf v, clock⟩) (clock + 1)), ?_, hk _ (by simp [putObj]) (Fr.putObj (by simp)) ⟨⟨_, _, ObjAt.put (o := .map es clock) hb, MapKept.stamped_push hst h2, ?_⟩, hkeys⟩⟩
    · simp [muV, Instr.mapUpdate, run_underlying ht, MapKept.run_getObj_map hb, K.check w false hkey, h1, MapKept.run_setObj_map _ hb, Result.andThen, putObj]
    · rw [Array.toList_push, List.map_append, hD, putAt_none h3]
      simp
  · have hj : es[j]? = some x := by simpa using h2
    refine ⟨undef, putObj w b (.map (es.modify j fun y => { y with key := kf a, val := vf v }) clock), ?_, hk _ (by simp [putObj]) (Fr.putObj (by simp)) ⟨⟨_, _, ObjAt.put (o := .map es clock) hb, MapKept.stamped_modify hst j _ (fun _ _ => rfl) (fun y hy he => ?_), ?_⟩, hkeys⟩⟩
    · have hs : (Instr.keyThatStays (kf a) (kf a)).run P w = .ok (kf a) w := K.stays w hkey
      simp [muV, Instr.mapUpdate, run_underlying ht, MapKept.run_getObj_map hb, K.check w false hkey, h1, MapKept.run_setObj_map _ hb, Result.andThen, putObj, hj, h3, hs]
    · rw [hj] at he
      cases he
      exact h3.symm
    · rw [(putAt_some (v := v) h4 rfl (h.get_lt h4)).1, List.map_set, ← hD]
      apply List.ext_getElem?
      intro i
      simp only [Array.toList_modify, List.getElem?_map, List.getElem?_modify, List.getElem?_set, List.length_map]
      by_cases hij : j = i
      · subst hij
        have hlt : j < es.size := by simpa using (List.getElem?_eq_some_iff.1 h2).1
        simp [h2, hlt]
      · simp [hij]
end

end Go.Proofs.YtihipcofjpnfbaaGreatDoor.Tr
