/- Maps of one's own: an entry fetched and then stored, an entry deleted. -/
import Derived.Test.YtpjcfnnnciknmaaGreatSep
set_option linter.unusedSimpArgs false
set_option linter.unusedVariables false
set_option linter.unusedSectionVars false
namespace Go.Proofs.YtpjcfnnnciknmaaGreat.Tr
open Go
open Go.RowKit

def delAt {α β : Type} [DecidableEq α] (D : List (α × β)) (a : α) : List (α × β) := D.filter (fun p => !decide (p.1 = a))
section
variable {α β : Type} [DecidableEq α] {D : List (α × β)} {a c : α} {v : β}
theorem getAt_del : getAt (delAt D a) c = if a = c then none else getAt D c := by
  induction D with
  | nil => simp [delAt, getAt]
  | cons p r ih =>
    unfold delAt at ih ⊢
    by_cases h : p.1 = a
    · rw [List.filter_cons_of_neg (by simp [h]), ih]
      split
      · rfl
      · rename_i h'
        simp only [getAt]
        rw [if_neg (by rw [h]; exact h')]
    · rw [List.filter_cons_of_pos (by simp [h])]
      simp only [getAt]
      rw [ih]
      by_cases h2 : p.1 = c
      · rw [if_pos h2, if_pos h2, if_neg (by rw [← h2]; exact fun e => h e.symm)]
      · rw [if_neg h2, if_neg h2]
theorem del_none (h : ∀ p ∈ D, p.1 ≠ a) : delAt D a = D := by
  unfold delAt
  rw [List.filter_eq_self]
  intro p hp
  simp [h p hp]
theorem del_some {j : Nat} {p : α × β} (hj : D[j]? = some p) (ha : p.1 = a) (huniq : ∀ i q, D[i]? = some q → q.1 = a → i = j) : delAt D a = D.eraseIdx j := by
  unfold delAt
  induction D generalizing j with
  | nil => simp at hj
  | cons x r ih =>
    cases j with
    | zero =>
      simp at hj
      subst hj
      rw [List.filter_cons_of_neg (by simp [ha]), List.eraseIdx_cons_zero, List.filter_eq_self]
      intro q hq
      obtain ⟨i, hi⟩ := List.mem_iff_getElem?.1 hq
      have := huniq (i + 1) q (by simpa using hi)
      simp
      intro he
      have := this he
      omega
    | succ j =>
      have hx : x.1 ≠ a := fun he => by
        have := huniq 0 x (by simp) he
        omega
      rw [List.filter_cons_of_pos (by simp [hx]), List.eraseIdx_cons_succ, ih (j := j) (by simpa using hj) (fun i q hi he => by
        have := huniq (i + 1) q (by simpa using hi) he
        omega)]
end

section
variable {α β : Type} [DecidableEq α] {P : Program} {Q : Ending → World → Prop} {ρ : Lv} {w0 w w' : World} {kt e t : TypeId} {kf : α → Value} {vf : β → Value} {b : Nat} {D : List (α × β)} {m m' : Hp} {o : Obj}

/-- The entry of key kv in the map o, by its number. -/
def EntO (o : Obj) (n : Int) (kv : Value) : Prop := ∃ (es : Array MapEntry) (clock j : Nat) (x : MapEntry), o = .map es clock ∧ es[j]? = some x ∧ x.key = kv ∧ (x.born : Int) = n

theorem find_born {es : Array MapEntry} {clock : Nat} (hs : MapKept.Stamped es clock) {j : Nat} {x : MapEntry} (hj : es[j]? = some x) : es.findIdx? (fun e => (e.born : Int) == (x.born : Int)) = some j := by
  obtain ⟨hlt, hx⟩ := Array.getElem?_eq_some_iff.1 hj
  rw [Array.findIdx?_eq_some_iff_getElem]
  refine ⟨hlt, by simp [hx], fun i hi => ?_⟩
  have hn := ((MapKept.stamped_iff es clock).1 hs).2.1
  have := List.pairwise_iff_getElem.1 hn i j (by simp; omega) (by simpa using hlt) hi
  simp only [List.getElem_map, Array.getElem_toList] at this
  rw [hx] at this
  have h2 := this
  simp
  omega

theorem h_entry2 {k : Value → T} {z : β} {a : α} (H : Has w0 w m) (hp : Pick (b, o) m m') (h : MapO P kt kf vf o D) (K : Maps.Keyed P kt) (ht : P.underlying t = some (.map kt e)) (hz : (zeroValue e).run P w = .ok (vf z) w)
    (hinj : ∀ p ∈ D, kf p.1 = kf a → p.1 = a) {l : Lit} (hkey : keyOf P kt (kf a) = some l)
    (hk : ∀ n o' w', MapO P kt kf vf o' (putAt D a ((getAt D a).getD z)) → EntO o' n (kf a) → Has w0 w' ((b, o') :: m') → (k (.tuple #[vf ((getAt D a).getD z), .int .i64 n])).sem P Q ρ w') :
    (T.run (Instr.mapEntry t (.map (some b)) (kf a)) k).sem P Q ρ w := by
  have hM := h.map (H.get hp)
  have hkeys : ∀ p ∈ putAt D a ((getAt D a).getD z), ∃ l, keyOf P kt (kf p.1) = some l := fun p hp => by
    rcases putAt_mem hp with hp | rfl
    · exact h.keys p hp
    · exact ⟨l, hkey⟩
  obtain ⟨es, clock, hb, hst, hD, ⟨h1, h2, h3⟩ | ⟨j, x, v', h1, h2, h3, h4⟩⟩ := hM.find K hinj hkey
  · rw [getAt_none.2 h3, Option.getD_none] at hk hkeys
    refine ⟨_, putObj w b (.map (es.push ⟨kf a, vf z, clock⟩) (clock + 1)), ?_, hk clock (.map (es.push ⟨kf a, vf z, clock⟩) (clock + 1)) _ ⟨⟨_, _, rfl, MapKept.stamped_push hst h2, ?_⟩, hkeys⟩ ⟨_, _, es.size, ⟨kf a, vf z, clock⟩, rfl, by simp, rfl, rfl⟩ (H.upd hp (Fr.putObj (by simp)) (ObjAt.put (o := .map es clock) hb))⟩
    · simp [Instr.mapEntry, run_underlying ht, MapKept.run_getObj_map hb, K.check w false hkey, h1, hz, MapKept.run_setObj_map _ hb, Result.andThen, putObj, goInt]
    · rw [Array.toList_push, List.map_append, hD, putAt_none h3]
      simp
  · have hj : es[j]? = some x := by simpa using h2
    have hg := (putAt_some (v := v') h4 rfl (hM.get_lt h4)).2
    have hpu := (putAt_some (v := v') h4 rfl (hM.get_lt h4)).1
    rw [hg, Option.getD_some] at hk hkeys
    refine ⟨_, putObj w b (.map (es.modify j fun y => { y with key := kf a }) clock), ?_, hk x.born (.map (es.modify j fun y => { y with key := kf a }) clock) _ ⟨⟨_, _, rfl, MapKept.stamped_modify hst j _ (fun _ _ => rfl) (fun y hy he => ?_), ?_⟩, hkeys⟩ ⟨_, _, j, { x with key := kf a }, rfl, ?_, rfl, rfl⟩ (H.upd hp (Fr.putObj (by simp)) (ObjAt.put (o := .map es clock) hb))⟩
    · have hs : (Instr.keyThatStays (kf a) (kf a)).run P w = .ok (kf a) w := K.stays w hkey
      simp [Instr.mapEntry, run_underlying ht, MapKept.run_getObj_map hb, K.check w false hkey, h1, MapKept.run_setObj_map _ hb, Result.andThen, putObj, hj, h3, hs, goInt]
    · rw [hj] at he
      cases he
      exact h3.symm
    · rw [hpu]
      have hself : (es.modify j fun y => { y with key := kf a }) = es := by
        apply Array.ext
        · simp
        · intro i hi1 hi2
          rw [Array.getElem_modify]
          split
          · rename_i hij
            subst hij
            obtain ⟨hlt, hx⟩ := Array.getElem?_eq_some_iff.1 hj
            rw [hx, ← h3]
          · rfl
      rw [hself, hD]
      congr 1
      refine (List.ext_getElem? fun i => ?_)
      rw [List.getElem?_set]
      split
      · rename_i hij
        subst hij
        have := (List.getElem?_eq_some_iff.1 h4).1
        rw [if_pos this, h4]
      · rfl
    · rw [Array.getElem?_modify, if_pos rfl, hj]
      rfl

theorem h_estore {k : Value → T} {a : α} {v : β} {n : Int} (H : Has w0 w m) (hp : Pick (b, o) m m') (h : MapO P kt kf vf o D) (hE : EntO o n (kf a)) (hinj : ∀ p ∈ D, kf p.1 = kf a → p.1 = a)
    (hk : ∀ o' w', MapO P kt kf vf o' (putAt D a v) → Has w0 w' ((b, o') :: m') → (k undef).sem P Q ρ w') :
    (T.run (esV t (.map (some b)) (.int .i64 n) (vf v)) k).sem P Q ρ w := by
  obtain ⟨es, clock, j, x, rfl, hj, hx, rfl⟩ := hE
  obtain ⟨es', clock', he, hst, hD⟩ := h.at_
  cases he
  have hb := H.get hp
  have hM := h.map hb
  have hf := find_born hst hj
  have hj' : es.toList[j]? = some x := by simpa using hj
  have hDj : ∃ v0, D[j]? = some (a, v0) := by
    have h1 : (D.map (fun p => (kf p.1, vf p.2)))[j]? = some (x.key, x.val) := by rw [← hD, List.getElem?_map, hj']; rfl
    rw [List.getElem?_map] at h1
    obtain ⟨p, hp, he⟩ := Option.map_eq_some_iff.1 h1
    simp only [Prod.mk.injEq] at he
    have := hinj p (List.mem_of_getElem? hp) (by rw [he.1, hx])
    exact ⟨p.2, by rw [hp, ← this]⟩
  obtain ⟨v0, hDj⟩ := hDj
  have hpu := (putAt_some (v := v) hDj rfl (hM.get_lt hDj)).1
  have hkeys : ∀ p ∈ putAt D a v, ∃ l, keyOf P kt (kf p.1) = some l := fun p hp => by
    rcases putAt_mem hp with hp | rfl
    · exact h.keys p hp
    · exact h.keys (a, v0) (List.mem_of_getElem? hDj)
  refine ⟨undef, putObj w b (.map (es.modify j fun y => { y with val := vf v }) clock), ?_, hk (.map (es.modify j fun y => { y with val := vf v }) clock) _ ⟨⟨_, _, rfl, MapKept.stamped_modify hst j _ (fun _ _ => rfl) (fun y hy he => rfl), ?_⟩, hkeys⟩ (H.upd hp (Fr.putObj (by simp)) (ObjAt.put (o := .map es clock) hb))⟩
  · simp [esV, Instr.entryStore, MapKept.run_getObj_map hb, MapKept.run_setObj_map _ hb, Result.andThen, putObj, hf, asInt, asIntOf]
  · rw [hpu]
    rw [Array.toList_modify]
    refine (List.ext_getElem? fun i => ?_)
    have hi : (es.toList.map (fun e => (e.key, e.val)))[i]? = (D.map (fun p => (kf p.1, vf p.2)))[i]? := by rw [hD]
    rw [List.getElem?_map, List.getElem?_map] at hi ⊢
    rw [List.getElem?_modify, List.getElem?_set]
    by_cases hij : j = i
    · subst hij
      have hlt := (List.getElem?_eq_some_iff.1 hDj).1
      rw [if_pos rfl, if_pos hlt, hj']
      simp [hx]
    · rw [if_neg hij]
      simp only [if_neg hij]
      simpa using hi

theorem h_delete {k : Value → T} {a : α} {ty : TypeId} (H : Has w0 w m) (hp : Pick (b, o) m m') (h : MapO P kt kf vf o D) (K : Maps.Keyed P kt) (ht : P.underlying t = some (.map kt e))
    (hinj : ∀ p ∈ D, kf p.1 = kf a → p.1 = a) {l : Lit} (hkey : keyOf P kt (kf a) = some l) {tk : TypeId}
    (hk : ∀ o' w', MapO P kt kf vf o' (delAt D a) → Has w0 w' ((b, o') :: m') → (k (.tuple #[])).sem P Q ρ w') :
    (T.run (biV .delete #[t, tk] ty #[.map (some b), kf a]) k).sem P Q ρ w := by
  have hM := h.map (H.get hp)
  obtain ⟨es, clock, hb, hst, hD, ⟨h1, h2, h3⟩ | ⟨j, x, v', h1, h2, h3, h4⟩⟩ := hM.find K hinj hkey
  · refine ⟨_, putObj w b (.map es clock), ?_, hk (.map es clock) _ ?_ (H.upd hp (Fr.putObj (by simp)) (ObjAt.put (o := .map es clock) hb))⟩
    · simp [biV, Builtin.delete_, run_underlying ht, MapKept.run_getObj_map hb, K.check w _ hkey, h1, MapKept.run_setObj_map _ hb, Result.andThen, putObj]
    · rw [del_none h3]
      exact ⟨⟨es, clock, rfl, hst, hD⟩, h.keys⟩
  · refine ⟨_, putObj w b (.map (es.eraseIdxIfInBounds j) clock), ?_, hk (.map (es.eraseIdxIfInBounds j) clock) _ ?_ (H.upd hp (Fr.putObj (by simp)) (ObjAt.put (o := .map es clock) hb))⟩
    · simp [biV, Builtin.delete_, run_underlying ht, MapKept.run_getObj_map hb, K.check w _ hkey, h1, MapKept.run_setObj_map _ hb, Result.andThen, putObj]
    · have hu : ∀ i q, D[i]? = some q → q.1 = a → i = j := fun i q hi he => hM.nodup i j q (a, v') hi h4 (by rw [he])
      rw [del_some h4 rfl hu]
      refine ⟨⟨_, clock, rfl, MapKept.stamped_erase hst j, ?_⟩, fun p hp => h.keys p (List.mem_of_mem_eraseIdx hp)⟩
      have hlt := (List.getElem?_eq_some_iff.1 h2).1
      have hlt' : j < es.size := by simpa using hlt
      rw [Array.eraseIdxIfInBounds, dif_pos hlt', Array.toList_eraseIdx]
      have e1 : ∀ (A : List MapEntry) (f : MapEntry → Value × Value) (j : Nat), (A.eraseIdx j).map f = (A.map f).eraseIdx j := by
        intro A f
        induction A with
        | nil => intro j; rfl
        | cons y r ih => intro j; cases j with
          | zero => rfl
          | succ j => simp [ih]
      have e2 : ∀ (A : List (α × β)) (f : α × β → Value × Value) (j : Nat), (A.eraseIdx j).map f = (A.map f).eraseIdx j := by
        intro A f
        induction A with
        | nil => intro j; rfl
        | cons y r ih => intro j; cases j with
          | zero => rfl
          | succ j => simp [ih]
      rw [e1, e2, hD]
end
end Go.Proofs.YtpjcfnnnciknmaaGreat.Tr
