/- Ranges over maps of one's own, whose order is drawn; and sequences whose order is drawn: range over functions that tell them. -/
import Derived.Test.YtihipcofjpnfbaaGreatDoorParts
import Derived.Maps.RangeRun
namespace Go.Proofs.YtihipcofjpnfbaaGreatDoor.Tr
open Go
set_option linter.unusedSimpArgs false
set_option linter.unusedVariables false
set_option linter.unusedSectionVars false
open Go.RowKit
open Go.ChangeMaps (setBlock)

theorem filter_erase {l : List MapEntry} (hn : (l.map (·.born)).Nodup) {j : Nat} {e : MapEntry} (hj : l[j]? = some e) : l.filter (fun x => !(x.born == e.born)) = l.eraseIdx j := by
  induction l generalizing j with
  | nil => simp at hj
  | cons a l ih =>
    simp only [List.map_cons, List.nodup_cons] at hn
    cases j with
    | zero =>
      simp only [List.getElem?_cons_zero, Option.some.injEq] at hj
      subst hj
      simp only [List.filter_cons, beq_self_eq_true, Bool.not_true, Bool.false_eq_true, if_false, List.eraseIdx_cons_zero]
      refine List.filter_eq_self.2 fun x hx => ?_
      have : x.born ≠ a.born := fun h => hn.1 (List.mem_map.2 ⟨x, hx, h⟩)
      simpa using this
    | succ j =>
      have hj' : l[j]? = some e := by simpa using hj
      have : a.born ≠ e.born := fun h => hn.1 (List.mem_map.2 ⟨e, List.mem_of_getElem? hj', h.symm⟩)
      have h2 : (!(a.born == e.born)) = true := by simpa using this
      rw [List.filter_cons, if_pos h2, List.eraseIdx_cons_succ, ih hn.2 hj']

theorem perm_erase {α : Type} {l : List α} {j : Nat} {x : α} (h : l[j]? = some x) : l.Perm (x :: l.eraseIdx j) := by
  induction l generalizing j with
  | nil => simp at h
  | cons a l ih =>
    cases j with
    | zero =>
      simp only [List.getElem?_cons_zero, Option.some.injEq] at h
      subst h
      exact List.Perm.refl _
    | succ j => exact (List.Perm.cons a (ih (by simpa using h))).trans (List.Perm.swap x a _)
theorem left_push (es : Array MapEntry) (seen : Array Nat) (b : Nat) : (leftOf es (seen.push b)).toList = (leftOf es seen).toList.filter (fun x => !(x.born == b)) := by
  unfold leftOf
  rw [Array.toList_filter, Array.toList_filter, List.filter_filter]
  congr 1
  funext x
  simp only [Array.contains_push]
  cases seen.contains x.born <;> cases h : (x.born == b) <;> simp_all

/-- What an iterator over the map in block b has still to tell. -/
def LeftO {α β : Type} (b : Nat) (kf : α → Value) (vf : β → Value) (o i : Obj) (L : List (α × β)) : Prop :=
  ∃ es clock seen, o = .map es clock ∧ MapKept.Stamped es clock ∧ i = .mapIter (some b) clock seen clock ∧ (leftOf es seen).toList.map (fun e => (e.key, e.val)) = L.map (fun p => (kf p.1, vf p.2))

/-- What an iterator has told last. -/
def LastO {α β : Type} (b : Nat) (kf : α → Value) (vf : β → Value) (o i : Obj) (p : α × β) : Prop :=
  ∃ es clock seen en, o = .map es clock ∧ MapKept.Stamped es clock ∧ i = .mapIter (some b) clock (Array.push seen en.born) clock ∧ en ∈ es.toList ∧ en.key = kf p.1 ∧ en.val = vf p.2

section
variable {α β : Type} {P : Program} {Q : Ending → World → Prop} {ρ : Lv} {w0 w w' : World} {kt e t ty : TypeId} {kf : α → Value} {vf : β → Value} {b r : Nat} {D L : List (α × β)} {m m1 m2 : Hp} {o i : Obj}

theorem LeftO.plain (h : LeftO b kf vf o i L) : plainO i = true := by
  obtain ⟨es, clock, seen, _, _, rfl, _⟩ := h
  rfl
theorem LeftO.plainM (h : LeftO b kf vf o i L) : plainO o = true := by
  obtain ⟨es, clock, seen, rfl, _⟩ := h
  rfl

theorem s_mrange {k : Value → T} (hb : w.heap[b]? = some o) (h : MapO P kt kf vf o D) (ht : P.underlying t = some (.map kt e))
    (hk : ∀ w' i, LeftO b kf vf o i D → Fr [] w w' → w'.heap[w.heap.size]? = some i → (k (.pointer (some ⟨w.heap.size, 0, none⟩))).sem P Q ρ w') : (T.run (Instr.range t (.map (some b))) k).sem P Q ρ w := by
  obtain ⟨es, clock, rfl, hst, hD⟩ := h.at_
  refine ⟨_, _, run_range_map w t kt e b es clock ht hb, hk _ (.mapIter (some b) clock #[] clock) ⟨es, clock, #[], rfl, hst, rfl, ?_⟩ (Fr.push _) ?_⟩
  · have : leftOf es #[] = es := by unfold leftOf; simp
    rw [this]; exact hD
  · show (w.heap.push _)[w.heap.size]? = _
    exact Array.getElem?_push_size

theorem s_mnext {k : Value → T} (hb : w.heap[b]? = some o) (hr : w.heap[r]? = some i) (h : LeftO b kf vf o i L)
    (hdone : L = [] → (k (.tuple #[.bool false])).sem P Q ρ w)
    (hmore : ∀ p L' w' i', L.Perm (p :: L') → LeftO b kf vf o i' L' → LastO b kf vf o i' p → Fr [r] w w' → w'.heap[r]? = some i' → (k (.tuple #[.bool true, kf p.1, vf p.2])).sem P Q ρ w') :
    (T.run (Instr.next (.pointer (some ⟨r, 0, none⟩)) false ty) k).sem P Q ρ w := by
  obtain ⟨es, clock, seen, rfl, hst, rfl, hL⟩ := h
  rcases run_next_at (P := P) w ty r b clock clock seen es clock hr hb hst.1 (Nat.le_refl _) with ⟨h0, hrun⟩ | ⟨en, hen, w1, hw1, hrun⟩
  · refine ⟨_, _, hrun, hdone ?_⟩
    have : (leftOf es seen).toList = [] := List.eq_nil_of_length_eq_zero (by simpa using h0)
    rw [this] at hL
    simpa using hL.symm
  · obtain ⟨j, hj, he⟩ := List.getElem_of_mem hen
    have hj' : (leftOf es seen).toList[j]? = some en := by rw [List.getElem?_eq_getElem hj, he]
    have hlen : (leftOf es seen).toList.length = L.length := by have := congrArg List.length hL; simpa using this
    have hLj : L[j]? = some (L[j]'(by omega)) := List.getElem?_eq_getElem _
    have hpe : (en.key, en.val) = (kf (L[j]'(by omega)).1, vf (L[j]'(by omega)).2) := by
      have h1 := congrArg (fun l => l[j]?) hL
      simp only [List.getElem?_map, hj', hLj, Option.map_some, Option.some.injEq] at h1
      exact h1
    rw [Prod.mk.injEq] at hpe
    have hnd : ((leftOf es seen).toList.map (·.born)).Nodup := by
      unfold leftOf
      rw [Array.toList_filter]
      exact List.Nodup.sublist (List.Sublist.map _ List.filter_sublist) hst.2.1
    have hset : Fr [r] w (setBlock w1 r (.mapIter (some b) clock (seen.push en.born) clock)) := by
      have : Fr [r] w w1 := by rcases hw1 with rfl | rfl; exact Fr.refl _ _; exact Fr.drew _
      exact this.trans (Fr.putObj (w := w1) (by simp))
    have hat : (setBlock w1 r (.mapIter (some b) clock (seen.push en.born) clock)).heap[r]? = some (.mapIter (some b) clock (seen.push en.born) clock) := by
      have hlt : r < w.heap.size := (Array.getElem?_eq_some_iff.1 hr).1
      have hs : w1.heap = w.heap := by rcases hw1 with rfl | rfl <;> rfl
      show (w1.heap.setIfInBounds r _)[r]? = _
      rw [hs, Array.getElem?_setIfInBounds, if_pos rfl, if_pos hlt]
    refine ⟨_, _, hrun, ?_⟩
    rw [hpe.1, hpe.2]
    refine hmore (L[j]'(by omega)) (L.eraseIdx j) _ _ ?_ ⟨es, clock, seen.push en.born, rfl, hst, rfl, ?_⟩ ⟨es, clock, seen, en, rfl, hst, rfl, ?_, hpe.1, hpe.2⟩ hset hat
    · exact perm_erase hLj
    · rw [left_push, filter_erase hnd hj', Go.ChangeMaps.map_eraseIdx, Go.ChangeMaps.map_eraseIdx, hL]
    · unfold leftOf at hen
      rw [Array.toList_filter] at hen
      exact (List.mem_filter.1 hen).1

theorem s_mentry {k : Value → T} {p : α × β} (hb : w.heap[b]? = some o) (hr : w.heap[r]? = some i) (h : LastO b kf vf o i p) (hk : (k (.tuple #[kf p.1, vf p.2])).sem P Q ρ w) :
    (T.run (Instr.entry (.pointer (some ⟨r, 0, none⟩))) k).sem P Q ρ w := by
  obtain ⟨es, clock, seen, en, rfl, hst, rfl, hen, h1, h2⟩ := h
  refine ⟨_, _, run_entry_at w r b clock seen es clock en hr hb hen hst.2.1, ?_⟩
  rw [h1, h2]
  exact hk

/-- How many entries an iterator has left, as memory tells. -/
def leftN (w : World) (b r : Nat) : Nat :=
  match w.heap[r]?, w.heap[b]? with
  | some (.mapIter _ _ seen _), some (.map es _) => (leftOf es seen).size
  | _, _ => 0
theorem LeftO.num (h : LeftO b kf vf o i L) (hb : w.heap[b]? = some o) (hr : w.heap[r]? = some i) : leftN w b r = L.length := by
  obtain ⟨es, clock, seen, rfl, hst, rfl, hL⟩ := h
  unfold leftN
  rw [hb, hr]
  have := congrArg List.length hL
  simpa using this

theorem h_range {k : Value → T} (H : Has w0 w m) (hp : Pick (b, o) m m1) (h : MapO P kt kf vf o D) (ht : P.underlying t = some (.map kt e))
    (hk : ∀ r w' i, LeftO b kf vf o i D → Has w0 w' ((r, i) :: m) → (k (.pointer (some ⟨r, 0, none⟩))).sem P Q ρ w') : (T.run (Instr.range t (.map (some b))) k).sem P Q ρ w :=
  s_mrange (H.get hp) h ht fun w' i hi hf ho => hk _ w' i hi (H.add hf (Nat.le_refl _) ho)
theorem h_next {k : Value → T} (H : Has w0 w m) (hp : Pick (b, o) m m1) (hr : Pick (r, i) m m2) (h : LeftO b kf vf o i L)
    (hdone : L = [] → (k (.tuple #[.bool false])).sem P Q ρ w)
    (hmore : ∀ p L' w' i', L.Perm (p :: L') → LeftO b kf vf o i' L' → LastO b kf vf o i' p → Has w0 w' ((r, i') :: m2) → (k (.tuple #[.bool true, kf p.1, vf p.2])).sem P Q ρ w') :
    (T.run (Instr.next (.pointer (some ⟨r, 0, none⟩)) false ty) k).sem P Q ρ w :=
  s_mnext (H.get hp) (H.get hr) h hdone fun p L' w' i' h1 h2 h3 hf ho => hmore p L' w' i' h1 h2 h3 (H.upd hr hf ho)
theorem h_entry {k : Value → T} {p : α × β} (H : Has w0 w m) (hp : Pick (b, o) m m1) (hr : Pick (r, i) m m2) (h : LastO b kf vf o i p) (hk : (k (.tuple #[kf p.1, vf p.2])).sem P Q ρ w) :
    (T.run (Instr.entry (.pointer (some ⟨r, 0, none⟩))) k).sem P Q ρ w := s_mentry (H.get hp) (H.get hr) h hk
end

/-! ### Sequences whose order is drawn -/
section
variable {P : Program} {Q : Ending → World → Prop} {ρ : Lv} {w0 w w' : World} {m : Hp}

/-- What a round's invariant stands: new blocks, also those that the function that tells has made for itself (Z). -/
structure HoldsL (I : List (List Value) → Hp → World → Prop) (S : World → Prop) : Prop where
  fr : ∀ {ys Z W W'}, I ys Z W → Fr [] W W' → I ys Z W'
  add : ∀ {ys Z W W' r o}, I ys Z W → Fr [] W W' → W.heap.size ≤ r → W'.heap[r]? = some o → I ys ((r, o) :: Z) W'
  upd : ∀ {ys Z W W' r o o'}, I ys ((r, o) :: Z) W → Fr [r] W W' → W'.heap[r]? = some o' → I ys ((r, o') :: Z) W'
  get : ∀ {ys Z W p}, I ys Z W → p ∈ Z → W.heap[p.1]? = some p.2
  stop : ∀ {W W'}, S W → Fr [] W W' → S W'

abbrev RoundsL (P : Program) (l : Nat) (ok : List (List Value) → List Value → Prop) (I : List (List Value) → Hp → World → Prop) (S : World → Prop) : Prop :=
  ∀ ys Z W as, I ys Z W → ok ys as → Yields P l ⟨as⟩ W fun e W' => ∃ v, e = .returned v ∧ ((v = .bool true ∧ I (ys ++ [as]) Z W') ∨ (v = .bool false ∧ S W'))

/-- A sequence whose order is drawn: function g of these arguments tells, behind ys, one of what is ok; it ends where fin. -/
def SeqL (P : Program) (g : Nat) (args : List Value) (K : World → Prop) (ok : List (List Value) → List Value → Prop) (fin : List (List Value) → Prop) : Prop :=
  ∀ (l : Nat) (w : World) (I : List (List Value) → Hp → World → Prop) (S : World → Prop), HoldsL I S → (∀ ys Z W, I ys Z W → K W) → I [] [] w → RoundsL P l ok I S →
    Calls P g ⟨.func (.yield l) #[] #[] :: args⟩ w fun e w' => (∃ v, e = .returned v) ∧ ((∃ ys Z, fin ys ∧ I ys Z w') ∨ S w')

theorem h_rfL {lv g : Nat} {args : List Value} {body : Nat → List Value → T} {after ret : Nat → T} {K : World → Prop} {ok : List (List Value) → List Value → Prop} {fin : List (List Value) → Prop} (hseq : SeqL P g args K ok fin) (H : Has w0 w m)
    (J : List (List Value) → Hp → Prop) (S : Hp → Prop) (h0 : J [] m)
    (hK : ∀ i mi W, J i mi → Has w0 W mi → K W)
    (hround : ∀ (l : Nat) (rec : Loop) (d : Nat × Obj) (Z : Hp) (ys : List (List Value)) (W : World) (as : List Value) (mi : Hp), rec.state = .ready → rec.pending = none → ok ys as → J ys mi → Has w0 W ((l, .loop rec) :: d :: (Z ++ mi)) →
      (body l as).sem P Q (fun l' x w'' => if l' = lv then
        ((x.headD undef = .bool true ∧ ∃ mi', J (ys ++ [as]) mi' ∧ Has w0 w'' ((l, .loop rec) :: d :: (Z ++ mi'))) ∨ (x.headD undef = .bool false ∧ ∃ mi', S mi' ∧ Has w0 w'' ((l, .loop (stopped rec .ret)) :: d :: mi'))) else ρ l' x w'') W)
    (hafter : ∀ D W ys mi, fin ys → J ys mi → Has w0 W ((D, .deferred (some [])) :: mi) → (after D).sem P Q ρ W)
    (hret : ∀ D W mi, S mi → Has w0 W ((D, .deferred (some [])) :: mi) → (ret D).sem P Q ρ W) :
    (T.rf none lv g args body after ret []).sem P Q ρ w := by
  refine ⟨trivial, ?_⟩
  rintro l D rec w2 ⟨hs, hp, hd, hD, hl, rfl⟩ hY
  subst hD hl
  have H1 : Has w0 { w with heap := w.heap.push (.deferred (some [])) } ((w.heap.size, .deferred (some [])) :: m) := H.add (Fr.push _) (Nat.le_refl _) (by simp)
  have H2 : Has w0 { w with heap := (w.heap.push (.deferred (some []))).push (.loop rec) } ((w.heap.size + 1, .loop rec) :: (w.heap.size, .deferred (some [])) :: m) := by
    refine H1.add (Fr.push (w := { w with heap := w.heap.push (.deferred (some [])) }) (F := []) (.loop rec)) (by simp) ?_
    show ((w.heap.push (.deferred (some []))).push (.loop rec))[w.heap.size + 1]? = _
    rw [show w.heap.size + 1 = (w.heap.push (Obj.deferred (some []))).size by simp]
    exact Array.getElem?_push_size
  generalize hw2 : ({ w with heap := (w.heap.push (.deferred (some []))).push (.loop rec) } : World) = w2 at H2 hY ⊢
  have hperm : ∀ {a b p : Nat × Obj} {Z mi : Hp}, (p :: (a :: b :: (Z ++ mi))).Perm (a :: b :: (p :: Z ++ mi)) := fun {a b p Z mi} =>
    (List.Perm.swap a p _).trans (List.Perm.cons a (List.Perm.swap b p _))
  refine (hseq (w.heap.size + 1) w2 (fun i Z W => ∃ mi, J i mi ∧ Has w0 W ((w.heap.size + 1, .loop rec) :: (w.heap.size, .deferred (some [])) :: (Z ++ mi)))
    (fun W => ∃ mi, S mi ∧ Has w0 W ((w.heap.size + 1, .loop (stopped rec .ret)) :: (w.heap.size, .deferred (some [])) :: mi))
    ⟨fun ⟨mi, a, b⟩ h => ⟨mi, a, b.fr0 h⟩, fun ⟨mi, a, b⟩ h hr ho => ⟨mi, a, (b.add h hr ho).perm hperm⟩, fun ⟨mi, a, b⟩ h ho => ⟨mi, a, (b.upd (hperm (p := _)).symm h ho).perm hperm⟩,
      fun ⟨mi, a, b⟩ hp => b.at_ _ (by simp [hp]), fun ⟨mi, a, b⟩ h => ⟨mi, a, b.fr0 h⟩⟩
    (fun i Z W ⟨mi, a, b⟩ => hK i mi W a (b.drop.drop.right)) ⟨m, h0, H2⟩ ?_).mono ?_
  · rintro ys Z W as ⟨mi, a, b⟩ hi
    refine (hY W as (fun v W' => (v = .bool true ∧ ∃ mi', J (ys ++ [as]) mi' ∧ Has w0 W' ((w.heap.size + 1, .loop rec) :: (w.heap.size, .deferred (some [])) :: (Z ++ mi'))) ∨
      (v = .bool false ∧ ∃ mi', S mi' ∧ Has w0 W' ((w.heap.size + 1, .loop (stopped rec .ret)) :: (w.heap.size, .deferred (some [])) :: mi'))) (b.get pick_head)
      (hround (w.heap.size + 1) rec (w.heap.size, .deferred (some [])) Z ys W as mi hs hp hi a b)).mono ?_
    rintro e W' ⟨v, he, ⟨h0, h1⟩ | ⟨h0, h1⟩⟩
    · exact ⟨v, he, .inl ⟨h0, h1⟩⟩
    · exact ⟨v, he, .inr ⟨h0, h1⟩⟩
  · rintro e w3 ⟨hv, ⟨ys, Z, hfin, mi, a, b⟩ | ⟨mi, a, b⟩⟩
    · have c : ObjAt w3 (w.heap.size + 1) (.loop rec) := b.get pick_head
      have hpf : Fr [w.heap.size + 1] w3 (putObj w3 (w.heap.size + 1) (.loop { rec with state := .exhausted })) := Fr.putObj (by simp)
      have b' := (b.upd pick_head hpf (ObjAt.put c)).drop
      exact ⟨hv, none, _, (endLoop_run c (by rw [hs]; decide)).trans (by rw [hp]), .inl ⟨rfl, hafter _ _ ys mi hfin a (b'.sub (sb_cons pick_head (sb_one (cut_app cut_all))))⟩⟩
    · have c : ObjAt w3 (w.heap.size + 1) (.loop (stopped rec .ret)) := b.get pick_head
      have hpf : Fr [w.heap.size + 1] w3 (putObj w3 (w.heap.size + 1) (.loop { (stopped rec .ret) with state := .exhausted })) := Fr.putObj (by simp)
      have b' := b.upd pick_head hpf (ObjAt.put c)
      exact ⟨hv, some .ret, _, endLoop_run c (by simp [stopped]), .inr (.inl ⟨rfl, hret _ _ mi a b'.drop⟩)⟩
end
end Go.Proofs.YtihipcofjpnfbaaGreatDoor.Tr
