/- Sequences that tell what lies in memory that they have made for themselves: range over functions that tell them. -/
import Derived.Test.YtndkffhlheaepaaRanges
namespace Go.Proofs.Ytndkffhlheaepaa.Tr
open Go
set_option linter.unusedSimpArgs false
set_option linter.unusedVariables false
set_option linter.unusedSectionVars false
open Go.RowKit

section
variable {P : Program} {Q : Ending → World → Prop} {ρ : Lv} {w0 w w' : World} {m : Hp}

/-- What a round's invariant stands: new blocks, also those that the function that tells has made for itself (Z). -/
structure HoldsZ (I : List (List Value) → Hp → World → Prop) (S : World → Prop) : Prop where
  fr : ∀ {ys Z W W'}, I ys Z W → Fr [] W W' → I ys Z W'
  add : ∀ {ys Z W W' r o}, I ys Z W → Fr [] W W' → W.heap.size ≤ r → W'.heap[r]? = some o → I ys ((r, o) :: Z) W'
  get : ∀ {ys Z W p}, I ys Z W → p ∈ Z → W.heap[p.1]? = some p.2
  stop : ∀ {W W'}, S W → Fr [] W W' → S W'

abbrev RoundsZ (P : Program) (l : Nat) (ok : List (List Value) → Hp → List Value → Prop) (I : List (List Value) → Hp → World → Prop) (S : World → Prop) : Prop :=
  ∀ ys Z W as, I ys Z W → ok ys Z as → Yields P l ⟨as⟩ W fun e W' => ∃ v, e = .returned v ∧ ((v = .bool true ∧ I (ys ++ [as]) Z W') ∨ (v = .bool false ∧ S W'))

/-- A sequence whose order is drawn: function g of these arguments tells, behind ys, one of what is ok; it ends where fin. -/
def SeqZ (P : Program) (g : Nat) (args : List Value) (K : World → Prop) (ok : List (List Value) → Hp → List Value → Prop) (fin : List (List Value) → Prop) : Prop :=
  ∀ (l : Nat) (w : World) (I : List (List Value) → Hp → World → Prop) (S : World → Prop), HoldsZ I S → (∀ ys Z W, I ys Z W → K W) → I [] [] w → RoundsZ P l ok I S →
    Calls P g ⟨.func (.yield l) #[] #[] :: args⟩ w fun e w' => (∃ v, e = .returned v) ∧ ((∃ ys Z, fin ys ∧ I ys Z w') ∨ S w')

theorem h_rfZ {lv g : Nat} {args : List Value} {body : Nat → List Value → T} {after ret : Nat → T} {K : World → Prop} {ok : List (List Value) → Hp → List Value → Prop} {fin : List (List Value) → Prop} (hseq : SeqZ P g args K ok fin) (H : Has w0 w m)
    (J : List (List Value) → Hp → Hp → Prop) (S : Hp → Prop) (hadd : ∀ ys Z mi p, J ys Z mi → J ys (p :: Z) mi) (h0 : J [] [] m)
    (hK : ∀ i Z mi W, J i Z mi → Has w0 W (Z ++ mi) → K W)
    (hround : ∀ (l : Nat) (rec : Loop) (d : Nat × Obj) (Z : Hp) (ys : List (List Value)) (W : World) (as : List Value) (mi : Hp), rec.state = .ready → rec.pending = none → ok ys Z as → J ys Z mi → Has w0 W ((l, .loop rec) :: d :: (Z ++ mi)) →
      (body l as).sem P Q (fun l' x w'' => if l' = lv then
        ((x.headD undef = .bool true ∧ ∃ mi', J (ys ++ [as]) Z mi' ∧ Has w0 w'' ((l, .loop rec) :: d :: (Z ++ mi'))) ∨ (x.headD undef = .bool false ∧ ∃ mi', S mi' ∧ Has w0 w'' ((l, .loop (stopped rec .ret)) :: d :: mi'))) else ρ l' x w'') W)
    (hafter : ∀ D W ys Z mi, fin ys → J ys Z mi → Has w0 W ((D, .deferred (some [])) :: (Z ++ mi)) → (after D).sem P Q ρ W)
    (hret : ∀ D W mi, S mi → Has w0 W ((D, .deferred (some [])) :: mi) → (ret D).sem P Q ρ W) :
    (T.rf none lv g args body after ret []).sem P Q ρ w := by
  refine ⟨trivial, ?_⟩
  rintro l D rec w2 ⟨hs, hp, hd, hD, hl, rfl⟩ hY
  subst hD hl
  have H1 : Has w0 { w with heap := w.heap.push (.deferred (some [])) } ((w.heap.size, .deferred (some [])) :: m) := H.add (Fr.push _) (Nat.le_refl _) (by simp)
  have H2 : Has w0 { w with heap := (w.heap.push (.deferred (some []))).push (.loop rec) } ((w.heap.size + 1, .loop rec) :: (w.heap.size, .deferred (some [])) :: m) := by
    refine H1.add (Fr.push (w := { w with heap := w.heap.push (.deferred (some [])) }) (F := []) (.loop rec)) (by simp) ?_
    show ((w.heap.push (.deferred (some []))).push (.loop rec))[w.heap.size + 1]? = _
    rw [show w.heap.size + 1 = (w.heap.push (Obj.deferred (some []))).size by simp]
    exact Array.getElem?_push_size
  generalize hw2 : ({ w with heap := (w.heap.push (.deferred (some []))).push (.loop rec) } : World) = w2 at H2 hY ⊢
  have hperm : ∀ {a b p : Nat × Obj} {Z mi : Hp}, (p :: (a :: b :: (Z ++ mi))).Perm (a :: b :: (p :: Z ++ mi)) := fun {a b p Z mi} =>
    (List.Perm.swap a p _).trans (List.Perm.cons a (List.Perm.swap b p _))
  refine (hseq (w.heap.size + 1) w2 (fun i Z W => ∃ mi, J i Z mi ∧ Has w0 W ((w.heap.size + 1, .loop rec) :: (w.heap.size, .deferred (some [])) :: (Z ++ mi)))
    (fun W => ∃ mi, S mi ∧ Has w0 W ((w.heap.size + 1, .loop (stopped rec .ret)) :: (w.heap.size, .deferred (some [])) :: mi))
    ⟨fun ⟨mi, a, b⟩ h => ⟨mi, a, b.fr0 h⟩, fun ⟨mi, a, b⟩ h hr ho => ⟨mi, hadd _ _ _ _ a, (b.add h hr ho).perm hperm⟩,
      fun ⟨mi, a, b⟩ hp => b.at_ _ (by simp [hp]), fun ⟨mi, a, b⟩ h => ⟨mi, a, b.fr0 h⟩⟩
    (fun i Z W ⟨mi, a, b⟩ => hK i Z mi W a b.drop.drop) ⟨m, h0, H2⟩ ?_).mono ?_
  · rintro ys Z W as ⟨mi, a, b⟩ hi
    refine (hY W as (fun v W' => (v = .bool true ∧ ∃ mi', J (ys ++ [as]) Z mi' ∧ Has w0 W' ((w.heap.size + 1, .loop rec) :: (w.heap.size, .deferred (some [])) :: (Z ++ mi'))) ∨
      (v = .bool false ∧ ∃ mi', S mi' ∧ Has w0 W' ((w.heap.size + 1, .loop (stopped rec .ret)) :: (w.heap.size, .deferred (some [])) :: mi'))) (b.get pick_head)
      (hround (w.heap.size + 1) rec (w.heap.size, .deferred (some [])) Z ys W as mi hs hp hi a b)).mono ?_
    rintro e W' ⟨v, he, ⟨h0, h1⟩ | ⟨h0, h1⟩⟩
    · exact ⟨v, he, .inl ⟨h0, h1⟩⟩
    · exact ⟨v, he, .inr ⟨h0, h1⟩⟩
  · rintro e w3 ⟨hv, ⟨ys, Z, hfin, mi, a, b⟩ | ⟨mi, a, b⟩⟩
    · have c : ObjAt w3 (w.heap.size + 1) (.loop rec) := b.get pick_head
      have hpf : Fr [w.heap.size + 1] w3 (putObj w3 (w.heap.size + 1) (.loop { rec with state := .exhausted })) := Fr.putObj (by simp)
      have b' := (b.upd pick_head hpf (ObjAt.put c)).drop
      exact ⟨hv, none, _, (endLoop_run c (by rw [hs]; decide)).trans (by rw [hp]), .inl ⟨rfl, hafter _ _ ys Z mi hfin a b'⟩⟩
    · have c : ObjAt w3 (w.heap.size + 1) (.loop (stopped rec .ret)) := b.get pick_head
      have hpf : Fr [w.heap.size + 1] w3 (putObj w3 (w.heap.size + 1) (.loop { (stopped rec .ret) with state := .exhausted })) := Fr.putObj (by simp)
      have b' := b.upd pick_head hpf (ObjAt.put c)
      exact ⟨hv, some .ret, _, endLoop_run c (by simp [stopped]), .inr (.inl ⟨rfl, hret _ _ mi a b'.drop⟩)⟩
end
end Go.Proofs.Ytndkffhlheaepaa.Tr
