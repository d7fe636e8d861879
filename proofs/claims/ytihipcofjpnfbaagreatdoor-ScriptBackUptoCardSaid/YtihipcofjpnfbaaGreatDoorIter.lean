/- Range over a function: the loop's record in memory, and the steps over it. -/
import Derived.Test.YtihipcofjpnfbaaGreatDoorMem
namespace Go.Proofs.YtihipcofjpnfbaaGreatDoor.Tr
open Go
set_option linter.unusedSimpArgs false
set_option linter.unusedVariables false
open Go.RowKit

def ObjAt (w : World) (b : Nat) (o : Obj) : Prop := w.heap[b]? = some o

section
variable {w w' : World} {b l d : Nat} {o : Obj} {F : List Nat} {P : Program} {Q : Ending → World → Prop} {ρ : Lv} {rec : Loop}

theorem ObjAt.lt (h : ObjAt w b o) : b < w.heap.size := by
  unfold ObjAt at h
  rcases Nat.lt_or_ge b w.heap.size with h' | h'
  · exact h'
  · rw [Array.getElem?_eq_none h'] at h; cases h

theorem ObjAt.fr (h : ObjAt w b o) (hf : Fr F w w') (hb : b ∉ F) : ObjAt w' b o := by
  unfold ObjAt
  rw [hf.block b h.lt hb]
  exact h

/-- The world with an object set. -/
def putObj (w : World) (b : Nat) (o : Obj) : World := { w with heap := w.heap.setIfInBounds b o }
theorem Fr.putObj (hb : b ∈ F) : Fr F w (putObj w b o) :=
  ⟨rfl, rfl, rfl, by simp [Tr.putObj], fun k hk hf => by
    simp only [Tr.putObj, Array.getElem?_setIfInBounds]
    rw [if_neg (fun e : b = k => hf (e ▸ hb))]⟩
theorem ObjAt.put {o' : Obj} (h : ObjAt w b o) : ObjAt (putObj w b o') b o' := by
  unfold ObjAt Tr.putObj
  rw [Array.getElem?_setIfInBounds, if_pos rfl, if_pos h.lt]

theorem setLoop_run (h : ObjAt w b (.loop rec)) (o' : Obj) : (setObj b o').run P w = .ok () (putObj w b o') := by
  have h' : w.heap[b]? = some (.loop rec) := h
  unfold setObj
  simp only [Sem.run, h']
  rfl
theorem setDef_run {x : Option (List Deferred)} (h : ObjAt w b (.deferred x)) (o' : Obj) : (setObj b o').run P w = .ok () (putObj w b o') := by
  have h' : w.heap[b]? = some (.deferred x) := h
  unfold setObj
  simp only [Sem.run, h']
  rfl

theorem s_beg {x : T} (h : ObjAt w l (.loop rec)) (hs : rec.state = .ready)
    (hk : ∀ w', w'.heap.size = w.heap.size → Fr [l] w w' → ObjAt w' l (.loop { rec with state := .busy }) → x.sem P Q ρ w') : (T.beg l x).sem P Q ρ w := by
  refine ⟨putObj w l (.loop { rec with state := .busy }), ?_, hk _ (by simp [putObj]) (Fr.putObj (by simp)) h.put⟩
  unfold Instr.beginRound
  simp only [Sem.run_bind, getLoop_run h, Result.andThen_ok, setLoop_run h, hs]
  rfl

theorem s_end {k : Value → T} (h : ObjAt w l (.loop { rec with state := .busy })) (jump : Option Code)
    (hk : ∀ w', w'.heap.size = w.heap.size → Fr [l] w w' → ObjAt w' l (.loop { rec with state := if jump.isNone then .ready else .done, pending := jump }) → (k (.bool jump.isNone)).sem P Q ρ w') :
    (T.run (Instr.endRound l jump) k).sem P Q ρ w := by
  refine ⟨.bool jump.isNone, putObj w l (.loop { rec with state := if jump.isNone then .ready else .done, pending := jump }), ?_, hk _ (by simp [putObj]) (Fr.putObj (by simp)) h.put⟩
  unfold Instr.endRound
  simp only [Sem.run_bind, getLoop_run h, Result.andThen_ok, setLoop_run h]
  rfl

/-- A round that goes on leaves the record as it was. -/
theorem s_cont {k : Value → T} (h : ObjAt w l (.loop { rec with state := .busy })) (hs : rec.state = .ready) (hp : rec.pending = none)
    (hk : ∀ w', w'.heap.size = w.heap.size → Fr [l] w w' → ObjAt w' l (.loop rec) → (k (.bool true)).sem P Q ρ w') :
    (T.run (Instr.endRound l none) k).sem P Q ρ w := by
  refine s_end h none fun w' z hf ho => hk w' z hf ?_
  cases rec
  simp only at hs hp
  subst hs hp
  exact ho

def stopped (rec : Loop) (jump : Code) : Loop := { rec with state := .done, pending := some jump }
theorem s_stop {k : Value → T} (h : ObjAt w l (.loop { rec with state := .busy })) (jump : Code)
    (hk : ∀ w', w'.heap.size = w.heap.size → Fr [l] w w' → ObjAt w' l (.loop (stopped rec jump)) → (k (.bool false)).sem P Q ρ w') :
    (T.run (Instr.endRound l (some jump)) k).sem P Q ρ w := s_end h (some jump) fun w' z hf ho => hk w' z hf ho

theorem endLoop_run (h : ObjAt w l (.loop rec)) (hs : rec.state ≠ .busy) : (Instr.endLoop l).run P w = .ok rec.pending (putObj w l (.loop { rec with state := .exhausted })) := by
  unfold Instr.endLoop
  have h1 : (rec.state == LoopState.busy) = false := by
    cases rec with
    | mk st => cases st <;> first | rfl | exact absurd rfl hs
  simp only [Sem.run_bind, getLoop_run h, Result.andThen_ok, h1]
  rw [if_neg (by simp)]
  simp only [Sem.run_bind, setLoop_run h, Result.andThen_ok]
  rfl

theorem s_col {x : T} (h : ObjAt w d (.deferred (some []))) (hk : ∀ w', w'.heap.size = w.heap.size → Fr [d] w w' → x.sem P Q ρ w') : (T.col d x).sem P Q ρ w := by
  refine ⟨putObj w d (.deferred none), ?_, hk _ (by simp [putObj]) (Fr.putObj (by simp))⟩
  unfold Instr.takeDeferred
  have hg : (getObj d).run P w = .ok (.deferred (some [])) w := by
    unfold getObj
    have h' : w.heap[d]? = some (.deferred (some [])) := h
    simp only [Sem.run, h']
  simp only [Sem.run_bind, hg, Result.andThen_ok, setDef_run h]
  rfl

/-- Only records of loops and of deferred calls are told of. -/
def Aux (w : World) (F : List Nat) : Prop := ∀ x ∈ F, (∃ r, ObjAt w x (.loop r)) ∨ (∃ r, ObjAt w x (.deferred r))
theorem Aux.nil : Aux w [] := fun x hx => by cases hx
theorem Aux.loop (h : ObjAt w l (.loop rec)) : Aux w [l] := fun x hx => by
  simp at hx
  subst hx
  exact .inl ⟨_, h⟩
theorem Aux.cells (ha : Aux w F) (hf : Fr F w w') {ty : TypeId} {c : List Value} (h : Cells w b ty c) : Cells w' b ty c := by
  refine hf.cells h (fun hb => ?_)
  have h' : w.heap[b]? = some (.cells ⟨c⟩ ty (0, 0)) := h
  rcases ha b hb with ⟨r, hr⟩ | ⟨r, hr⟩ <;> (unfold ObjAt at hr; rw [h'] at hr; cases hr)

/-- How the calls of yield go, for one who has the invariant. -/
abbrev Rounds (P : Program) (l : Nat) (xs : List (List Value)) (I : Nat → World → Prop) (S : World → Prop) : Prop :=
  ∀ i W as, I i W → xs[i]? = some as → Yields P l ⟨as⟩ W fun e W' => ∃ v, e = .returned v ∧ ((v = .bool true ∧ I (i + 1) W') ∨ (v = .bool false ∧ S W'))

/-- What keeps a round's invariant: new blocks, and what loops keep of theirs in blocks from n on. -/
structure Holds (n : Nat) (I : Nat → World → Prop) (S : World → Prop) : Prop where
  go : ∀ i W W' F, I i W → Fr F W W' → Aux W F → (∀ x ∈ F, n ≤ x) → I i W'
  stop : ∀ W W' F, S W → Fr F W W' → Aux W F → (∀ x ∈ F, n ≤ x) → S W'

theorem Holds.go' {n : Nat} {I : Nat → World → Prop} {S : World → Prop} (h : Holds n I S) {i : Nat} (hi : I i w) (hf : Fr [] w w') : I i w' := h.go i _ _ [] hi hf Aux.nil (fun x hx => by cases hx)
theorem Holds.stop' {n : Nat} {I : Nat → World → Prop} {S : World → Prop} (h : Holds n I S) (hi : S w) (hf : Fr [] w w') : S w' := h.stop _ _ [] hi hf Aux.nil (fun x hx => by cases hx)

/-- A sequence: function g of these arguments tells xs, as long as K holds of memory. -/
def Seq (P : Program) (g : Nat) (args : List Value) (K : World → Prop) (xs : List (List Value)) : Prop :=
  ∀ (l : Nat) (w : World) (I : Nat → World → Prop) (S : World → Prop), Holds w.heap.size I S → (∀ i W, I i W → K W) → I 0 w → Rounds P l xs I S →
    Calls P g ⟨.func (.yield l) #[] #[] :: args⟩ w fun e w' => (∃ v, e = .returned v) ∧ (I xs.length w' ∨ S w')

/-- A range over a function, of no loop around. J: what holds before each round; S: what holds when one has been left by a return. -/
theorem s_rf {lv g : Nat} {args : List Value} {body : Nat → List Value → T} {after ret : Nat → T} {K : World → Prop} {xs : List (List Value)} (hseq : Seq P g args K xs)
    (J : Nat → World → Prop) (S : World → Prop) (G : List Nat) (hG : ∀ x ∈ G, x < w.heap.size)
    (hJ : ∀ i W W' F, J i W → Fr F W W' → Aux W F → J i W') (hS : ∀ W W' F, S W → Fr F W W' → Aux W F → S W')
    (hK : ∀ i W, J i W → Fr G w W → K W)
    (h0 : J 0 w)
    (hround : ∀ (l : Nat) (rec : Loop) (i : Nat) (W : World) (as : List Value), w.heap.size ≤ l → rec.state = .ready → rec.pending = none → xs[i]? = some as → J i W → Fr G w W → ObjAt W l (.loop rec) →
      (body l as).sem P Q (fun l' x w'' => if l' = lv then
        ((x.headD undef = .bool true ∧ J (i + 1) w'' ∧ Fr (l :: G) W w'' ∧ ObjAt w'' l (.loop rec)) ∨ (x.headD undef = .bool false ∧ S w'' ∧ Fr (l :: G) W w'' ∧ ObjAt w'' l (.loop (stopped rec .ret)))) else ρ l' x w'') W)
    (hafter : ∀ D W, J xs.length W → Fr G w W → ObjAt W D (.deferred (some [])) → w.heap.size ≤ D → (after D).sem P Q ρ W)
    (hret : ∀ D W, S W → Fr G w W → ObjAt W D (.deferred (some [])) → w.heap.size ≤ D → (ret D).sem P Q ρ W) :
    (T.rf none lv g args body after ret []).sem P Q ρ w := by
  refine ⟨trivial, ?_⟩
  rintro l D rec w2 ⟨hs, hp, hd, hD, hl, rfl⟩ hY
  subst hD hl
  generalize hw2 : ({ w with heap := (w.heap.push (.deferred (some []))).push (.loop rec) } : World) = w2
  have hsz : w2.heap.size = w.heap.size + 2 := by subst hw2; simp
  have hf2 : Fr [] w w2 := by subst hw2; exact (Fr.push (w := w) (F := []) (.deferred (some []))).trans (Fr.push (w := { w with heap := w.heap.push (.deferred (some [])) }) (F := []) (.loop rec))
  have hloop : ObjAt w2 (w.heap.size + 1) (.loop rec) := by
    subst hw2
    unfold ObjAt
    rw [show w.heap.size + 1 = (w.heap.push (.deferred (some []))).size by simp]
    exact Array.getElem?_push_size
  have hdef : ObjAt w2 w.heap.size (.deferred (some [])) := by
    subst hw2
    unfold ObjAt
    simp only [Array.getElem?_push, Array.size_push]
    rw [if_neg (by omega), if_pos trivial]
  have hfr : ∀ {W : World}, Fr ((w.heap.size + 1) :: G) w2 W → Fr G w W := fun h => hf2.nil.trans' h (fun x hx => by
    rcases List.mem_cons.1 hx with rfl | hx
    · exact .inr (by omega)
    · exact .inl hx)
  have hdG : w.heap.size ∉ (w.heap.size + 1) :: G := fun hx => by
    rcases List.mem_cons.1 hx with hx | hx
    · omega
    · exact absurd (hG _ hx) (by omega)
  have hback : ∀ {W W' : World} {F : List Nat}, Fr ((w.heap.size + 1) :: G) w2 W → Fr F W W' → (∀ x ∈ F, w2.heap.size ≤ x) → Fr ((w.heap.size + 1) :: G) w2 W' := fun h h' hF => h.trans' h' (fun x hx => .inr (hF x hx))
  have hne : ∀ {F : List Nat}, (∀ x ∈ F, w2.heap.size ≤ x) → w.heap.size + 1 ∉ F := fun hF hx => absurd (hF _ hx) (by omega)
  refine (hseq (w.heap.size + 1) w2 (fun i W => J i W ∧ Fr ((w.heap.size + 1) :: G) w2 W ∧ ObjAt W (w.heap.size + 1) (.loop rec))
    (fun W => S W ∧ Fr ((w.heap.size + 1) :: G) w2 W ∧ ObjAt W (w.heap.size + 1) (.loop (stopped rec .ret)))
    ⟨fun i W W' F ⟨a, b, c⟩ h ha hF => ⟨hJ i W W' F a h ha, hback b h hF, c.fr h (hne hF)⟩, fun W W' F ⟨a, b, c⟩ h ha hF => ⟨hS W W' F a h ha, hback b h hF, c.fr h (hne hF)⟩⟩
    (fun i W ⟨a, b, c⟩ => hK i W a (hfr b)) ⟨hJ 0 w w2 [] h0 hf2 Aux.nil, Fr.refl _ _, hloop⟩ ?_).mono ?_
  · intro i W as ⟨a, b, c⟩ hi
    refine (hY W as (fun v W' => (v = .bool true ∧ J (i + 1) W' ∧ Fr ((w.heap.size + 1) :: G) W W' ∧ ObjAt W' (w.heap.size + 1) (.loop rec)) ∨
      (v = .bool false ∧ S W' ∧ Fr ((w.heap.size + 1) :: G) W W' ∧ ObjAt W' (w.heap.size + 1) (.loop (stopped rec .ret)))) c
      (hround (w.heap.size + 1) rec i W as (by omega) hs hp hi a (hfr b) c)).mono ?_
    rintro e W' ⟨v, he, ⟨h0, h1, h2, h3⟩ | ⟨h0, h1, h2, h3⟩⟩
    · exact ⟨v, he, .inl ⟨h0, h1, b.trans h2, h3⟩⟩
    · exact ⟨v, he, .inr ⟨h0, h1, b.trans h2, h3⟩⟩
  · rintro e w3 ⟨hv, h | h⟩
    · obtain ⟨a, b, c⟩ := h
      have hpf : Fr [w.heap.size + 1] w3 (putObj w3 (w.heap.size + 1) (.loop { rec with state := .exhausted })) := Fr.putObj (by simp)
      have hdef3 := (hdef.fr b hdG).fr hpf (by simp)
      refine ⟨hv, none, _, (endLoop_run c (by rw [hs]; decide)).trans (by rw [hp]), .inl ⟨rfl, hafter _ _ (hJ _ _ _ _ a hpf (Aux.loop c)) ?_ hdef3 (Nat.le_refl _)⟩⟩
      exact hfr (b.trans (hpf.mono (by simp)))
    · obtain ⟨a, b, c⟩ := h
      have hpf : Fr [w.heap.size + 1] w3 (putObj w3 (w.heap.size + 1) (.loop { (stopped rec .ret) with state := .exhausted })) := Fr.putObj (by simp)
      have hdef3 := (hdef.fr b hdG).fr hpf (by simp)
      refine ⟨hv, some .ret, _, endLoop_run c (by simp [stopped]), .inr (.inl ⟨rfl, hret _ _ (hS _ _ _ a hpf (Aux.loop c)) ?_ hdef3 (Nat.le_refl _)⟩)⟩
      exact hfr (b.trans (hpf.mono (by simp)))
end

end Go.Proofs.YtihipcofjpnfbaaGreatDoor.Tr
