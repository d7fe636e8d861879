/- A function's whole code as a tree, and that a call comes to what the tree is worth. -/
import Derived.Test.YtihipcofjpnfbaaGreatDoorPlan
namespace Go.Proofs.YtihipcofjpnfbaaGreatDoor.Tr
open Go
set_option linter.unusedSimpArgs false
set_option linter.unusedVariables false

/-- What is said of a code's loops (the slots that a round carries, with their kinds; those that it keeps) and of the blocks behind which ways meet. -/
inductive Ann where
  | n
  | s (a b : Ann)
  | c (c : List (Nat × Lk)) (k : List Nat) (a b : Ann)
  | b (c : List (Nat × Lk)) (k : List Nat) (a : Ann)
  | u (a : Ann)
  | p (l : List Nat)
  | f (ks : List Lk) (a b : Ann)
  | l (c : List (Nat × Lk)) (k : List Nat) (a : Ann)

def Ann.fst : Ann → Ann
  | .s a _ => a
  | .c _ _ a _ => a
  | .f _ a _ => a
  | _ => .n
def Ann.snd : Ann → Ann
  | .s _ y => y
  | .c _ _ _ y => y
  | .f _ _ y => y
  | _ => .n

def withVs : List (Nat × Lk) → List Value → List (Nat × SV) → (List (Nat × SV) → T) → T
  | [], _, acc, k => k acc
  | (s, lk) :: r, vs, acc, k => typedV lk (vs.headD undef) fun sv => withVs r vs.tail ((s, sv) :: acc) k

def keepL (e : Env) (ks : List Nat) : List (Nat × SV) := ks.map fun s => (s, e.get s)
def valsOf (e : Env) (ks : List Nat) : List Value := ks.map fun s => (e.get s).val
def carL (c : List (Nat × Lk)) : List Nat := c.map (·.1)

def allLt (n : Nat) : List Nat → Bool
  | [] => true
  | i :: r => match Nat.blt i n with
    | true => allLt n r
    | false => false

def setPs (n : Nat) : List (Tmp × Lk) → List Value → Env → (Env → T) → T
  | [], _, e, k => k e
  | (t, lk) :: r, vs, e, k => typedV lk (vs.headD undef) fun sv => putT n (some t) sv e fun e => setPs n r vs.tail e k

def exitsOf : Code → List Nat
  | .exit i => [i]
  | .seq a b => exitsOf a ++ exitsOf b
  | .cond _ a b => exitsOf a ++ exitsOf b
  | .block _ c => exitsOf c
  | .loop c => exitsOf c
  | .scope c => exitsOf c
  | _ => []

def argL : Nat → List SV → List (Nat × SV)
  | _, [] => []
  | i, s :: r => (i, s) :: argL (i + 1) r

def env0 (args : List SV) : Env := ⟨argL 0 args, fun _ => undef, []⟩

/-- Reading the results. -/
def resT (P : Program) : List ResultVar → Env → (List Value → T) → T
  | [], _, k => k []
  | .tmp t :: r, e, k => resT P r e fun l => k ((e.get t).val :: l)
  | .cell a t :: r, e, k => match e.get a with
    | .p b off => ldT P t b off fun s _ => resT P r e fun l => k (s.val :: l)
    | _ => .bad

def retV : List Value → Value
  | [v] => v
  | vs => .tuple ⟨vs⟩


/-- Leaving a function: its deferred calls, the last one first; then its results are read. -/
def leaveT (P : Program) (rs : List ResultVar) (e : Env) : List Deferred → Option Value → T
  | [], none => resT P rs e fun l => .ret (retV l)
  | [], some v => .pan v
  | d :: ds, m => match d.target with
    | .collected D => .col D (leaveT P rs e ds m)
    | .fn (.func g) cap => match callOk P g with
      | true => .dcall g (d.args.toList ++ cap.toList) m (leaveT P rs e ds none) (leaveT P rs e ds m)
      | false => .bad
    | _ => .bad

/-- A panic: out of a function; out of a round: none. -/
def pkOf (P : Program) (fl : Option (List ResultVar)) : Env → Value → T := fun e v => match fl with
  | some rs => leaveT P rs e e.ds (some v)
  | none => .bad
/-- The slots that the results' reading looks at. -/
def slotsR : List ResultVar → List Nat
  | [] => []
  | .tmp t :: r => t :: slotsR r
  | .cell a _ :: r => a :: slotsR r
def freeR (rs : List ResultVar) (ops : Array Oper) : Bool := ops.toList.all fun o => match o.dst with
  | none => true
  | some d => !((slotsR rs).any (Nat.beq d))
/-- A panic in a region that draws its order. -/
def pkD (P : Program) (fl : Option (List ResultVar)) (ops : Array Oper) : Env → Value → T := fun e v => match fl, e.ds with
  | some _, [] => .pan v
  | some rs, _ :: _ => match freeR rs ops with
    | true => leaveT P rs e e.ds (some v)
    | false => .bad
  | none, _ => .bad

def marked (r : Option Nat) (e : Env) (D : Nat) : Env :=
  match r with
  | none => ⟨e.l, e.d, { target := .collected D, args := #[] } :: e.ds⟩
  | some _ => e

section
variable (P : Program) (n : Nat)

def comp : Code → Option Nat → Option (List ResultVar) → Ann → Nat → (Exit → Env → T) → Env → T
  | .skip, _, _, _, _, K, e => K .normal e
  | .label _, _, _, _, _, K, e => K .normal e
  | .region _ ops false, r, pk, _, _, K, e => seqT P n ops r (pkOf P pk) (List.range ops.size) e (K .normal)
  | .region _ ops true, r, pk, .p pl, _, K, e => match Region.noSelect ops, lookThrough ops ops.toList 0 [], Nat.beq pl.length ops.size with
    | true, true, true => .drew (drawP P n ops (pkD P pk ops) pl 0 [] e (K .normal))
    | _, _, _ => .bad
  | .region _ ops true, r, pk, _, _, K, e => match Region.noSelect ops with
    | true => .drew (drawT P n ops (pkD P pk ops) ops.size (Array.replicate ops.size false) [] e (K .normal))
    | false => .bad
  | .seq a b, r, pk, .c cs ks x y, lv, K, e => match allLt n (carL cs), allLt n ks with
    | true, true => .blk lv (fun vs j => withVs cs vs (keepL e ks) fun l => comp b r pk y lv K ⟨l, j, e.ds⟩)
      (comp a r pk x (lv + 1) (fun ex e' => match ex with
        | .normal => .next lv (valsOf e' (carL cs)) (valsOf e' ks = valsOf e ks ∧ e'.ds = e.ds)
        | ex => K ex e') e)
    | _, _ => .bad
  | .seq a b, r, pk, an, lv, K, e => comp a r pk an.fst lv (fun ex e => match ex with
    | .normal => comp b r pk an.snd lv K e
    | ex => K ex e) e
  | .cond c x y, r, pk, an, lv, K, e => match ev e c with
    | .t => comp x r pk an.fst lv K e
    | .f => comp y r pk an.snd lv K e
    | .v (.bool b) => .ite b (comp x r pk an.fst lv K e) (comp y r pk an.snd lv K e)
    | _ => .bad
  | .block id c, r, pk, .b cs ks an, lv, K, e => match allLt n (carL cs), allLt n ks with
    | true, true => .blk lv (fun vs j => withVs cs vs (keepL e ks) fun l => K .normal ⟨l, j, e.ds⟩)
      (comp c r pk an (lv + 1) (fun ex e' => match ex with
        | .normal => .next lv (valsOf e' (carL cs)) (valsOf e' ks = valsOf e ks ∧ e'.ds = e.ds)
        | .exit i => match Nat.beq i id with
          | true => .next lv (valsOf e' (carL cs)) (valsOf e' ks = valsOf e ks ∧ e'.ds = e.ds)
          | false => K (.exit i) e'
        | ex => K ex e') e)
    | _, _ => .bad
  | .block id c, r, pk, an, lv, K, e => comp c r pk (match an with | .u a => a | a => a) lv (fun ex e' => match ex with
    | .exit i => match Nat.beq i id with
      | true => K .normal e'
      | false => K (.exit i) e'
    | ex => K ex e') e
  | .loop c, r, pk, .l cs ks an, lv, K, e => match allLt n (carL cs), allLt n ks with
    | true, true => .loop lv (valsOf e (carL cs)) fun vs j => withVs cs vs (keepL e ks) fun l =>
      comp c r pk an (lv + 1) (fun ex e' => match ex with
        | .normal => .next lv (valsOf e' (carL cs)) (valsOf e' ks = valsOf e ks ∧ e'.ds = e.ds)
        | ex => K ex e') ⟨l, j, e.ds⟩
    | _, _ => .bad
  | .exit id, _, _, _, _, K, e => K (.exit id) e
  | .ret, _, _, _, _, K, e => K .ret e
  | .rangeFunc g params assign body, r, pk, .f ks x y, lv, K, e => match (ev e g).val with
    | .func (.func f) first cap => match first.toList, callOk P f, Nat.beq params.size ks.length with
      | [], true, true => .rf r lv f cap.toList
          (fun l as => .req (as.length = params.size) (setPs n (params.toList.zip ks) as ⟨e.l, e.d, []⟩ fun e =>
            comp assign (some l) none x (lv + 1) (fun ex e1 => match ex with
              | .normal => .beg l (comp body (some l) none y (lv + 1) (fun ex e2 => match ex with
                | .normal => .run (Instr.endRound l none) fun v => .next lv [v] True
                | .ret => .run (Instr.endRound l (some .ret)) fun v => .next lv [v] True
                | .exit i => .run (Instr.endRound l (some (.exit i))) fun v => .next lv [v] True
                | _ => .bad) e1)
              | _ => .bad) e))
          (fun D => K .normal (marked r e D))
          (fun D => K .ret (marked r e D))
          ((exitsOf body).map fun i => (i, fun D => K (.exit i) (marked r e D)))
      | _, _, _ => .bad
    | _ => .bad
  | _, _, _, _, _, _, _ => .bad
end

section
variable {P : Program} {Q : Ending → World → Prop} {ρ : Lv} {w : World} {n : Nat}

def Agree (lv : Nat) (ρ ρ' : Lv) : Prop := ∀ l, l < lv → ρ' l = ρ l

/-- The ending of a code. -/
def QX (P : Program) (Q : Ending → World → Prop) (n : Nat) (pk : Option (List ResultVar)) (K : Exit → Env → T) (ρ : Lv) (lv : Nat) : Exit → Act → World → Prop
  | .panic c, a, w => ∃ v e ρ', c = [{ v, recovered := false }] ∧ Rel n e a ∧ Agree lv ρ ρ' ∧ (pkOf P pk e v).sem P Q ρ' w
  | .outgrown, _, _ => False
  | ex, a, w => ∃ e ρ', Rel n e a ∧ Agree lv ρ ρ' ∧ (K ex e).sem P Q ρ' w

theorem allLt_mem : ∀ {l : List Nat}, allLt n l = true → ∀ i ∈ l, i < n
  | i :: r, h, j, hj => by
    unfold allLt at h
    split at h
    · rename_i hb
      rcases List.mem_cons.1 hj with rfl | hj
      · exact blt_lt hb
      · exact allLt_mem h j hj
    · cases h

theorem find_rel {a : Act} {t : Nat} : ∀ {l : List (Nat × SV)}, (∀ x ∈ l, x.2.val = a.tmps.getD x.1 undef) → (Env.find (fun t => a.tmps.getD t undef) t l).val = a.tmps.getD t undef
  | [], _ => rfl
  | (i, s) :: r, h => by
    unfold Env.find
    cases hb : Nat.beq i t with
    | true =>
      have := Nat.eq_of_beq_eq_true hb
      subst this
      exact h (i, s) (List.mem_cons_self ..)
    | false => exact find_rel (l := r) fun x hx => h x (List.mem_cons_of_mem _ hx)

theorem rel_of {a : Act} {l : List (Nat × SV)} {ds : List Deferred} (hs : a.tmps.size = n) (h : ∀ x ∈ l, x.2.val = a.tmps.getD x.1 undef) (hd : a.defers = ds) : Rel n ⟨l, fun t => a.tmps.getD t undef, ds⟩ a :=
  ⟨hs, fun t => (find_rel h).symm, hd⟩

theorem withVs_sound {a : Act} {k : List (Nat × SV) → T} : ∀ {cs : List (Nat × Lk)} {acc : List (Nat × SV)}, (∀ x ∈ acc, x.2.val = a.tmps.getD x.1 undef) →
    (withVs cs ((carL cs).map fun s => a.tmps.getD s undef) acc k).sem P Q ρ w → ∃ l, (∀ x ∈ l, x.2.val = a.tmps.getD x.1 undef) ∧ (k l).sem P Q ρ w
  | [], acc, h, hs => ⟨acc, h, hs⟩
  | (s, lk) :: r, acc, h, hs => by
    unfold withVs at hs
    simp only [carL, List.map_cons, List.headD_cons, List.tail_cons] at hs
    obtain ⟨sv, h1, h2⟩ := typedV_sound hs
    refine withVs_sound (cs := r) (acc := (s, sv) :: acc) ?_ h2
    intro x hx
    rcases List.mem_cons.1 hx with rfl | hx
    · exact h1
    · exact h x hx

theorem Rel.vals {e : Env} {a : Act} (h : Rel n e a) (ks : List Nat) : valsOf e ks = ks.map fun s => a.tmps.getD s undef := by
  unfold valsOf
  exact List.map_congr_left fun s _ => (h.slot s).symm

theorem keep_rel {e e' : Env} {a : Act} (h : Rel n e' a) {ks : List Nat} (hk : valsOf e' ks = valsOf e ks) : ∀ x ∈ keepL e ks, x.2.val = a.tmps.getD x.1 undef := by
  intro x hx
  unfold keepL at hx
  obtain ⟨s, hs, rfl⟩ := List.mem_map.1 hx
  have h1 := (List.map_inj_left.1 hk) s hs
  rw [h.slot s, ← h1]

theorem keep_rel' {e : Env} {a : Act} {ks : List Nat} (hk : (ks.map fun s => a.tmps.getD s undef) = valsOf e ks) : ∀ x ∈ keepL e ks, x.2.val = a.tmps.getD x.1 undef := by
  intro x hx
  unfold keepL at hx
  obtain ⟨s, hs, rfl⟩ := List.mem_map.1 hx
  exact ((List.map_inj_left.1 hk) s hs).symm

theorem setPs_sound {n : Nat} : ∀ {ps : List (Tmp × Lk)} {vs : List Value} {e : Env} {a : Act} {k : Env → T}, vs.length = ps.length → Rel n e a → (setPs n ps vs e k).sem P Q ρ w →
    ∃ e', Rel n e' { tmps := ((ps.map (·.1)).zip vs).foldl (fun tmps (x : Tmp × Value) => tmps.setIfInBounds x.1 x.2) a.tmps, defers := a.defers } ∧ (k e').sem P Q ρ w
  | [], [], e, a, k, _, hr, h => ⟨e, hr, h⟩
  | (t, lk) :: r, v :: vs, e, a, k, hl, hr, h => by
    unfold setPs at h
    simp only [List.headD_cons, List.tail_cons] at h
    obtain ⟨sv, rfl, h2⟩ := typedV_sound h
    obtain ⟨e', hr', h3⟩ := putT_sound hr h2
    have hl' : vs.length = r.length := by simpa using hl
    exact setPs_sound (ps := r) hl' hr' h3

theorem exits_sound {jump : Option Code} {D : Nat} {f : Nat → Nat → T} : ∀ {l : List Nat}, exitsSem P Q ρ jump D w (l.map fun i => (i, f i)) → ∃ i, jump = some (.exit i) ∧ (f i D).sem P Q ρ w
  | i :: r, h => by
    simp only [List.map_cons, exitsSem] at h
    rcases h with h | h
    · exact ⟨i, h⟩
    · exact exits_sound (l := r) h

theorem getLoop_run {l : Nat} {rec : Loop} (h : w.heap[l]? = some (.loop rec)) : (Instr.getLoop l).run P w = .ok rec w := by
  unfold Instr.getLoop getObj
  show (Sem.bind _ _).run P w = _
  simp only [Sem.bind, Sem.run, h]
  rfl

theorem yield_run {l : Nat} {rec : Loop} {as : List Value} (h : w.heap[l]? = some (.loop rec)) (hl : as.length = rec.params.size) :
    (Instr.yield l ⟨as⟩).run P w = .ok (.round l rec.fn ((rec.params.toList.zip as).foldl (fun tmps (x : Tmp × Value) => tmps.setIfInBounds x.1 x.2) rec.tmps) rec.assign rec.body) w := by
  unfold Instr.yield
  simp only [Sem.run_bind, getLoop_run h, Result.andThen_ok]
  have h1 : ¬ ((⟨as⟩ : Array Value).size ≠ rec.params.size) := by simpa using hl
  rw [if_neg h1]
  simp only [Sem.run_pure, Sem.run_bind, Result.andThen_ok]
  congr 2
  have : (rec.params.zip (⟨as⟩ : Array Value)) = ⟨rec.params.toList.zip as⟩ := by apply Array.ext'; simp
  rw [this]
  simp

theorem find_map (d : Nat → Value) (g : Nat → SV) : ∀ (ss : List Nat) (t : Nat), t ∈ ss → Env.find d t (ss.map fun t => (t, g t)) = g t
  | a :: r, t, h => by
    rw [List.map_cons, Env.find]
    by_cases ha : a = t
    · subst ha; simp
    · have hb : Nat.beq a t = false := by
        cases hh : Nat.beq a t with
        | false => rfl
        | true => exact absurd (Nat.eq_of_beq_eq_true hh) ha
      simp only [hb]
      exact find_map d g r t ((List.mem_cons.1 h).resolve_left (fun e => ha e.symm))
theorem resT_congr {e e' : Env} : ∀ {rs : List ResultVar} {k : List Value → T}, (∀ t ∈ slotsR rs, e.get t = e'.get t) → resT P rs e k = resT P rs e' k
  | [], k, _ => rfl
  | .tmp t :: r, k, h => by
    unfold resT
    rw [h t (by simp [slotsR])]
    exact resT_congr (fun u hu => h u (by simp [slotsR, hu]))
  | .cell a t :: r, k, h => by
    have ih : ∀ k, resT P r e k = resT P r e' k := fun k => resT_congr (fun u hu => h u (by simp [slotsR, hu]))
    unfold resT
    rw [h a (by simp [slotsR])]
    cases e'.get a <;> simp only [ih]
theorem leaveT_congr {e e' : Env} {rs : List ResultVar} (h : ∀ t ∈ slotsR rs, e.get t = e'.get t) : ∀ (ds : List Deferred) (m : Option Value), leaveT P rs e ds m = leaveT P rs e' ds m
  | [], none => by unfold leaveT; exact resT_congr h
  | [], some v => by unfold leaveT; rfl
  | d :: ds, m => by
    have h1 := fun m => leaveT_congr h ds m
    unfold leaveT
    simp only [h1]

theorem comp_sound (hm : P.follows .mixedOrders = true) : ∀ (c : Code) (r : Option Nat) (pk : Option (List ResultVar)) (an : Ann) (lv : Nat) (K : Exit → Env → T) (e : Env) (ρ : Lv) (a : Act) (w : World), Rel n e a →
    (comp P n c r pk an lv K e).sem P Q ρ w → c.wpIn (FF r) 0 P (QX P Q n pk K ρ lv) a w := by
  intro c
  induction c with
  | skip =>
    intro r pk an lv K e ρ a w hr h
    unfold comp at h
    exact wpIn_skip ⟨e, ρ, hr, fun _ _ => rfl, h⟩
  | label l =>
    intro r pk an lv K e ρ a w hr h
    unfold comp at h
    exact wpIn_label ⟨e, ρ, hr, fun _ _ => rfl, h⟩
  | exit id =>
    intro r pk an lv K e ρ a w hr h
    unfold comp at h
    exact wpIn_exit ⟨e, ρ, hr, fun _ _ => rfl, h⟩
  | ret =>
    intro r pk an lv K e ρ a w hr h
    unfold comp at h
    exact wpIn_ret ⟨e, ρ, hr, fun _ _ => rfl, h⟩
  | region id ops dr =>
    intro r pk an lv K e ρ a w hr h
    have hN : ∀ a w, At P Q ρ n (K .normal) a w → QX P Q n pk K ρ lv .normal a w := fun a w ⟨e, h1, h3⟩ => ⟨e, ρ, h1, fun _ _ => rfl, h3⟩
    have hX : ∀ v e a w, Rel n e a → (pkOf P pk e v).sem P Q ρ w → QX P Q n pk K ρ lv (.panic [{ v, recovered := false }]) a w := fun v e a w h1 h2 => ⟨v, e, ρ, rfl, h1, fun _ _ => rfl, h2⟩
    cases dr with
    | false =>
      unfold comp at h
      exact wpIn_region (seqT_sound hX _ e _ a w hr hN h)
    | true =>
      let XD : Exit → Act → World → Prop := fun ex a w => match ex with
        | .panic c => a.tmps.size = n ∧ ((a.defers = [] ∧ pk.isSome = true ∧ ∃ v, c = [{ v, recovered := false }] ∧ Q (.panicked [{ v, recovered := false }]) w) ∨
            ∃ v e rs, c = [{ v, recovered := false }] ∧ pk = some rs ∧ freeR rs ops = true ∧ a.defers = e.ds ∧ (∀ t ∈ slotsR rs, a.tmps.getD t undef = (e.get t).val) ∧ (leaveT P rs e e.ds (some v)).sem P Q ρ w)
        | ex => QX P Q n pk K ρ lv ex a w
      have hXp : ∀ c (a : Act) (i : Nat) (o : Oper) (v : Value) (w : World), ops[i]? = some o → XD (.panic c) (Act.put a o.dst v) w → XD (.panic c) a w := by
        rintro c a i o v w ho ⟨h2, h1⟩
        have hsz : a.tmps.size = n := by
          cases hd : o.dst with
          | none => rw [hd] at h2; exact h2
          | some d => rw [hd] at h2; simpa [Act.put] using h2
        refine ⟨hsz, ?_⟩
        rcases h1 with ⟨h1, h3⟩ | ⟨v', e, rs, h3, h4, h5, h6, h7, h8⟩
        · exact .inl ⟨by rw [← put_defers a o.dst v]; exact h1, h3⟩
        · refine .inr ⟨v', e, rs, h3, h4, h5, by rw [← put_defers a o.dst v]; exact h6, fun t ht => ?_, h8⟩
          rw [← h7 t ht]
          cases hd : o.dst with
          | none => rfl
          | some d =>
            have hmem : o ∈ ops.toList := by
              have := Array.mem_of_getElem? ho
              exact Array.mem_toList_iff.2 this
            have hfr := (List.all_eq_true.1 h5) o hmem
            simp only [hd, Bool.not_eq_true'] at hfr
            have hne : d ≠ t := fun e => by
              have hb : (slotsR rs).any (Nat.beq d) = true := List.any_eq_true.2 ⟨t, ht, by rw [e]; exact Nat.beq_refl t⟩
              rw [hb] at hfr
              cases hfr
            have : (a.put (some d) v).tmps[t]? = a.tmps[t]? := Array.getElem?_setIfInBounds_ne hne
            simp only [Array.getD_eq_getD_getElem?, this]
      have hXd : ∀ v e a w, Rel n e a → (pkD P pk ops e v).sem P Q ρ w → XD (.panic [{ v, recovered := false }]) a w := by
        intro v e a w h1 h2
        unfold pkD at h2
        split at h2
        · rename_i rs hds
          exact ⟨h1.size, .inl ⟨by rw [h1.ds, hds], rfl, v, rfl, h2⟩⟩
        · rename_i rs d ds hds
          split at h2
          · rename_i hf
            exact ⟨h1.size, .inr ⟨v, e, rs, rfl, rfl, hf, h1.ds, fun t _ => h1.slot t, h2⟩⟩
          · exact h2.elim
        · exact h2.elim
      have hNd : ∀ a w, At P Q ρ n (K .normal) a w → XD .normal a w := hN
      have toQ : ∀ ex a w, XD ex a w → QX P Q n pk K ρ lv ex a w := by
        intro ex a w h
        cases ex <;> try exact h
        obtain ⟨h2, ⟨h1, h3, v, h4, h5⟩ | ⟨v, e, rs, h3, h4, _, h6, h7, h8⟩⟩ := h
        · refine ⟨v, ⟨[], fun t => a.tmps.getD t undef, a.defers⟩, ρ, h4, rel_of h2 (fun x hx => by cases hx) rfl, fun _ _ => rfl, ?_⟩
          unfold pkOf
          cases pk with
          | none => cases h3
          | some rs => simp only [h1, leaveT]; exact h5
        · refine ⟨v, ⟨(slotsR rs).map fun t => (t, e.get t), fun t => a.tmps.getD t undef, a.defers⟩, ρ, h3, rel_of h2 (fun x hx => ?_) rfl, fun _ _ => rfl, ?_⟩
          · obtain ⟨t, ht, rfl⟩ := List.mem_map.1 hx
            exact (h7 t ht).symm
          · subst h4
            unfold pkOf
            simp only
            rw [h6, leaveT_congr (e := ⟨(slotsR rs).map fun t => (t, e.get t), fun t => a.tmps.getD t undef, e.ds⟩) (e' := e) (fun t ht => find_map _ _ _ t ht)]
            exact h8
      have plain : (match Region.noSelect ops with
        | true => T.drew (drawT P n ops (pkD P pk ops) ops.size (Array.replicate ops.size false) [] e (K .normal))
        | false => .bad).sem P Q ρ w → (Code.region id ops true).wpIn (FF r) 0 P (QX P Q n pk K ρ lv) a w := by
        intro h
        split at h
        · rename_i hsel
          simp only [T.sem] at h
          refine wpIn_mono (wpIn_region_any hm (wpAny_of_V (S := HeldOk []) _ _ _ _ ?_)) toQ
          refine drawT_sound hXd hXp hsel hNd _ _ _ e a _ hr (fun x hx => by cases hx) ?_ trivial h
          intro j o ho hj
          simp [Array.getElem?_replicate] at hj
          split at hj <;> simp at hj
        · exact h.elim
      cases an with
      | p pl =>
        unfold comp at h
        split at h
        · rename_i hsel hlk hlen
          simp only [T.sem] at h
          have harr : Array.replicate ops.size false = arrOf ops.size 0 := by
            apply Array.ext
            · simp [arrOf]
            · intro i h1 h2; simp [arrOf]
          refine wpIn_mono (wpIn_region_any hm (wpAny_of_V (S := HeldOk []) _ _ _ _ ?_)) toQ
          have hl := Nat.eq_of_beq_eq_true hlen
          rw [harr, ← hl]
          have := drawP_sound (rd := r) hXd hXp hsel hlk hNd pl 0 [] e a _ hr (fun x hx => by cases hx) ?_ trivial h
          · rw [hl] at this ⊢; exact this
          intro j o ho hj
          rw [arrOf_get] at hj
          split at hj <;> simp at hj
        · exact h.elim
      | n => unfold comp at h; exact plain h
      | s x y => unfold comp at h; exact plain h
      | c x y u v => unfold comp at h; exact plain h
      | b x y u => unfold comp at h; exact plain h
      | u x => unfold comp at h; exact plain h
      | l x y u => unfold comp at h; exact plain h
      | f x y u => unfold comp at h; exact plain h
  | seq x y ihx ihy =>
    intro r pk an lv K e ρ a w hr h
    have plain : ∀ a1 a2 : Ann, (comp P n x r pk a1 lv (fun ex e => match ex with
        | .normal => comp P n y r pk a2 lv K e
        | ex => K ex e) e).sem P Q ρ w → (Code.seq x y).wpIn (FF r) 0 P (QX P Q n pk K ρ lv) a w := by
      intro a1 a2 h
      refine wpIn_seq (wpIn_mono (ihx _ _ _ _ _ e ρ a w hr h) ?_)
      intro ex a' w' hq
      cases ex <;> try exact hq
      case normal =>
        obtain ⟨e', ρ', h1, h3, h4⟩ := hq
        refine wpIn_mono (ihy _ _ _ _ _ e' ρ' a' w' h1 h4) ?_
        intro ex a'' w'' hq
        cases ex
        case outgrown => exact hq.elim
        case panic c =>
          obtain ⟨v, e'', ρ'', h5, h6, h7, h8⟩ := hq
          exact ⟨v, e'', ρ'', h5, h6, fun l hl => (h7 l hl).trans (h3 l hl), h8⟩
        all_goals
          obtain ⟨e'', ρ'', h5, h7, h8⟩ := hq
          exact ⟨e'', ρ'', h5, fun l hl => (h7 l hl).trans (h3 l hl), h8⟩
    cases an with
    | c cs ks a1 a2 =>
      unfold comp at h
      split at h
      · rename_i hcs hks
        simp only [T.sem] at h
        obtain ⟨J, hJ, h0⟩ := h
        refine wpIn_seq (wpIn_mono (ihx _ _ _ _ _ e _ a w hr h0) ?_)
        intro ex a' w' hq
        cases ex
        case outgrown => exact hq.elim
        case panic c =>
          obtain ⟨v, e', ρ', h4, h5, h7, h8⟩ := hq
          exact ⟨v, e', ρ', h4, h5, fun l hl => by have := h7 l (Nat.lt_succ_of_lt hl); rw [this]; funext x w''; exact if_neg (Nat.ne_of_lt hl), h8⟩
        case normal =>
          obtain ⟨e', ρ', h5, h7, h8⟩ := hq
          simp only [T.sem] at h8
          obtain ⟨⟨h9, hds⟩, h10⟩ := h8
          rw [h7 lv (Nat.lt_succ_self lv)] at h10
          simp only [if_true] at h10
          rw [h5.vals (carL cs)] at h10
          have h1 := hJ _ (fun t => a'.tmps.getD t undef) w' h10
          obtain ⟨l, hl, h2⟩ := withVs_sound (keep_rel h5 h9) h1
          exact ihy _ _ _ _ _ _ ρ a' w' (rel_of h5.size hl (h5.ds.trans hds)) h2
        all_goals
          obtain ⟨e', ρ', h5, h7, h8⟩ := hq
          exact ⟨e', ρ', h5, fun l hl => by have := h7 l (Nat.lt_succ_of_lt hl); rw [this]; funext x w''; exact if_neg (Nat.ne_of_lt hl), h8⟩
      · exact h.elim
    | n => unfold comp at h; exact plain _ _ h
    | s a1 a2 => unfold comp at h; exact plain _ _ h
    | u a1 => unfold comp at h; exact plain _ _ h
    | p pl => unfold comp at h; exact plain _ _ h
    | b cs ks a1 => unfold comp at h; exact plain _ _ h
    | l cs ks a1 => unfold comp at h; exact plain _ _ h
    | f ks a1 a2 => unfold comp at h; exact plain _ _ h
  | cond c x y ihx ihy =>
    intro r pk an lv K e ρ a w hr h
    unfold comp at h
    have hv := hr.ev c
    split at h
    case h_1 hc => exact wpIn_cond_true (by rw [← hv, hc]; rfl) (ihx _ _ _ _ _ e ρ a w hr h)
    case h_2 hc => exact wpIn_cond_false (by rw [← hv, hc]; rfl) (ihy _ _ _ _ _ e ρ a w hr h)
    case h_3 b hc =>
      simp only [T.sem] at h
      exact wpIn_cond_split (t := b) (by rw [← hv, hc]; rfl) (fun hb => ihx _ _ _ _ _ e ρ a w hr (h.1 hb)) (fun hb => ihy _ _ _ _ _ e ρ a w hr (h.2 hb))
    case h_4 => exact h.elim
  | block id c ih =>
    intro r pk an lv K e ρ a w hr h
    have plain : ∀ an' : Ann, (comp P n c r pk an' lv (fun ex e' => match ex with
        | .exit i => match Nat.beq i id with
          | true => K .normal e'
          | false => K (.exit i) e'
        | ex => K ex e') e).sem P Q ρ w → (Code.block id c).wpIn (FF r) 0 P (QX P Q n pk K ρ lv) a w := by
      intro an' h
      refine wpIn_block (wpIn_mono (ih _ _ _ _ _ e ρ a w hr h) ?_)
      intro ex a' w' hq
      cases ex <;> try exact hq
      case exit i =>
        obtain ⟨e', ρ', h5, h7, h8⟩ := hq
        unfold Exit.inBlock
        simp only at h8 ⊢
        split at h8
        · rename_i hb
          rw [if_pos (Nat.eq_of_beq_eq_true hb)]
          exact ⟨e', ρ', h5, h7, h8⟩
        · rename_i hb
          rw [if_neg (fun he => by subst he; simp at hb)]
          exact ⟨e', ρ', h5, h7, h8⟩
    cases an with
    | b cs ks an =>
      unfold comp at h
      split at h
      · rename_i hcs hks
        simp only [T.sem] at h
        obtain ⟨J, hJ, h0⟩ := h
        have after : ∀ (e' : Env) (ρ' : Lv) (a' : Act) (w' : World), Rel n e' a' → Agree (lv + 1) (fun l' x w'' => if l' = lv then J x w'' else ρ l' x w'') ρ' →
            (T.next lv (valsOf e' (carL cs)) (valsOf e' ks = valsOf e ks ∧ e'.ds = e.ds)).sem P Q ρ' w' → QX P Q n pk K ρ lv .normal a' w' := by
          intro e' ρ' a' w' h5 h7 h8
          simp only [T.sem] at h8
          obtain ⟨⟨h9, hds⟩, h10⟩ := h8
          rw [h7 lv (Nat.lt_succ_self lv)] at h10
          simp only [if_true] at h10
          rw [h5.vals (carL cs)] at h10
          have h1 := hJ _ (fun t => a'.tmps.getD t undef) w' h10
          obtain ⟨l, hl, h2⟩ := withVs_sound (keep_rel h5 h9) h1
          exact ⟨_, ρ, rel_of h5.size hl (h5.ds.trans hds), fun _ _ => rfl, h2⟩
        refine wpIn_block (wpIn_mono (ih _ _ _ _ _ e _ a w hr h0) ?_)
        intro ex a' w' hq
        cases ex
        case outgrown => exact hq.elim
        case panic c =>
          obtain ⟨v, e', ρ', h4, h5, h7, h8⟩ := hq
          exact ⟨v, e', ρ', h4, h5, fun l hl => by have := h7 l (Nat.lt_succ_of_lt hl); rw [this]; funext x w''; exact if_neg (Nat.ne_of_lt hl), h8⟩
        case normal =>
          obtain ⟨e', ρ', h5, h7, h8⟩ := hq
          exact after e' ρ' a' w' h5 h7 h8
        case exit i =>
          obtain ⟨e', ρ', h5, h7, h8⟩ := hq
          unfold Exit.inBlock
          simp only at h8 ⊢
          split at h8
          · rename_i hb
            rw [if_pos (Nat.eq_of_beq_eq_true hb)]
            exact after e' ρ' a' w' h5 h7 h8
          · rename_i hb
            rw [if_neg (fun he => by subst he; simp at hb)]
            exact ⟨e', ρ', h5, fun l hl => by have := h7 l (Nat.lt_succ_of_lt hl); rw [this]; funext x w''; exact if_neg (Nat.ne_of_lt hl), h8⟩
        all_goals
          obtain ⟨e', ρ', h5, h7, h8⟩ := hq
          exact ⟨e', ρ', h5, fun l hl => by have := h7 l (Nat.lt_succ_of_lt hl); rw [this]; funext x w''; exact if_neg (Nat.ne_of_lt hl), h8⟩
      · exact h.elim
    | n => unfold comp at h; exact plain _ h
    | s x y => unfold comp at h; exact plain _ h
    | u x => unfold comp at h; exact plain _ h
    | p pl => unfold comp at h; exact plain _ h
    | l cs ks x => unfold comp at h; exact plain _ h
    | c cs ks x y => unfold comp at h; exact plain _ h
    | f ks x y => unfold comp at h; exact plain _ h
  | loop c ih =>
    intro r pk an lv K e ρ a w hr h
    cases an with
    | l cs ks an =>
      unfold comp at h
      split at h
      · rename_i hcs hks
        simp only [T.sem] at h
        obtain ⟨I, μ, h0, hI⟩ := h
        let vs (a : Act) : List Value := (carL cs).map fun s => a.tmps.getD s undef
        refine wpIn_loop (fun a w => a.tmps.size = n ∧ a.defers = e.ds ∧ (ks.map fun s => a.tmps.getD s undef) = valsOf e ks ∧ I (vs a) w) (fun a w => μ (vs a) w)
          ⟨hr.size, hr.ds, (hr.vals ks).symm, by have := hr.vals (carL cs); simp only [vs]; rw [← this]; exact h0⟩ ?_
        rintro a1 w1 ⟨hsz, hd1, hk1, hI1⟩
        have h1 := hI (vs a1) (fun t => a1.tmps.getD t undef) w1 hI1
        obtain ⟨l, hl, h2⟩ := withVs_sound (keep_rel' hk1) h1
        refine wpIn_mono (ih _ _ _ _ _ _ _ a1 w1 (rel_of hsz hl hd1) h2) ?_
        intro ex a' w' hq
        cases ex
        case outgrown => exact hq.elim
        case panic c =>
          obtain ⟨v, e', ρ', h4, h5, h7, h8⟩ := hq
          exact ⟨v, e', ρ', h4, h5, fun l hl => by have := h7 l (Nat.lt_succ_of_lt hl); rw [this]; funext x w''; exact if_neg (Nat.ne_of_lt hl), h8⟩
        case normal =>
          obtain ⟨e', ρ', h5, h7, h8⟩ := hq
          simp only [T.sem] at h8
          obtain ⟨⟨h9, hds⟩, h10⟩ := h8
          rw [h7 lv (Nat.lt_succ_self lv)] at h10
          simp only [if_true] at h10
          have hv := h5.vals (carL cs)
          refine ⟨⟨h5.size, h5.ds.trans hds, ?_, ?_⟩, ?_⟩
          · rw [← h5.vals ks]; exact h9
          · simp only [vs]; rw [← hv]; exact h10.1
          · simp only [vs]; rw [← hv]; exact h10.2
        all_goals
          obtain ⟨e', ρ', h5, h7, h8⟩ := hq
          exact ⟨e', ρ', h5, fun l hl => by have := h7 l (Nat.lt_succ_of_lt hl); rw [this]; funext x w''; exact if_neg (Nat.ne_of_lt hl), h8⟩
      · exact h.elim
    | _ => exact h.elim
  | rangeFunc g ps asg body iha ihb =>
    intro r pk an lv K e ρ a w hr h
    cases an with
    | f ks x y =>
      unfold comp at h
      split at h
      · rename_i f first cap hf
        split at h
        · rename_i hfirst hok hps
          have hlen : ps.size = ks.length := Nat.eq_of_beq_eq_true hps
          have hfirst' : first = #[] := by apply Array.ext'; simpa using hfirst
          subst hfirst'
          have hev : a.eval g = .func (.func f) #[] cap := by rw [← hr.ev g]; exact hf
          simp only [T.sem] at h
          obtain ⟨hen, h⟩ := h
          refine wpIn_rangeFunc fun fn _ => ?_
          -- what entering lays
          obtain ⟨l, D, mark, w2, henter, hEnt, hrel⟩ : ∃ l D mark w2,
              (Instr.enterLoop fn a.tmps ps asg body r).run P w = .ok (l, mark) w2 ∧
              Entered r l D { state := .ready, pending := none, fn, tmps := a.tmps, params := ps, assign := asg, body, defers := D } w w2 ∧
              Rel n (marked r e D) { a with defers := mark ++ a.defers } := by
            cases r with
            | none =>
              refine ⟨w.heap.size + 1, w.heap.size, [{ target := .collected w.heap.size, args := #[] }], _, ?_, ⟨rfl, rfl, rfl, rfl, rfl, rfl⟩, ⟨hr.size, hr.slot, ?_⟩⟩
              · unfold Instr.enterLoop
                simp only [Sem.run_bind, run_newObj, Sem.run_pure, Result.andThen_ok, Array.size_push]
              · show _ :: a.defers = _ :: e.ds
                rw [hr.ds]
            | some l0 =>
              obtain ⟨rec0, hrec0⟩ := hen
              refine ⟨w.heap.size, rec0.defers, [], _, ?_, ⟨rfl, rfl, rfl, ⟨rec0, hrec0, rfl⟩, rfl, rfl⟩, ⟨hr.size, hr.slot, ?_⟩⟩
              · unfold Instr.enterLoop
                simp only [Sem.run_bind, getLoop_run hrec0, Result.andThen_ok, Sem.run_pure]
                rfl
              · exact hr.ds
          have hcall := h l D _ w2 hEnt (by
            intro W as R hW hb
            obtain ⟨hl, hset⟩ := hb
            have hz : as.length = (ps.toList.zip ks).length := by rw [hl]; simp [hlen]
            obtain ⟨e', hr', hsem⟩ := setPs_sound (e := (⟨e.l, e.d, []⟩ : Env)) (a := { tmps := a.tmps, defers := [] }) hz ⟨hr.size, hr.slot, rfl⟩ hset
            have hmap : (ps.toList.zip ks).map (·.1) = ps.toList := List.map_fst_zip (by simp [hlen])
            rw [hmap] at hr'
            refine ⟨_, _, _, _, yield_run hW hl, ?_⟩
            refine roundIn_of_wpIn (F := FF none) trivial ?_
            refine wpIn_mono (iha (some l) none x (lv + 1) _ e' _ _ W hr' hsem) ?_
            intro ex a1 w1 hq
            cases ex
            case outgrown => exact hq.elim
            case panic c => obtain ⟨v, e1, ρ1, h4, h5, h7, h8⟩ := hq; exact h8.elim
            case normal =>
              obtain ⟨e1, ρ1, hr1, hag, h8⟩ := hq
              simp only [T.sem] at h8
              obtain ⟨w3, hbeg, h9⟩ := h8
              refine ⟨w3, hbeg, wpIn_mono (ihb (some l) none y (lv + 1) _ e1 ρ1 a1 w3 hr1 h9) ?_⟩
              have fin : ∀ (jump : Option Code) (ρ2 : Lv) (w4 : World), Agree (lv + 1) ρ1 ρ2 → (T.run (Instr.endRound l jump) fun v => .next lv [v] True).sem P Q ρ2 w4 →
                  ∃ v w', (Instr.endRound l jump).run P w4 = .ok v w' ∧ ∃ v', Ending.returned v = .returned v' ∧ R v' w' := by
                intro jump ρ2 w4 hag2 h10
                simp only [T.sem] at h10
                obtain ⟨v, w', h11, _, h12⟩ := h10
                rw [hag2 lv (Nat.lt_succ_self lv), hag lv (Nat.lt_succ_self lv)] at h12
                simp only [if_true, List.headD_cons] at h12
                exact ⟨v, w', h11, v, rfl, h12⟩
              intro ex a2 w4 hq2
              cases ex
              case outgrown => exact hq2.elim
              case panic c => obtain ⟨v, e2, ρ2, h4, h5, h7, h10⟩ := hq2; exact h10.elim
              case goto t => obtain ⟨e2, ρ2, h5, h7, h10⟩ := hq2; exact h10.elim
              all_goals
                obtain ⟨e2, ρ2, h5, h7, h10⟩ := hq2
                exact fin _ ρ2 w4 h7 h10
            all_goals
              obtain ⟨e1, ρ1, hr1, hag, h8⟩ := hq
              exact h8.elim)
          refine ⟨l, mark, w2, { target := .fn (.func f) cap, args := #[.func (.yield l) #[] #[]] }, w2, f, #[.func (.yield l) #[] #[]] ++ cap, w2, henter, ?_, fun f' _ => ff_fn f', ?_, fun h => by simp [FF, Fence.wide] at h, ?_⟩
          · have hc : a.eval (.const (.func (.yield l) #[] #[])) = .func (.yield l) #[] #[] := rfl
            simp [resolve, hev, Deferred.ofValue, hc]
          · exact callFunc_run hok w2
          · refine calls_ff.2 ?_
            have hargs : (#[.func (.yield l) #[] #[]] ++ cap : Array Value) = ⟨.func (.yield l) #[] #[] :: cap.toList⟩ := by apply Array.ext'; simp
            rw [hargs]
            refine hcall.mono fun en w3 hh => ?_
            obtain ⟨⟨v, rfl⟩, jump, w4, hend, hj⟩ := hh
            refine ⟨jump, w4, hend, ?_⟩
            rcases hj with ⟨rfl, h5⟩ | ⟨rfl, h5⟩ | h5
            · exact ⟨_, ρ, hrel, fun _ _ => rfl, h5⟩
            · exact wpIn_ret ⟨_, ρ, hrel, fun _ _ => rfl, h5⟩
            · obtain ⟨i, rfl, h6⟩ := exits_sound (f := fun i D => K (.exit i) (marked r e D)) h5
              exact wpIn_exit ⟨_, ρ, hrel, fun _ _ => rfl, h6⟩
        · exact h.elim
      · exact h.elim
    | _ => exact h.elim
  | scope c ih =>
    intro r pk an lv K e ρ a w hr h
    exact h.elim
  | goto l =>
    intro r pk an lv K e ρ a w hr h
    exact h.elim
  | refuse s =>
    intro r pk an lv K e ρ a w hr h
    exact h.elim

/-! ### A whole function -/

def treeOf (P : Program) (fn : Func) (c : Code) (an : Ann) (args : List SV) : T :=
  comp P fn.ntmps c none (some fn.results.toList) an 0 (fun ex e => match ex with
    | .normal => leaveT P fn.results.toList e e.ds none
    | .ret => leaveT P fn.results.toList e e.ds none
    | _ => .bad) (env0 args)

def rdR (tmps : Array Value) : ResultVar → Sem Value
  | .tmp t => pure (tmps.getD t undef)
  | .cell a t => do loadVar t (← asAddr (tmps.getD a undef))

theorem resT_sound {e : Env} {a : Act} (hr : Rel n e a) : ∀ {l : List ResultVar} {k : List Value → T}, (resT P l e k).sem P Q ρ w →
    ∃ vs, (l.mapM (rdR a.tmps)).run P w = .ok vs w ∧ (k vs).sem P Q ρ w
  | [], k, h => ⟨[], rfl, h⟩
  | .tmp t :: r, k, h => by
    obtain ⟨vs, h1, h2⟩ := resT_sound hr (l := r) h
    refine ⟨_, ?_, h2⟩
    simp only [List.mapM_cons, rdR, Sem.run_bind, Sem.run_pure, Result.andThen_ok, h1, hr.slot t]
  | .cell ad t :: r, k, h => by
    unfold resT at h
    split at h
    · rename_i b off hb
      obtain ⟨sv, cs, h1, h2, h3⟩ := ldT_sound h
      obtain ⟨vs, h4, h5⟩ := resT_sound hr (l := r) h3
      refine ⟨_, ?_, h5⟩
      have h6 := h1 w h2
      have h7 : (loadVar t ⟨b, off, none⟩).run P w = .ok sv.val w := by
        simp only [Instr.loadAt, Instr.sureAddr, pure_bind, Sem.run_bind] at h6
        cases hx : (loadVar t ⟨b, off, none⟩).run P w with
        | ok v w' => rw [hx] at h6; simp at h6; rw [h6.1, h6.2]
        | halt x w' => rw [hx] at h6; simp at h6
      have h8 : (rdR a.tmps (.cell ad t)).run P w = .ok sv.val w := by
        simp only [rdR, Sem.run_bind, hr.slot ad, hb, SV.val, asAddr, Sem.run_pure, Result.andThen_ok, h7]
      simp only [List.mapM_cons, Sem.run_bind, h8, Sem.run_pure, Result.andThen_ok, h4]
    · exact h.elim

theorem results_run {fn : Func} {e : Env} {a : Act} (hr : Rel n e a) {k : Value → T} (h : (resT P fn.results.toList e fun l => k (retV l)).sem P Q ρ w) :
    ∃ v, (results fn a.tmps).run P w = .ok v w ∧ (k v).sem P Q ρ w := by
  obtain ⟨vs, h1, h2⟩ := resT_sound hr h
  refine ⟨_, ?_, h2⟩
  have he : results fn a.tmps = (do let vs ← fn.results.mapM (rdR a.tmps); pure (if h : vs.size = 1 then vs[0] else .tuple vs)) := by
    unfold results
    congr 1
  rw [he, Array.mapM_eq_mapM_toList]
  simp only [Sem.run_bind, Sem.run_map, h1, Result.andThen_ok, Sem.run_pure]
  match vs with
  | [] => rfl
  | [v] => rfl
  | v :: v' :: r => simp [retV]

theorem argL_rel (args : List SV) (N : Nat) : ∀ (i : Nat) (t : Nat), (Env.find (fun _ => undef) t (argL i args)).val = if i ≤ t then ((args.map SV.val)[t - i]?).getD undef else undef := by
  induction args with
  | nil => intro i t; simp [argL, Env.find, SV.val]
  | cons s r ih =>
    intro i t
    unfold argL Env.find
    cases hb : Nat.beq i t with
    | true =>
      have := Nat.eq_of_beq_eq_true hb
      subst this
      simp
    | false =>
      have hne : i ≠ t := fun he => by subst he; simp at hb
      simp only
      rw [ih (i + 1) t]
      by_cases h1 : i ≤ t
      · have h2 : i + 1 ≤ t := by omega
        have h3 : t - i = (t - (i + 1)) + 1 := by omega
        simp [h1, h2, h3]
      · have h2 : ¬ i + 1 ≤ t := by omega
        simp [h1, h2]

theorem env0_rel (args : List SV) (N : Nat) (h : args.length ≤ N) : Rel N (env0 args) { tmps := (⟨args.map SV.val⟩ : Array Value) ++ Array.replicate (N - (⟨args.map SV.val⟩ : Array Value).size) undef, defers := [] } := by
  refine ⟨by simp; omega, fun t => ?_, rfl⟩
  have h1 := argL_rel args N 0 t
  unfold env0 Env.get
  simp only at h1 ⊢
  rw [h1]
  simp only [Nat.zero_le, if_true, Nat.sub_zero, Array.getD_eq_getD_getElem?]
  rw [Array.getElem?_append]
  by_cases ht : t < args.length
  · simp [ht]
  · simp only [List.size_toArray, List.length_map, ht, if_false]
    rw [List.getElem?_eq_none (by simpa using ht)]
    rw [Array.getElem?_replicate]
    split <;> rfl

def codeOf (fn : Func) : Code := match fn.body with
  | some c => c
  | none => .skip

theorem leaveT_sound {fn : Func} {e : Env} {a : Act} {R : Ending → World → Prop} (hr : Rel n e a) : ∀ (ds : List Deferred) (m : Option Value) (w : World), (leaveT P fn.results.toList e ds m).sem P R ρ w →
    LeavesInM (FF none) 0 P fn a.tmps R ds (modeOf m) w
  | [], none, w, h => by
    unfold leaveT at h
    obtain ⟨v, h5, h6⟩ := results_run hr h
    exact ⟨v, h5, h6⟩
  | [], some v, w, h => h
  | d :: ds, m, w, h => by
    unfold leaveT at h
    have hne : modeOf m ≠ .run := by cases m <;> simp [modeOf]
    refine ⟨hne, ?_⟩
    split at h
    · rename_i D hd
      simp only [T.sem] at h
      obtain ⟨w', h1, h2⟩ := h
      exact .inl ⟨D, w', hd, h1, leaveT_sound hr ds m w' h2⟩
    · rename_i g cap hd
      split at h
      · rename_i hok
        simp only [T.sem] at h
        refine .inr ⟨fun h => by simp [FF, Fence.wide] at h, .func g, cap, g, d.args ++ cap, hd, ?_, fun f' _ => ff_fn f', ?_⟩
        · rw [hd]; exact callFunc_run hok w
        · have hargs : (d.args ++ cap : Array Value) = ⟨d.args.toList ++ cap.toList⟩ := by apply Array.ext'; simp
          rw [hargs]
          refine CallsDIn.mono h fun en u w' hh => ?_
          obtain ⟨v, rfl, hh⟩ := hh
          rcases hh with ⟨h1, h2⟩ | ⟨h1, h2⟩
          · have := leaveT_sound hr ds none w' h2
            simp only
            rw [h1]; exact this
          · have := leaveT_sound hr ds m w' h2
            simp only
            rw [h1]; exact this
      · exact h.elim
    · exact h.elim

theorem calls_of_tree {f : FuncId} {fn : Func} {c : Code} {args : List SV} {w : World} {R : Ending → World → Prop} (an : Ann) (ρ : Lv)
    (hm : P.follows .mixedOrders = true) (hf : P.funcs[f]? = some fn) (hb : fn.body = some c) (hn : Nat.ble args.length fn.ntmps = true)
    (h : (treeOf P fn c an args).sem P R ρ w) : Calls P f ⟨args.map SV.val⟩ w R := by
  refine (calls_ff (r := none)).1 (callsIn_of_wp_marks hf hb trivial (wpIn_mono (comp_sound (n := fn.ntmps) hm c none _ an 0 _ (env0 args) ρ _ w ?_ h) ?_))
  · exact env0_rel args fn.ntmps (Nat.le_of_ble_eq_true hn)
  · intro ex a w hq
    cases ex
    case normal =>
      obtain ⟨e, ρ', h1, h3, h4⟩ := hq
      have := leaveT_sound h1 e.ds none w h4
      rw [← h1.ds] at this
      exact this
    case ret =>
      obtain ⟨e, ρ', h1, h3, h4⟩ := hq
      have := leaveT_sound h1 e.ds none w h4
      rw [← h1.ds] at this
      exact this
    case panic c =>
      obtain ⟨v, e, ρ', rfl, h1, h3, h4⟩ := hq
      have := leaveT_sound h1 e.ds (some v) w h4
      rw [← h1.ds] at this
      exact this
    case outgrown => exact hq.elim
    all_goals
      obtain ⟨e, ρ', h1, h3, h4⟩ := hq
      exact h4.elim



abbrev ρ0 : Lv := fun _ _ _ => False

/-- From a tree in its printed form to a call's contract. -/
theorem calls_of {f : FuncId} {fn : Func} {args : List SV} {t : T} {an : Ann} (hm : P.follows .mixedOrders = true) (hf : P.funcs[f]? = some fn) (hb : fn.body.isSome = true)
    (hn : Nat.ble args.length fn.ntmps = true) (ht : treeOf P fn (codeOf fn) an args = t) {w : World} {R : Ending → World → Prop} (h : t.sem P R ρ0 w) : Calls P f ⟨args.map SV.val⟩ w R := by
  refine calls_of_tree an ρ0 hm hf (c := codeOf fn) ?_ hn (by rw [ht]; exact h)
  unfold codeOf
  cases hc : fn.body with
  | none => rw [hc] at hb; cases hb
  | some c => rfl
end
end Go.Proofs.YtihipcofjpnfbaaGreatDoor.Tr
