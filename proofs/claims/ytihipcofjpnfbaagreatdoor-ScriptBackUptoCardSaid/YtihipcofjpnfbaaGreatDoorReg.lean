/- Regions: in the order of the text, and in whatever order. -/
import Derived.Test.YtihipcofjpnfbaaGreatDoorEff
namespace Go.Proofs.YtihipcofjpnfbaaGreatDoor.Tr
open Go
set_option linter.unusedSimpArgs false
set_option linter.unusedVariables false

section
variable (P : Program) (n : Nat) (ops : Array Oper) (r : Option Nat) (pk : Env → Value → T)

def putT (dst : Option Tmp) (s : SV) (e : Env) (k : Env → T) : T :=
  match dst with
  | none => k e
  | some d => match Nat.blt d n, e, s with
    | true, ⟨l, f, ds⟩, .v x => k ⟨(d, .v x) :: l, f, ds⟩
    | true, ⟨l, f, ds⟩, .t => k ⟨(d, .t) :: l, f, ds⟩
    | true, ⟨l, f, ds⟩, .f => k ⟨(d, .f) :: l, f, ds⟩
    | true, ⟨l, f, ds⟩, .p b o => k ⟨(d, .p b o) :: l, f, ds⟩
    | true, ⟨l, f, ds⟩, .it r kt et => k ⟨(d, .it r kt et) :: l, f, ds⟩
    | false, _, _ => .bad

/-- A call that is put off to the function's end. -/
def deferT (o : Op) (e : Env) : Option Env :=
  match o with
  | .defer ⟨.value f, args, _⟩ => match (ev e f).val, r with
    | .func (.func g) first cap, none => some ⟨e.l, e.d, { target := .fn (.func g) cap, args := first ++ args.map (rho e) } :: e.ds⟩
    | _, _ => none
  | _ => none

def isDefer : Op → Bool
  | .defer _ => true
  | _ => false

/-- An operation under its guard: done by 'yes', left out by 'no'. -/
def guardT (o : Oper) (e : Env) (yes no : Env → T) : T :=
  match o.guard with
  | none => yes e
  | some (j, want) => match (ops[j]?).bind (·.dst) with
    | none => .bad
    | some g => match Nat.blt g n, e.get g with
      | true, .t => match want with
        | true => yes e
        | false => no e
      | true, .f => match want with
        | true => no e
        | false => yes e
      | true, .v (.bool b) => match want with
        | true => .ite b (yes (e.put g .t)) (no (e.put g .f))
        | false => .ite b (no (e.put g .t)) (yes (e.put g .f))
      | true, .v (.tuple _) => no e
      | _, _ => .bad

def seqT : List Nat → Env → (Env → T) → T
  | [], e, k => k e
  | i :: rs, e, k => match ops[i]? with
    | none => .bad
    | some o => guardT n ops o e
        (fun e => match isStill P o.op, isDefer o.op with
          | true, _ => stillT P o.op e fun s _ => putT n o.dst s e fun e => seqT rs e k
          | false, false => effT P (pk e) o.op o.type e fun s => putT n o.dst s e fun e => seqT rs e k
          | false, true => match deferT r o.op e with
            | some e => putT n o.dst (.v undef) e fun e => seqT rs e k
            | none => .bad)
        (fun e => putT n o.dst (.v undef) e fun e => seqT rs e k)

/-- What a cell held when it was read, and the numbers behind which it need not. -/
abbrev Held := List ((Addr × Value) × List Nat)

def activeC (l : Array Bool) (h : List Nat) : Bool := h.all fun s => !l.getD s false

def Held.cells (l : Array Bool) : Held → List (Addr × Value)
  | [] => []
  | (c, s) :: r => match activeC l s with
    | true => c :: Held.cells l r
    | false => Held.cells l r

/-- The operations that write, and wait for number i. -/
def succs (i : Nat) : List Nat := (List.range ops.size).filter fun j => match ops[j]? with
  | some o => !isStill P o.op && o.after.any fun e => Region.binds .any e && Nat.beq e.on i
  | none => false

def pickStill : List Nat → Option Nat
  | [] => none
  | i :: r => match ops[i]? with
    | some o => match isStill P o.op with
      | true => some i
      | false => pickStill r
    | none => pickStill r

def addHeld (i : Nat) (cs : List (Addr × Value)) (L : Held) : Held :=
  match cs with
  | [] => L
  | c :: r => (c, succs P ops i) :: addHeld i r L

def allT (f : Nat → T) : List Nat → T
  | [] => .bad
  | [i] => f i
  | i :: r => .both (f i) (allT f r)

/-- An operation that its guard is known to leave out. -/
def offNow (o : Oper) (e : Env) : Bool := match o.guard with
  | none => false
  | some (j, want) => match (ops[j]?).bind (·.dst) with
    | none => false
    | some g => match e.get g, want with
      | .t, false => true
      | .f, true => true
      | _, _ => false
def pickOff (e : Env) : List Nat → Option Nat
  | [] => none
  | i :: r => match ops[i]? with
    | some o => match offNow ops o e with
      | true => some i
      | false => pickOff e r
    | none => pickOff e r
def dropN (i : Nat) : List Nat → List Nat
  | [] => []
  | j :: r => match Nat.beq i j with
    | true => dropN i r
    | false => j :: dropN i r
def dropS (i : Nat) : Held → Held
  | [] => []
  | (c, s) :: r => (c, dropN i s) :: dropS i r

def drawT : Nat → Array Bool → Held → Env → (Env → T) → T
  | 0, l, _, e, k => match Region.ready .any ops l with
    | [] => k e
    | _ => .bad
  | fuel + 1, l, L, e, k => match Region.ready .any ops l with
    | [] => k e
    | rs => match pickStill P ops rs with
      | some i => match ops[i]?, Region.free .any ops l i, rs.contains i with
        | some o, true, true => guardT n ops o e
          (fun e => stillT P o.op e fun s cs => putT n o.dst s e fun e => drawT fuel (l.setIfInBounds i true) (addHeld P ops i cs L) e k)
          (fun e => putT n o.dst (.v undef) e fun e => drawT fuel (l.setIfInBounds i true) L e k)
        | _, _, _ => .bad
      | none => match pickOff ops e rs with
        | some i => match ops[i]?, Region.free .any ops l i, rs.contains i with
          | some o, true, true => guardT n ops o e (fun _ => .bad) (fun e => putT n o.dst (.v undef) e fun e => drawT fuel (l.setIfInBounds i true) (dropS i L) e k)
          | _, _, _ => .bad
        | none => allT (fun i => match ops[i]? with
            | none => .bad
            | some o => guardT n ops o e
              (fun e => effT P (pk e) o.op o.type e fun s => putT n o.dst s e fun e => .chk (Held.cells (l.setIfInBounds i true) L) (drawT fuel (l.setIfInBounds i true) L e k))
              (fun e => putT n o.dst (.v undef) e fun e => .chk (Held.cells (l.setIfInBounds i true) L) (drawT fuel (l.setIfInBounds i true) L e k))) rs
end

section
variable {P : Program} {Q : Ending → World → Prop} {ρ : Lv} {w : World} {n : Nat} {ops : Array Oper} {r : Option Nat} {pk : Env → Value → T}

/-- What the state and the world are worth, where the tree goes on. -/
def At (P : Program) (Q : Ending → World → Prop) (ρ : Lv) (n : Nat) (k : Env → T) (a : Act) (w : World) : Prop :=
  ∃ e, Rel n e a ∧ (k e).sem P Q ρ w

theorem blt_lt {a b : Nat} (h : Nat.blt a b = true) : a < b := by rw [Nat.blt_eq] at h; exact h

theorem putT_sound {dst : Option Tmp} {s : SV} {e : Env} {k : Env → T} {a : Act} (hr : Rel n e a) (h : (putT n dst s e k).sem P Q ρ w) :
    ∃ e', Rel n e' (a.put dst s.val) ∧ (k e').sem P Q ρ w := by
  unfold putT at h
  split at h
  · exact ⟨e, hr, h⟩
  · split at h
    case h_6 => exact h.elim
    all_goals
      rename_i hb
      exact ⟨_, hr.put (blt_lt hb) _, h⟩

theorem yielded_of {e : Env} {a : Act} {j g : Nat} (hr : Rel n e a) (hj : (ops[j]?).bind (·.dst) = some g) (hg : g < n) {b : Bool} (hb : (e.get g).val = .bool b) :
    yielded ops a.tmps j = some b := by
  unfold yielded
  have h1 := hr.slot g
  have h2 : g < a.tmps.size := by rw [hr.size]; exact hg
  have h3 : a.tmps[g]? = some (.bool b) := by
    rw [hb, Array.getD_eq_getD_getElem?] at h1
    simp only [Array.getElem?_eq_getElem h2, Option.getD_some] at h1 ⊢
    rw [h1]
  simp only [hj, Option.bind_some, h3]

theorem yielded_none {e : Env} {a : Act} {j g : Nat} (hr : Rel n e a) (hj : (ops[j]?).bind (·.dst) = some g) (hg : g < n) {vs : Array Value} (hb : (e.get g).val = .tuple vs) :
    yielded ops a.tmps j = none := by
  unfold yielded
  have h1 := hr.slot g
  have h2 : g < a.tmps.size := by rw [hr.size]; exact hg
  have h3 : a.tmps[g]? = some (.tuple vs) := by
    rw [hb, Array.getD_eq_getD_getElem?] at h1
    simp only [Array.getElem?_eq_getElem h2, Option.getD_some] at h1 ⊢
    rw [h1]
  simp only [hj, Option.bind_some, h3]

theorem guardT_sound {o : Oper} {e : Env} {yes no : Env → T} {a : Act} (hr : Rel n e a) (h : (guardT n ops o e yes no).sem P Q ρ w) :
    ∃ e', Rel n e' a ∧ ((Region.wanted o (yielded ops a.tmps) = true ∧ (yes e').sem P Q ρ w) ∨ (Region.wanted o (yielded ops a.tmps) = false ∧ (no e').sem P Q ρ w)) := by
  unfold guardT at h
  unfold Region.wanted
  split at h
  · rename_i hg
    exact ⟨e, hr, .inl ⟨by simp [hg], h⟩⟩
  · rename_i j want hg
    simp only [hg]
    split at h
    · exact h.elim
    · rename_i g hj
      split at h
      case h_1 hb hs =>
        have hy := yielded_of hr hj (blt_lt hb) (b := true) (by rw [hs]; rfl)
        cases want <;> exact ⟨e, hr, by first | exact .inl ⟨by rw [hy]; rfl, h⟩ | exact .inr ⟨by rw [hy]; rfl, h⟩⟩
      case h_2 hb hs =>
        have hy := yielded_of hr hj (blt_lt hb) (b := false) (by rw [hs]; rfl)
        cases want <;> exact ⟨e, hr, by first | exact .inl ⟨by rw [hy]; rfl, h⟩ | exact .inr ⟨by rw [hy]; rfl, h⟩⟩
      case h_3 b hb hs =>
        have hy := yielded_of hr hj (blt_lt hb) (b := b) (by rw [hs]; rfl)
        cases want <;> cases b <;> simp only [T.sem] at h
        · exact ⟨_, hr.reput (g := g) (s := .f) (by rw [hs]; rfl), .inl ⟨by rw [hy]; rfl, h.2 trivial⟩⟩
        · exact ⟨_, hr.reput (g := g) (s := .t) (by rw [hs]; rfl), .inr ⟨by rw [hy]; rfl, h.1 trivial⟩⟩
        · exact ⟨_, hr.reput (g := g) (s := .f) (by rw [hs]; rfl), .inr ⟨by rw [hy]; rfl, h.2 trivial⟩⟩
        · exact ⟨_, hr.reput (g := g) (s := .t) (by rw [hs]; rfl), .inl ⟨by rw [hy]; rfl, h.1 trivial⟩⟩
      case h_4 vs hb hs =>
        have hy := yielded_none hr hj (blt_lt hb) (vs := vs) (by rw [hs]; rfl)
        exact ⟨e, hr, .inr ⟨by rw [hy]; rfl, h⟩⟩
      case h_5 => exact h.elim

/-- From what an operation comes to, to the model's own word. -/
theorem upon_of {o : Oper} {a : Act} {X : Exit → Act → World → Prop} {K : Act → World → Prop} {R Pn : Value → World → Prop} {x : Result Next}
    (hX : ∀ v w', Pn v w' → X (.panic [{ v, recovered := false }]) a w') (h : UponR P R Pn x) (hK : ∀ v w', R v w' → K (a.put o.dst v) w') : o.uponIn (FF r) 0 P a K X x := by
  cases x with
  | ok nx w' =>
    cases nx <;> simp only [UponR, Oper.uponIn] at h ⊢
    case value v => exact hK _ _ h
    case skip => exact hK _ _ h
    case enter f args =>
      refine ⟨fun h => by simp [FF, Fence.wide] at h, calls_ff.2 (Calls.mono h fun e w'' hh => ?_)⟩
      rcases hh with ⟨v, h1, h2⟩ | ⟨v, h1, h2⟩
      · subst h1; exact hK _ _ h2
      · subst h1; exact hX _ _ h2
    case round l fn tmps assign body =>
      refine ⟨fun h => by simp [FF, Fence.wide] at h, ?_⟩
      have h' : RoundIn (FF r) 0 P l fn tmps assign body w' _ := h
      refine h'.mono fun e w'' ⟨v, h1, h2⟩ => ?_
      subst h1; exact hK _ _ h2
  | halt y w' =>
    cases y <;> simp only [UponR, Oper.uponIn] at h ⊢
    exact hX _ _ h

theorem semAt_eq {o : Oper} (h : ∀ c, o.op ≠ .defer c) (r : Option Nat) (ρ : Operand → Value) : o.semAt r ρ = execOp ρ o := by
  unfold Oper.semAt
  split
  · rename_i c hc; exact absurd hc (h c)
  · rfl

theorem not_defer {o : Op} (h : isDefer o = false) : ∀ c, o ≠ .defer c := fun c hc => by subst hc; simp [isDefer] at h
theorem still_not_defer {o : Op} (h : isStill P o = true) : ∀ c, o ≠ .defer c := fun c hc => by subst hc; simp [isStill] at h
theorem eff_not_defer {o : Op} {pk : Value → T} {ty : TypeId} {e : Env} {k : SV → T} (h : (effT P pk o ty e k).sem P Q ρ w) : ∀ c, o ≠ .defer c := fun c hc => by subst hc; exact h.elim

theorem ff_fn (f : FuncId) : (FF r).fn f := trivial

theorem rest_eta (o : Oper) : (⟨o.dst, o.op, o.type, o.pos, o.after, o.guard⟩ : Oper) = o := rfl

theorem deferT_sound {o : Op} {e e1 : Env} {a : Act} {d : Option Tmp} {ty : TypeId} {pos : String} {af : Array Edge} {g : Option (Nat × Bool)} (hr : Rel n e a) (h : deferT r o e = some e1) :
    ∃ df, ((⟨d, o, ty, pos, af, g⟩ : Oper).semAt r a.eval).run P w = .ok (.defer df) w ∧ Rel n e1 { a with defers := df :: a.defers } := by
  unfold deferT at h
  split at h
  · rename_i f args tys
    split at h
    · rename_i g' first cap hf
      simp only [Option.some.injEq] at h
      subst h
      refine ⟨{ target := .fn (.func g') cap, args := first ++ args.map (rho e) }, ?_, ⟨hr.size, hr.slot, ?_⟩⟩
      · have : a.eval f = .func (.func g') first cap := by rw [← hr.ev f]; exact hf
        simp [Oper.semAt, execOp, resolve, this, Deferred.ofValue, hr.rho]
      · show _ :: a.defers = _
        rw [hr.ds]
    · cases h
  · cases h

theorem seqT_sound {X : Exit → Act → World → Prop} (hX : ∀ v e a w, Rel n e a → (pk e v).sem P Q ρ w → X (.panic [{ v, recovered := false }]) a w) : ∀ (l : List Nat) (e : Env) (k : Env → T) (a : Act) (w : World), Rel n e a →
    (∀ a w, At P Q ρ n k a w → X .normal a w) → (seqT P n ops r pk l e k).sem P Q ρ w → wpOpsIn (FF r) 0 P ops X l a w
  | [], e, k, a, w, hr, hN, h => hN a w ⟨e, hr, h⟩
  | i :: rs, e, k, a, w, hr, hN, h => by
    rw [wpOpsIn_cons]
    unfold wpOpIn
    unfold seqT at h
    split at h
    · exact h.elim
    · rename_i o ho
      simp only [ho]
      obtain ⟨e1, hr1, ⟨hw, h1⟩ | ⟨hw, h1⟩⟩ := guardT_sound hr h
      · simp only [hw, if_true]
        refine ⟨fun f _ => ff_fn f, ?_⟩
        split at h1
        · rename_i hst
          rw [show (FF r).round = r from rfl, semAt_eq (still_not_defer hst), hr1.rho]
          obtain ⟨sv, cs, h2, h3, h4⟩ := stillT_sound (d := o.dst) (ty := o.type) (pos := o.pos) (af := o.after) (g := o.guard) hst h1
          have h5 := h2 w h3
          unfold ex at h5
          rw [rest_eta] at h5
          rw [h5]
          obtain ⟨e2, hr2, h6⟩ := putT_sound hr1 h4
          exact seqT_sound hX rs e2 k _ w hr2 hN h6
        · rename_i hst hdf
          rw [show (FF r).round = r from rfl, semAt_eq (not_defer hdf), hr1.rho]
          have h2 := effT_sound (d := o.dst) (pos := o.pos) (af := o.after) (g := o.guard) h1
          unfold EffOk at h2
          rw [rest_eta] at h2
          refine upon_of (fun v w' hc => hX v e1 a w' hr1 hc) h2 ?_
          rintro v w' ⟨sv, rfl, h3⟩
          obtain ⟨e2, hr2, h6⟩ := putT_sound hr1 h3
          exact seqT_sound hX rs e2 k _ w' hr2 hN h6
        · split at h1
          · rename_i e2 he2
            obtain ⟨df, h2, h3⟩ := deferT_sound (P := P) (w := w) (d := o.dst) (ty := o.type) (pos := o.pos) (af := o.after) (g := o.guard) hr1 he2
            rw [rest_eta] at h2
            rw [show (FF r).round = r from rfl, h2]
            obtain ⟨e3, hr3, h6⟩ := putT_sound h3 h1
            exact seqT_sound hX rs e3 k _ w hr3 hN h6
          · exact h1.elim
      · simp only [hw, Bool.false_eq_true, if_false]
        refine ⟨fun f _ => ff_fn f, ?_⟩
        obtain ⟨e2, hr2, h6⟩ := putT_sound hr1 h1
        exact seqT_sound hX rs e2 k _ w hr2 hN h6

/-! ### Taking an operation first, in a round or in none -/

theorem semAt_put (o : Oper) (hs : ∀ cs b, o.op ≠ .select cs b) (a : Act) (dst : Option Tmp) (v : Value) (h : ∀ d, dst = some d → d ∉ o.looksAt ops) (r : Option Nat) :
    o.semAt r (a.put dst v).eval = o.semAt r a.eval := by
  unfold Oper.semAt
  split
  · rename_i l c hc
    have e := resolve_congr (ρ := (a.put dst v).eval) (ρ' := a.eval) c o.type (fun x hx => Act.eval_put fun d hd hxd => h d hd (by
      subst hxd
      refine List.mem_append_left _ (List.mem_filterMap.2 ⟨.tmp d, ?_, rfl⟩)
      rw [hc]; simpa [Op.operands] using hx))
    rw [e]
  · exact execOp_put o hs a dst v h

/-- In every world that meets S the operation leaves v and does nothing else, in a round too. -/
def YIn (P : Program) (ops : Array Oper) (r : Option Nat) (S : World → Prop) (o : Oper) (v : Value) (a : Act) : Prop :=
  (Region.wanted o (yielded ops a.tmps) = true ∧ ∀ w, S w → (o.semAt r a.eval).run P w = .ok (.value v) w) ∨
  (Region.wanted o (yielded ops a.tmps) = false ∧ v = undef)

theorem YIn.wpOpIn {X : Exit → Act → World → Prop} {S : World → Prop} {i : Nat} {o : Oper} {v : Value} {a : Act} (hi : ops[i]? = some o) (hy : YIn P ops r S o v a)
    {K : Act → World → Prop} {w : World} (hS : S w) (h : K (a.put o.dst v) w) : wpOpIn (FF r) 0 P ops X i K a w := by
  unfold Go.wpOpIn
  simp only [hi]
  rcases hy with ⟨hw, hv⟩ | ⟨hw, rfl⟩
  · simp only [hw, if_true, Oper.wpIn]
    refine ⟨fun f _ => ff_fn f, ?_⟩
    rw [show (FF r).round = r from rfl, hv w hS]
    exact h
  · simp only [hw, Bool.false_eq_true, if_false]; exact ⟨fun f _ => ff_fn f, h⟩

theorem YIn.of_same {S : World → Prop} {o : Oper} {v : Value} {a a' : Act} (hy : YIn P ops r S o v a) (he : o.semAt r a'.eval = o.semAt r a.eval)
    (hw : Region.wanted o (yielded ops a'.tmps) = Region.wanted o (yielded ops a.tmps)) : YIn P ops r S o v a' := by
  unfold YIn at *
  rw [he, hw]
  exact hy

theorem wpOpIn_putIf {X : Exit → Act → World → Prop} {S : World → Prop} {j : Nat} {oi oj : Oper} {v : Value} (hj : ops[j]? = some oj) (hap : oi.apart ops oj = true)
    (hsi : ∀ cs b, oi.op ≠ .select cs b) (hsj : ∀ cs b, oj.op ≠ .select cs b)
    (hX : ∀ c a w, X (.panic c) (a.put oi.dst v) w → X (.panic c) a w) {K : Act → World → Prop} {a : Act} {w : World}
    (hy : YIn P ops r S oi v a) (h : wpOpIn (FF r) 0 P ops X j K (a.put oi.dst v) w) :
    wpOpIn (FF r) 0 P ops X j (fun a' w' => YIn P ops r S oi v a' ∧ K (a'.put oi.dst v) w') a w := by
  obtain ⟨h1, h2, h3⟩ := Oper.apart_spec hap
  have keep : ∀ (a : Act), YIn P ops r S oi v a → ∀ u, YIn P ops r S oi v (a.put oj.dst u) := fun a hy u =>
    hy.of_same (semAt_put oi hsi a oj.dst u h3 r) (wanted_put oi a oj.dst u h3)
  have keepD : ∀ d, YIn P ops r S oi v { a with defers := d :: a.defers } := fun d => hy.of_same rfl rfl
  unfold wpOpIn at *
  simp only [hj] at *
  rw [wanted_put oj a oi.dst v h1] at h
  split
  · rename_i hw
    simp only [hw, if_true] at h
    unfold Oper.wpIn at *
    refine ⟨fun f _ => ff_fn f, ?_⟩
    have h := h.2
    rw [show (FF r).round = r from rfl, semAt_put oj hsj a oi.dst v h1] at h
    rw [show (FF r).round = r from rfl]
    generalize (oj.semAt r a.eval).run P w = res at *
    cases res with
    | ok nx w' =>
      cases nx <;> simp only [Oper.uponIn] at h ⊢
      case value u => exact ⟨keep a hy u, by rw [← Act.put_comm a v u h2]; exact h⟩
      case skip => exact ⟨keep a hy _, by rw [← Act.put_comm a v undef h2]; exact h⟩
      case defer d =>
        refine ⟨keep _ (keepD d) _, ?_⟩
        rw [← Act.put_comm _ v undef h2, ← Act.put_defers]
        exact h
      case enter f args =>
        refine ⟨h.1, CallsIn.mono h.2 fun e w'' he => ?_⟩
        cases e with
        | returned u => exact ⟨keep a hy u, by rw [← Act.put_comm a v u h2]; exact he⟩
        | panicked c => exact hX _ _ _ he
        | outgrown => exact he
      case row row args => exact ⟨h.1, RowsIn.mono h.2 fun u w'' he => ⟨keep a hy u, by rw [← Act.put_comm a v u h2]; exact he⟩⟩
      case round l fn tmps assign body =>
        refine ⟨h.1, RoundIn.mono h.2 fun e w'' he => ?_⟩
        cases e with
        | returned u => exact ⟨keep a hy u, by rw [← Act.put_comm a v u h2]; exact he⟩
        | panicked c => exact hX _ _ _ he
        | outgrown => exact he
    | halt y w' =>
      cases y <;> simp only [Oper.uponIn] at h ⊢
      case panic u => exact hX _ _ _ h
  · rename_i hw
    simp only [hw] at h
    exact ⟨fun f _ => ff_fn f, keep a hy _, by rw [← Act.put_comm a v undef h2]; exact h.2⟩

/-! ### Whatever order -/

/-- Whatever order is picked from here on, with a condition on the world that hangs on what has come up. -/
def wpV (P : Program) (ops : Array Oper) (r : Option Nat) (X : Exit → Act → World → Prop) (S : Array Bool → World → Prop) : Nat → Array Bool → Act → World → Prop
  | 0, l, a, w => Region.ready .any ops l = [] ∧ X .normal a w
  | fuel + 1, l, a, w => (Region.ready .any ops l = [] → X .normal a w) ∧
    ∀ i ∈ Region.ready .any ops l, wpOpIn (FF r) 0 P ops X i (fun a' w' => S (l.setIfInBounds i true) w' ∧ wpV P ops r X S fuel (l.setIfInBounds i true) a' w') a w

theorem wpAny_of_V {X : Exit → Act → World → Prop} {S : Array Bool → World → Prop} : ∀ (fuel : Nat) (l : Array Bool) (a : Act) (w : World), wpV P ops r X S fuel l a w → wpAnyIn (FF r) 0 P .any ops X fuel l a w
  | 0, _, _, _, h => h
  | fuel + 1, _, _, _, h => ⟨h.1, fun i hi => wpOpIn_mono (fun a' w' h' => wpAny_of_V fuel _ a' w' h'.2) (h.2 i hi)⟩

theorem wpV_mono {X : Exit → Act → World → Prop} {S S' : Array Bool → World → Prop} (hS : ∀ l w, S' l w → S l w) : ∀ (fuel : Nat) (l : Array Bool) (a : Act) (w : World), wpV P ops r X S' fuel l a w → wpV P ops r X S fuel l a w
  | 0, _, _, _, h => h
  | fuel + 1, _, _, _, h => ⟨h.1, fun i hi => wpOpIn_mono (fun a' w' h' => ⟨hS _ _ h'.1, wpV_mono hS fuel _ a' w' h'.2⟩) (h.2 i hi)⟩

/-- What has come up has come up behind all that it waits for. -/
def Closed (ops : Array Oper) (l : Array Bool) : Prop :=
  ∀ j o, ops[j]? = some o → l.getD j false = true → ∀ e ∈ o.after, Region.binds .any e = true → l.getD e.on false = true

theorem Closed.set {l : Array Bool} {i : Nat} (h : Closed ops l) (hi : i ∈ Region.ready .any ops l) : Closed ops (l.setIfInBounds i true) := by
  intro j o ho hj e he hb
  refine getD_set_true ?_
  by_cases hij : i = j
  · subst hij
    obtain ⟨_, o', ho', hall⟩ := mem_ready.1 hi
    rw [ho] at ho'
    cases ho'
    exact hall e he hb
  · rw [getD_set_ne false hij] at hj
    exact h j o ho hj e he hb

theorem getD_true_false {l : Array Bool} {i : Nat} (h : l.getD i true = false) : l.getD i false = false := by
  rcases Nat.lt_or_ge i l.size with h' | h'
  · simp [h'] at h ⊢; exact h
  · simp [Array.getElem?_eq_none h']

theorem wpV_first {X : Exit → Act → World → Prop} {S : Array Bool → World → Prop} {C : World → Prop} {i : Nat} {oi : Oper} {v : Value} (hi : ops[i]? = some oi)
    (hsel : ∀ (j : Nat) (o : Oper) cs b, ops[j]? = some o → o.op ≠ .select cs b)
    (hX : ∀ c a w, X (.panic c) (a.put oi.dst v) w → X (.panic c) a w)
    (hSi : ∀ l w, S (l.setIfInBounds i true) w ↔ S l w)
    (hSC : ∀ l w, l.getD i true = false → Closed ops l → S l w → C w) :
    ∀ (fuel : Nat) (l : Array Bool) (a : Act) (w : World),
      (∀ j oj, ops[j]? = some oj → j ≠ i → l.getD j true = false → (∀ e ∈ oj.after, Region.binds .any e = true → e.on ≠ i) → oi.apart ops oj = true) →
      i ∈ Region.ready .any ops l → Closed ops l → YIn P ops r C oi v a → S l w →
      wpV P ops r X S fuel (l.setIfInBounds i true) (a.put oi.dst v) w → wpV P ops r X S (fuel + 1) l a w := by
  intro fuel
  induction fuel with
  | zero =>
    intro l a w _ hr hcl hy hS H
    refine ⟨fun h => (by rw [h] at hr; cases hr), fun j hj => ?_⟩
    by_cases hji : j = i
    · subst hji
      exact hy.wpOpIn hi (hSC l w (mem_ready.1 hr).1 hcl hS) ⟨(hSi l w).2 hS, H⟩
    · have := ready_mono hj hji
      rw [H.1] at this
      cases this
  | succ fuel ih =>
    intro l a w hfree hr hcl hy hS H
    refine ⟨fun h => (by rw [h] at hr; cases hr), fun j hj => ?_⟩
    by_cases hji : j = i
    · subst hji
      exact hy.wpOpIn hi (hSC l w (mem_ready.1 hr).1 hcl hS) ⟨(hSi l w).2 hS, H⟩
    · have h1 := H.2 j (ready_mono hj hji)
      obtain ⟨hjun, oj, hoj, hall⟩ := mem_ready.1 hj
      have hnot : ∀ e ∈ oj.after, Region.binds .any e = true → e.on ≠ i := fun e he hb heq => by
        have h1 := hall e he hb
        rw [heq, getD_true_false (mem_ready.1 hr).1] at h1
        cases h1
      have h2 := wpOpIn_putIf hoj (hfree j oj hoj hji hjun hnot) (fun cs b => hsel i oi cs b hi) (fun cs b => hsel j oj cs b hoj) hX hy h1
      have hfree' : ∀ k ok, ops[k]? = some ok → k ≠ i → (l.setIfInBounds j true).getD k true = false →
          (∀ e ∈ ok.after, Region.binds .any e = true → e.on ≠ i) → oi.apart ops ok = true := fun k ok hk hki hun hno => by
        refine hfree k ok hk hki ?_ hno
        by_cases hjk : j = k
        · subst hjk; exact hjun
        · rw [getD_set_ne true hjk] at hun; exact hun
      refine wpOpIn_mono (fun a' w' h3 => ?_) h2
      have hcomm : (l.setIfInBounds i true).setIfInBounds j true = (l.setIfInBounds j true).setIfInBounds i true := Array.setIfInBounds_comm _ _ (Ne.symm hji)
      rw [hcomm] at h3
      have hS' := (hSi _ _).1 h3.2.1
      exact ⟨hS', ih (l.setIfInBounds j true) a' w' hfree' (ready_mono hr (Ne.symm hji)) (hcl.set hj) h3.1 hS' h3.2.2⟩

/-! ### The condition of the tree: the cells that are held -/

def HeldOk (L : Held) (l : Array Bool) (w : World) : Prop := AllCells w (Held.cells l L)

theorem activeC_set {P : Program} {i : Nat} {oi : Oper} (hi : ops[i]? = some oi) (hst : isStill P oi.op = true) {s : List Nat} (hs : ∀ j ∈ s, ∃ o, ops[j]? = some o ∧ isStill P o.op = false) (l : Array Bool) :
    activeC (l.setIfInBounds i true) s = activeC l s := by
  unfold activeC
  rw [Bool.eq_iff_iff]
  simp only [List.all_eq_true, Bool.not_eq_true']
  have hne : ∀ j ∈ s, i ≠ j := fun j hj he => by
    subst he
    obtain ⟨o, h1, h2⟩ := hs i hj
    rw [hi] at h1; cases h1
    rw [hst] at h2; cases h2
  exact ⟨fun h j hj => by have := h j hj; rw [getD_set_ne false (hne j hj)] at this; exact this, fun h j hj => by rw [getD_set_ne false (hne j hj)]; exact h j hj⟩

/-- Every number in the list is of an operation that writes. -/
def HeldWf (P : Program) (ops : Array Oper) (L : Held) : Prop := ∀ x ∈ L, ∀ j ∈ x.2, ∃ o, ops[j]? = some o ∧ isStill P o.op = false

theorem heldCells_set {i : Nat} {oi : Oper} (hi : ops[i]? = some oi) (hst : isStill P oi.op = true) (l : Array Bool) : ∀ (L : Held), HeldWf P ops L → Held.cells (l.setIfInBounds i true) L = Held.cells l L
  | [], _ => rfl
  | (c, s) :: r, h => by
    have h1 := activeC_set hi hst (h (c, s) (List.mem_cons_self ..)) l
    have h2 := heldCells_set hi hst l r (fun x hx => h x (List.mem_cons_of_mem _ hx))
    simp only [Held.cells, h1, h2]

theorem mem_succs {i j : Nat} (h : j ∈ succs P ops i) : ∃ o, ops[j]? = some o ∧ isStill P o.op = false ∧ ∃ e ∈ o.after, Region.binds .any e = true ∧ e.on = i := by
  unfold succs at h
  rw [List.mem_filter] at h
  obtain ⟨h1, h2⟩ := h
  split at h2
  · rename_i o ho
    simp only [Bool.and_eq_true, Bool.not_eq_true'] at h2
    obtain ⟨e, he, hb⟩ := Array.any_eq_true'.1 h2.2
    simp only [Bool.and_eq_true] at hb
    exact ⟨o, ho, h2.1, e, he, hb.1, Nat.eq_of_beq_eq_true hb.2⟩
  · cases h2

theorem addHeld_wf {i : Nat} : ∀ {cs : List (Addr × Value)} {L : Held}, HeldWf P ops L → HeldWf P ops (addHeld P ops i cs L)
  | [], _, h => h
  | c :: r, L, h => fun x hx j hj => by
    rcases List.mem_cons.1 hx with rfl | hx
    · obtain ⟨o, h1, h2, _⟩ := mem_succs hj
      exact ⟨o, h1, h2⟩
    · exact addHeld_wf (cs := r) h x hx j hj

theorem activeC_succs {i : Nat} {l : Array Bool} (hl : l.getD i true = false) (hcl : Closed ops l) : activeC l (succs P ops i) = true := by
  unfold activeC
  simp only [List.all_eq_true, Bool.not_eq_true']
  intro j hj
  obtain ⟨o, h1, _, e, he, hb, hon⟩ := mem_succs hj
  cases hjl : l.getD j false with
  | false => rfl
  | true =>
    have := hcl j o h1 hjl e he hb
    rw [hon, getD_true_false hl] at this
    cases this

theorem addHeld_cells {i : Nat} {l : Array Bool} (hl : l.getD i true = false) (hcl : Closed ops l) {w : World} : ∀ {cs : List (Addr × Value)} {L : Held},
    HeldOk (addHeld P ops i cs L) l w ↔ AllCells w cs ∧ HeldOk L l w
  | [], L => by simp [addHeld, AllCells]
  | c :: r, L => by
    have ih := addHeld_cells hl hcl (w := w) (cs := r) (L := L)
    unfold HeldOk at ih ⊢
    simp only [addHeld, Held.cells, activeC_succs hl hcl]
    simp only [AllCells]
    rw [ih]
    exact ⟨fun ⟨a, b, c⟩ => ⟨⟨a, b⟩, c⟩, fun ⟨⟨a, b⟩, c⟩ => ⟨a, b, c⟩⟩

theorem addHeld_less {i : Nat} {l : Array Bool} {w : World} : ∀ {cs : List (Addr × Value)} {L : Held}, HeldOk (addHeld P ops i cs L) l w → HeldOk L l w
  | [], L, h => h
  | c :: r, L, h => by
    refine addHeld_less (i := i) (cs := r) ?_
    unfold HeldOk at h ⊢
    simp only [addHeld, Held.cells] at h
    split at h
    · exact h.2
    · exact h

theorem dropN_mem {i j : Nat} : ∀ {s : List Nat}, j ∈ dropN i s → j ∈ s ∧ i ≠ j
  | a :: r, h => by
    unfold dropN at h
    split at h
    · have := dropN_mem (s := r) h
      exact ⟨List.mem_cons_of_mem _ this.1, this.2⟩
    · rename_i hb
      rcases List.mem_cons.1 h with rfl | h
      · refine ⟨List.mem_cons_self .., fun he => ?_⟩
        subst he
        rw [Nat.beq_refl] at hb
        cases hb
      · have := dropN_mem (s := r) h
        exact ⟨List.mem_cons_of_mem _ this.1, this.2⟩
theorem mem_dropN {i j : Nat} : ∀ {s : List Nat}, j ∈ s → i ≠ j → j ∈ dropN i s
  | a :: r, h, hne => by
    unfold dropN
    split
    · rename_i hb
      rcases List.mem_cons.1 h with rfl | h
      · exact absurd (Nat.eq_of_beq_eq_true hb) hne
      · exact mem_dropN (s := r) h hne
    · rcases List.mem_cons.1 h with rfl | h
      · exact List.mem_cons_self ..
      · exact List.mem_cons_of_mem _ (mem_dropN (s := r) h hne)
theorem activeC_of {l : Array Bool} {s : List Nat} : activeC l s = true ↔ ∀ j ∈ s, l.getD j false = false := by
  unfold activeC
  simp only [List.all_eq_true, Bool.not_eq_true']
theorem activeC_drop {i : Nat} {l : Array Bool} {s : List Nat} (hl : l.getD i true = false) : activeC l (dropN i s) = activeC l s := by
  rw [Bool.eq_iff_iff, activeC_of, activeC_of]
  refine ⟨fun h j hj => ?_, fun h j hj => h j (dropN_mem hj).1⟩
  by_cases he : i = j
  · subst he; exact getD_true_false hl
  · exact h j (mem_dropN hj he)
theorem activeC_dropSet {i : Nat} {l : Array Bool} {s : List Nat} : activeC (l.setIfInBounds i true) (dropN i s) = activeC l (dropN i s) := by
  rw [Bool.eq_iff_iff, activeC_of, activeC_of]
  exact ⟨fun h j hj => by have := h j hj; rwa [getD_set_ne false (dropN_mem hj).2] at this, fun h j hj => by rw [getD_set_ne false (dropN_mem hj).2]; exact h j hj⟩
theorem dropS_cells {i : Nat} {l : Array Bool} (hl : l.getD i true = false) : ∀ {L : Held}, Held.cells l (dropS i L) = Held.cells l L
  | [] => rfl
  | (c, s) :: r => by simp only [dropS, Held.cells, activeC_drop hl, dropS_cells hl (L := r)]
theorem dropS_set {i : Nat} {l : Array Bool} : ∀ {L : Held}, Held.cells (l.setIfInBounds i true) (dropS i L) = Held.cells l (dropS i L)
  | [] => rfl
  | (c, s) :: r => by simp only [dropS, Held.cells, activeC_dropSet, dropS_set (L := r)]
theorem dropS_more {i : Nat} {l : Array Bool} {w : World} : ∀ {L : Held}, HeldOk (dropS i L) l w → HeldOk L l w
  | [], h => h
  | (c, s) :: r, h => by
    unfold HeldOk at h ⊢
    simp only [dropS, Held.cells] at h ⊢
    cases ha : activeC l s with
    | true =>
      have : activeC l (dropN i s) = true := activeC_of.2 fun j hj => activeC_of.1 ha j (dropN_mem hj).1
      rw [this] at h
      exact ⟨h.1, dropS_more (L := r) h.2⟩
    | false =>
      simp only
      refine dropS_more (i := i) (L := r) ?_
      unfold HeldOk
      split at h
      · exact h.2
      · exact h
theorem dropS_wf {i : Nat} : ∀ {L : Held}, HeldWf P ops L → HeldWf P ops (dropS i L)
  | [], h => h
  | (c, s) :: r, h => fun x hx j hj => by
    rcases List.mem_cons.1 hx with rfl | hx
    · exact h (c, s) (List.mem_cons_self ..) j (dropN_mem hj).1
    · exact dropS_wf (L := r) (fun x hx => h x (List.mem_cons_of_mem _ hx)) x hx j hj

theorem allT_sound {f : Nat → T} : ∀ {l : List Nat}, (allT f l).sem P Q ρ w → ∀ i ∈ l, (f i).sem P Q ρ w
  | [i], h, j, hj => by simp at hj; subst hj; exact h
  | i :: i' :: r, h, j, hj => by
    simp only [allT, T.sem] at h
    rcases List.mem_cons.1 hj with rfl | hj
    · exact h.1
    · exact allT_sound (l := i' :: r) h.2 j hj

theorem pickStill_spec {i : Nat} : ∀ {rs : List Nat}, pickStill P ops rs = some i → ∃ o, ops[i]? = some o ∧ isStill P o.op = true
  | j :: r, h => by
    unfold pickStill at h
    split at h
    · rename_i o ho
      split at h
      · rename_i hst
        simp only [Option.some.injEq] at h
        subst h
        exact ⟨o, ho, hst⟩
      · exact pickStill_spec h
    · exact pickStill_spec h

theorem wpOp_of {X : Exit → Act → World → Prop} {i : Nat} {o : Oper} (ho : ops[i]? = some o) {e : Env} {a : Act} {K : Act → World → Prop} {yes no : Env → T}
    (hX : ∀ v e a w, Rel n e a → (pk e v).sem P Q ρ w → X (.panic [{ v, recovered := false }]) a w) (hr : Rel n e a)
    (h : (guardT n ops o e (fun e => effT P (pk e) o.op o.type e fun s => putT n o.dst s e yes) (fun e => putT n o.dst (.v undef) e no)).sem P Q ρ w)
    (hyes : ∀ e a w, Rel n e a → (yes e).sem P Q ρ w → K a w) (hno : ∀ e a w, Rel n e a → (no e).sem P Q ρ w → K a w) : wpOpIn (FF r) 0 P ops X i K a w := by
  unfold wpOpIn
  simp only [ho]
  obtain ⟨e1, hr1, ⟨hw, h1⟩ | ⟨hw, h1⟩⟩ := guardT_sound hr h
  · simp only [hw, if_true]
    refine ⟨fun f _ => ff_fn f, ?_⟩
    rw [show (FF r).round = r from rfl, semAt_eq (eff_not_defer h1), hr1.rho]
    have h2 := effT_sound (d := o.dst) (pos := o.pos) (af := o.after) (g := o.guard) h1
    unfold EffOk at h2
    rw [rest_eta] at h2
    refine upon_of (fun v w' hc => hX v e1 a w' hr1 hc) h2 ?_
    rintro v w' ⟨sv, rfl, h3⟩
    obtain ⟨e2, hr2, h6⟩ := putT_sound hr1 h3
    exact hyes e2 _ w' hr2 h6
  · simp only [hw, Bool.false_eq_true, if_false]
    refine ⟨fun f _ => ff_fn f, ?_⟩
    obtain ⟨e2, hr2, h6⟩ := putT_sound hr1 h1
    exact hno e2 _ w hr2 h6

theorem drawT_sound {X : Exit → Act → World → Prop} (hX : ∀ v e a w, Rel n e a → (pk e v).sem P Q ρ w → X (.panic [{ v, recovered := false }]) a w)
    (hXput : ∀ c (a : Act) (i : Nat) (o : Oper) (v : Value) (w : World), ops[i]? = some o → X (.panic c) (Act.put a o.dst v) w → X (.panic c) a w) (hsel : Region.noSelect ops = true) {k : Env → T} (hN : ∀ a w, At P Q ρ n k a w → X .normal a w) :
    ∀ (fuel : Nat) (l : Array Bool) (L : Held) (e : Env) (a : Act) (w : World), Rel n e a → HeldWf P ops L → Closed ops l → HeldOk L l w →
      (drawT P n ops pk fuel l L e k).sem P Q ρ w → wpV P ops r X (HeldOk L) fuel l a w := by
  intro fuel
  induction fuel with
  | zero =>
    intro l L e a w hr hwf hcl hL h
    unfold drawT at h
    split at h
    · rename_i hrd; exact ⟨hrd, hN a w ⟨e, hr, h⟩⟩
    · exact h.elim
  | succ fuel ih =>
    intro l L e a w hr hwf hcl hL h
    unfold drawT at h
    split at h
    · rename_i hrd; exact ⟨fun _ => hN a w ⟨e, hr, h⟩, by rw [hrd]; simp⟩
    · rename_i hne
      split at h
      · rename_i i hpick
        obtain ⟨oi, hoi, hst⟩ := pickStill_spec hpick
        split at h
        · rename_i o ho hfree hcont
          rw [hoi] at ho; cases ho
          have hi : i ∈ Region.ready .any ops l := by simpa using hcont
          have hfr := Region.free_spec hoi hfree
          obtain ⟨e1, hr1, ⟨hw, h1⟩ | ⟨hw, h1⟩⟩ := guardT_sound hr h
          · obtain ⟨sv, cs, h2, h3, h4⟩ := stillT_sound (d := oi.dst) (ty := oi.type) (pos := oi.pos) (af := oi.after) (g := oi.guard) hst h1
            obtain ⟨e2, hr2, h6⟩ := putT_sound hr1 h4
            have hwf' := addHeld_wf (i := i) (cs := cs) hwf
            have hiu := (mem_ready.1 hi).1
            have hL' : HeldOk (addHeld P ops i cs L) l w := (addHeld_cells hiu hcl).2 ⟨h3, hL⟩
            have hL'' : HeldOk (addHeld P ops i cs L) (l.setIfInBounds i true) w := by unfold HeldOk; rw [heldCells_set hoi hst l _ hwf']; exact hL'
            have h7 := ih (l.setIfInBounds i true) _ e2 _ w hr2 hwf' (hcl.set hi) hL'' h6
            refine wpV_mono (fun l w => addHeld_less) _ _ _ _ (wpV_first (C := fun w => AllCells w cs) (v := sv.val) hoi (Region.noSelect_spec hsel) (fun c a w => hXput c a _ _ _ w hoi) (fun l w => by unfold HeldOk; rw [heldCells_set hoi hst l _ hwf']) (fun l w hl hc hS => ((addHeld_cells hl hc).1 hS).1) fuel l a w hfr hi hcl ?_ hL' h7)
            refine .inl ⟨hw, fun w' hw' => ?_⟩
            have h8 := h2 w' hw'
            unfold ex at h8
            rw [rest_eta] at h8
            rw [semAt_eq (still_not_defer hst), hr1.rho]
            exact h8
          · obtain ⟨e2, hr2, h6⟩ := putT_sound hr1 h1
            have hL'' : HeldOk L (l.setIfInBounds i true) w := by unfold HeldOk; rw [heldCells_set hoi hst l _ hwf]; exact hL
            have h7 := ih (l.setIfInBounds i true) _ e2 _ w hr2 hwf (hcl.set hi) hL'' h6
            exact wpV_first (C := fun w => True) (v := undef) hoi (Region.noSelect_spec hsel) (fun c a w => hXput c a _ _ _ w hoi) (fun l w => by unfold HeldOk; rw [heldCells_set hoi hst l _ hwf]) (fun l w hl hc hS => trivial) fuel l a w hfr hi hcl (.inr ⟨hw, rfl⟩) hL h7
        · exact h.elim
      · split at h
        · rename_i i hpick
          split at h
          · rename_i oi hoi hfree hcont
            have hi : i ∈ Region.ready .any ops l := by simpa using hcont
            have hfr := Region.free_spec hoi hfree
            have hiu := (mem_ready.1 hi).1
            obtain ⟨e1, hr1, ⟨hw, h1⟩ | ⟨hw, h1⟩⟩ := guardT_sound hr h
            · exact h1.elim
            · obtain ⟨e2, hr2, h6⟩ := putT_sound hr1 h1
              have hL' : HeldOk (dropS i L) l w := by unfold HeldOk; rw [dropS_cells hiu]; exact hL
              have hL'' : HeldOk (dropS i L) (l.setIfInBounds i true) w := by unfold HeldOk; rw [dropS_set]; exact hL'
              have h7 := ih (l.setIfInBounds i true) _ e2 _ w hr2 (dropS_wf hwf) (hcl.set hi) hL'' h6
              exact wpV_mono (fun l w => dropS_more) _ _ _ _ (wpV_first (C := fun w => True) (v := undef) hoi (Region.noSelect_spec hsel) (fun c a w => hXput c a _ _ _ w hoi) (fun l w => by unfold HeldOk; rw [dropS_set]) (fun l w hl hc hS => trivial) fuel l a w hfr hi hcl (.inr ⟨hw, rfl⟩) hL' h7)
          · exact h.elim
        · refine ⟨fun h0 => absurd h0 hne, fun i hi => ?_⟩
          have h1 := allT_sound h i hi
          split at h1
          · exact h1.elim
          · rename_i o ho
            have key : ∀ (e : Env) (a : Act) (w : World), Rel n e a → (T.chk (Held.cells (l.setIfInBounds i true) L) (drawT P n ops pk fuel (l.setIfInBounds i true) L e k)).sem P Q ρ w →
                HeldOk L (l.setIfInBounds i true) w ∧ wpV P ops r X (HeldOk L) fuel (l.setIfInBounds i true) a w := fun e a w hr h => by
              simp only [T.sem] at h
              exact ⟨h.1, ih _ _ e a w hr hwf (hcl.set hi) h.1 h.2⟩
            exact wpOp_of ho hX hr h1 key key

end
end Go.Proofs.YtihipcofjpnfbaaGreatDoor.Tr
