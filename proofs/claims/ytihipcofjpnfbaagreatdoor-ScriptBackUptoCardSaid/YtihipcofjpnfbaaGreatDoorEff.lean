/- Operations that write, call or make memory: their trees, and what these are worth. -/
import Derived.Test.YtihipcofjpnfbaaGreatDoorStill
import Derived.Laws.Externs
namespace Go.Proofs.YtihipcofjpnfbaaGreatDoor.Tr
open Go
set_option linter.unusedSimpArgs false

section
variable (P : Program)

def typedOne (ty : TypeId) (v : Value) (k : Value → T) : T :=
  match isAggP P ty with
  | some true => .asA v fun cs => .req (cs.length = (leafs P 40 ty).length) (typedMany (leafs P 40 ty) cs fun l => k (.agg ⟨l⟩))
  | _ => typedV (leaf1 P ty) v fun sv => k sv.val

def typedTup : List TypeId → List Value → (List Value → T) → T
  | [], _, k => k []
  | t :: r, vs, k => typedOne P t (vs.headD undef) fun v => typedTup r vs.tail fun l => k (v :: l)

def typedRes (ty : TypeId) (v : Value) (k : Value → T) : T :=
  match P.underlying ty with
  | some (.tuple ts) => match ts.toList with
    | [] => k v
    | t :: r => .asU v fun vs => .req (vs.length = (t :: r).length) (typedTup P (t :: r) vs fun l => k (.tuple ⟨l⟩))
  | _ => typedOne P ty v k

/-- The closure that a function's code makes, and how much it captures. -/
def opClo (o : Oper) : Option (Nat × Nat) :=
  match o.op with
  | .makeFunc (.func g) first cap => if first.size = 0 then some (g, cap.size) else none
  | _ => none
def codeClo : Code → Option (Nat × Nat)
  | .region _ ops _ => ops.toList.findSome? opClo
  | .seq a b => match codeClo a with
    | some x => some x
    | none => codeClo b
  | .cond _ a b => match codeClo a with
    | some x => some x
    | none => codeClo b
  | .block _ b | .loop b | .scope b => codeClo b
  | _ => none
def cloOf (f : Nat) : Option (Nat × Nat) :=
  match P.funcs[f]? with
  | some fn => match fn.body with
    | some b => codeClo b
    | none => none
  | none => none
def ptrsOf : Nat → List Value → (List Value → T) → T
  | 0, _, k => k []
  | n + 1, vs, k => .asP (vs.headD undef) fun o => ptrsOf n vs.tail fun l => k (.pointer o :: l)
/-- What a call of f yields, told by its type; a closure by what f's code makes. -/
def callRes (f : Nat) (ty : TypeId) (v : Value) (k : Value → T) : T :=
  match P.underlying ty with
  | some (.func _ _ _) => match cloOf P f with
    | some (g, n) => .asC g v fun l => .req (l.length = n) (ptrsOf n l fun l => k (.func (.func g) #[] ⟨l⟩))
    | none => k v
  | _ => typedRes P ty v k

def callOk (g : FuncId) : Bool :=
  match P.funcs[g]? with
  | some fn => fn.body.isSome && !(fn.name == "runtime.NumGoroutine")
  | none => false

/-- A function that calls panic itself. -/
def panO (o : Op) : Bool :=
  match o with
  | .panic _ => true
  | .call ⟨.builtin .panic, _, _⟩ => true
  | _ => false
def panC : Code → Bool
  | .region _ ops _ => ops.toList.any fun o => panO o.op
  | .seq a b => panC a || panC b
  | .cond _ a b => panC a || panC b
  | .block _ c => panC c
  | .loop c => panC c
  | .scope c => panC c
  | _ => false
/-- Functions of the seat that panic through what they call. -/
def panExtra : List Nat := [35]
def mayPan (g : FuncId) : Bool :=
  match panExtra.any (Nat.beq g) with
  | true => true
  | false => match P.funcs[g]? with
    | some fn => match fn.body with
      | some c => panC c
      | none => false
    | none => false

/-- What stands in the model for a function without a body. -/
def extE (P : Program) (g : FuncId) : Option (Array Value → Sem Value) :=
  match P.funcs[g]? with
  | some fn => match fn.body.isNone && !(fn.name == "runtime.NumGoroutine") && (Extern.findNext fn).isNone with
    | true => Extern.find fn
    | false => none
  | none => none
def extV (g : FuncId) (args : Array Value) : Sem Value := do
  match extE (← program) g with
  | some e => e args
  | none => stuck ""

def stMany (b off : Nat) : Nat → List Value → T → T
  | _, [], x => x
  | i, v :: r, x => .st b (off + i) v (stMany b off (i + 1) r x)

/-- Builtins that yield a value. -/
def biV (b : Builtin) (tys : Array TypeId) (ty : TypeId) (args : Array Value) : Sem Value :=
  match b with
  | .append => Builtin.append_ tys ty args
  | .copy => Builtin.copy_ tys ty args
  | .delete => Builtin.delete_ tys ty args
  | .clear => Builtin.clear_ tys ty args
  | .len => Builtin.len_ tys ty args
  | .max => Builtin.max_ tys ty args
  | .min => Builtin.min_ tys ty args
  | _ => stuck ""

def muV (t : TypeId) (m i x : Value) : Sem Value := do Instr.mapUpdate t m i x; pure undef
def esV (t : TypeId) (m s x : Value) : Sem Value := do Instr.entryStore t m s x; pure undef

def opArgs (e : Env) (args : List Operand) : List Value := args.map (rho e)

def bsCells (t : TypeId) (len : Nat) (parts : List (Nat × Value)) : Option (TypeId × List Value) :=
  match P.underlying t with
  | some (.slice el) => match sizeP P el, P.info? el with
    | some size, some i => match i.zero with
      | some z => if len * size > 2 ^ 24 then none else
        match Instr.fill (fun i => some (i * size, size)) ((Array.range (len * size)).map ((if len * size = 0 then #[] else z.cells)[· % (if len * size = 0 then #[] else z.cells : Array Value).size]!)) parts with
        | some cells => some (el, cells.toList)
        | none => none
      | none => none
    | _, _ => none
  | _ => none

def effT (pk : Value → T) (o : Op) (ty : TypeId) (e : Env) (k : SV → T) : T :=
  match o with
  | .store t a x => match ev e a, sizeP P t with
    | .p b off, some n => match Nat.beq (ev e x).val.cells.toList.length n with
      | true => stMany b off 0 (ev e x).val.cells.toList (k (.v undef))
      | false => .bad
    | _, _ => .bad
  | .alloc t => match P.info? t with
    | some i => match i.zero with
      | some z => .new (.cells z.cells t) fun r => k (.p r 0)
      | none => .bad
    | none => .bad
  | .box t x => .new (.cells (ev e x).val.cells t) fun r => k (.p r 0)
  | .buildSlice t len parts => match bsCells P t len (parts.toList.map fun (i, x) => (i, (ev e x).val)) with
    | some (el, cells) => .new (.cells ⟨cells⟩ el) fun r => k (.v (.slice (some ⟨r, 0, none⟩) len len))
    | none => .bad
  | .call ⟨.value f, args, _⟩ => match (ev e f).val with
    | .func (.func g) first cap => match callOk P g with
      | true => match e.ds with
        | [] => match mayPan P g with
          | false => .call g (first.toList ++ opArgs e args.toList ++ cap.toList) fun v => callRes P g ty v fun v => k (.v v)
          | true => .call2 g (first.toList ++ opArgs e args.toList ++ cap.toList) (fun v => typedRes P ty v fun v => k (.v v)) pk
        | _ => .call2 g (first.toList ++ opArgs e args.toList ++ cap.toList) (fun v => typedRes P ty v fun v => k (.v v)) pk
      | false => match (extE P g).isSome with
        | true => .run (extV g ⟨first.toList ++ opArgs e args.toList ++ cap.toList⟩) fun v => typedRes P ty v fun v => k (.v v)
        | false => .bad
    | .func (.yield l) first _ => .yl l (first.toList ++ opArgs e args.toList) fun v => typedRes P ty v fun v => k (.v v)
    | _ => .bad
  | .call ⟨.builtin .panic, args, _⟩ => match opArgs e args.toList with
    | [.iface t x] => pk (.iface t x)
    | _ => .bad
  | .call ⟨.builtin b, args, tys⟩ => .run (biV b ⟨tys.toList⟩ ty ⟨opArgs e args.toList⟩) fun v => typedRes P ty v fun v => k (.v v)
  | .panic x => match (ev e x).val with
    | .iface t x => pk (.iface t x)
    | _ => .bad
  | .makeSlice t l c => .run (Instr.makeSlice t (ev e l).val (ev e c).val) fun v => typedRes P t v fun v => k (.v v)
  | .makeMap _ none => .new (.map #[] 0) fun r => k (.v (.map (some r)))
  | .makeMap t (some r) => .run (Instr.makeMap t (some (ev e r).val)) fun v => typedRes P t v fun v => k (.v v)
  | .lookup t x i ok => .run (Instr.lookup t (ev e x).val (ev e i).val ok) fun v => typedRes P ty v fun v => k (.v v)
  | .mapUpdate t m i x => .run (muV t (ev e m).val (ev e i).val (ev e x).val) fun _ => k (.v undef)
  | .insert t m i x => .run (muV t (ev e m).val (ev e i).val (ev e x).val) fun _ => k (.v undef)
  | .mapEntry t m i => match P.underlying t with
    | some (.map _ et) => .run (Instr.mapEntry t (ev e m).val (ev e i).val) fun v => .asU v fun l => .req (l.length = 2) (typedOne P et (l.getD 0 undef) fun a => .asI .i64 (l.getD 1 undef) fun n => k (.v (.tuple #[a, .int .i64 n])))
    | _ => .bad
  | .entryStore t m s x => .run (esV t (ev e m).val (ev e s).val (ev e x).val) fun _ => k (.v undef)
  | .range t x => match P.underlying t with
    | some (.map kt et) => .run (Instr.range t (ev e x).val) fun v => .asP v fun o => .sm o fun b off => .req (off = 0) (k (.it b kt et))
    | _ => .run (Instr.range t (ev e x).val) fun v => k (.v v)
  | .next it s => match ev e it with
    | .it r kt et => .run (Instr.next (.pointer (some ⟨r, 0, none⟩)) s ty) fun v => .asU v fun l => .ite (decide (l.length = 1)) (.req (l = [.bool false]) (k (.v (.tuple #[.bool false]))))
        (.req (l.length = 3 ∧ l.headD undef = .bool true) (typedOne P kt (l.getD 1 undef) fun a => typedOne P et (l.getD 2 undef) fun b => k (.v (.tuple #[.bool true, a, b]))))
    | x => .run (Instr.next x.val s ty) fun v => k (.v v)
  | .entry it => match ev e it with
    | .it r kt et => .run (Instr.entry (.pointer (some ⟨r, 0, none⟩))) fun v => .asU v fun l => .req (l.length = 2) (typedOne P kt (l.getD 0 undef) fun a => typedOne P et (l.getD 1 undef) fun b => k (.v (.tuple #[a, b])))
    | x => .run (Instr.entry x.val) fun v => k (.v v)
  | .convert a b x => .run (convert a b (ev e x).val) fun v => typedRes P b v fun v => k (.v v)
  | _ => .bad
end

section
variable {P : Program} {Q : Ending → World → Prop} {ρ : Lv} {w : World}

theorem typedOne_sound {ty : TypeId} {v : Value} {k : Value → T} (h : (typedOne P ty v k).sem P Q ρ w) : (k v).sem P Q ρ w := by
  unfold typedOne at h
  split at h
  · simp only [T.sem] at h
    obtain ⟨n, rfl, h1, h2⟩ := h
    exact typedMany_sound h1 h2
  · obtain ⟨sv, h1, h2⟩ := typedV_sound h
    rw [h1] at h2
    exact h2

theorem typedTup_sound : ∀ {ts : List TypeId} {vs : List Value} {k : List Value → T}, vs.length = ts.length → (typedTup P ts vs k).sem P Q ρ w → (k vs).sem P Q ρ w
  | [], [], _, _, h => h
  | t :: r, v :: vs, k, hl, h => by
    simp only [typedTup, List.headD_cons, List.tail_cons] at h
    have hl' : vs.length = r.length := by simpa using hl
    have h2 := typedOne_sound h
    exact typedTup_sound (k := fun l => k (v :: l)) hl' h2

theorem ptrsOf_sound : ∀ {n : Nat} {vs : List Value} {k : List Value → T}, vs.length = n → (ptrsOf n vs k).sem P Q ρ w → (k vs).sem P Q ρ w
  | 0, [], _, _, h => h
  | n + 1, v :: r, k, hl, h => by
    simp only [ptrsOf, List.headD_cons, List.tail_cons, T.sem] at h
    obtain ⟨o, rfl, h⟩ := h
    exact ptrsOf_sound (k := fun l => k (.pointer o :: l)) (by simpa using hl) h

theorem typedRes_sound {ty : TypeId} {v : Value} {k : Value → T} (h : (typedRes P ty v k).sem P Q ρ w) : (k v).sem P Q ρ w := by
  unfold typedRes at h
  split at h
  · split at h
    · exact h
    · simp only [T.sem] at h
      obtain ⟨n, rfl, h1, h2⟩ := h
      exact typedTup_sound h1 h2
  · exact typedOne_sound h

theorem callRes_sound {f : Nat} {ty : TypeId} {v : Value} {k : Value → T} (h : (callRes P f ty v k).sem P Q ρ w) : (k v).sem P Q ρ w := by
  unfold callRes at h
  split at h
  · split at h
    · simp only [T.sem] at h
      obtain ⟨n, rfl, h1, h2⟩ := h
      exact ptrsOf_sound (k := fun l => k (.func (.func _) #[] ⟨l⟩)) h1 h2
    · exact h
  · exact typedRes_sound h

/-- What an operation's result must be. -/
def UponR (P : Program) (R : Value → World → Prop) (Pn : Value → World → Prop) : Result Next → Prop
  | .ok (.value v) w' => R v w'
  | .ok .skip w' => R undef w'
  | .ok (.enter f args) w' => Calls P f args w' fun e w'' => (∃ v, e = .returned v ∧ R v w'') ∨ (∃ v, e = .panicked [{ v, recovered := false }] ∧ Pn v w'')
  | .ok (.round l fn tmps assign body) w' => RoundIn (FF none) 0 P l fn tmps assign body w' fun e w'' => ∃ v, e = .returned v ∧ R v w''
  | .halt (.panic v) w' => Pn v w'
  | _ => False

/-- The goal of every operation. -/
abbrev EffOk (P : Program) (Q : Ending → World → Prop) (ρ : Lv) (w : World) (pk : Value → T) (e : Env) (o : Oper) (k : SV → T) : Prop :=
  UponR P (fun v w' => ∃ sv : SV, sv.val = v ∧ (k sv).sem P Q ρ w') (fun v w' => (pk v).sem P Q ρ w') ((execOp (rho e) o).run P w)

theorem next_run' {s : Sem Value} {v : Value} {w w' : World} (h : s.run P w = .ok v w') : (do let x ← s; pure (Next.value x) : Sem Next).run P w = .ok (.value v) w' := by simp [h]

theorem effRun {pk : Value → T} {s : Sem Value} {e : Env} {oo : Oper} {k : SV → T} {k' : Value → T} (hs : execOp (rho e) oo = (do let v ← s; pure (Next.value v)))
    (h : (T.run s k').sem P Q ρ w) (hk : ∀ v w', (k' v).sem P Q ρ w' → (k (.v v)).sem P Q ρ w') : EffOk P Q ρ w pk e oo k := by
  simp only [T.sem] at h
  obtain ⟨v, w', h1, h2⟩ := h
  unfold EffOk
  rw [hs, next_run' h1]
  exact ⟨.v v, rfl, hk _ _ h2⟩

theorem effRunS {pk : Value → T} {s : Sem Value} {e : Env} {oo : Oper} {k : SV → T} {k' : Value → T} (hs : execOp (rho e) oo = (do let v ← s; pure (Next.value v)))
    (h : (T.run s k').sem P Q ρ w) (hk : ∀ v w', (k' v).sem P Q ρ w' → ∃ sv : SV, sv.val = v ∧ (k sv).sem P Q ρ w') : EffOk P Q ρ w pk e oo k := by
  simp only [T.sem] at h
  obtain ⟨v, w', h1, h2⟩ := h
  unfold EffOk
  rw [hs, next_run' h1]
  exact hk _ _ h2

theorem effRunU {pk : Value → T} {s : Sem Unit} {e : Env} {oo : Oper} {k : SV → T} (hs : execOp (rho e) oo = (do s; pure .skip))
    (h : (T.run (do s; pure undef) fun _ => k (.v undef)).sem P Q ρ w) : EffOk P Q ρ w pk e oo k := by
  simp only [T.sem] at h
  obtain ⟨v, w', h1, h2⟩ := h
  unfold EffOk
  rw [hs]
  simp only [Sem.run_bind] at h1 ⊢
  cases hr : s.run P w with
  | halt x w'' => rw [hr] at h1; simp at h1
  | ok u w'' =>
    rw [hr] at h1
    simp only [Result.andThen_ok, Sem.run_pure] at h1 ⊢
    cases h1
    exact ⟨.v undef, rfl, h2⟩

theorem stMany_sound : ∀ {b off : Nat} {vs : List Value} {i : Nat} {x : T} {w : World}, (stMany b off i vs x).sem P Q ρ w →
    ∃ w', (storeCells ⟨b, off, none⟩ vs i).run P w = .ok () w' ∧ x.sem P Q ρ w'
  | b, off, [], i, x, w, h => ⟨w, rfl, h⟩
  | b, off, v :: r, i, x, w, h => by
    simp only [stMany, T.sem] at h
    obtain ⟨⟨old, h1⟩, h2, h3, h4⟩ := h
    obtain ⟨w', h5, h6⟩ := stMany_sound h4
    refine ⟨w', ?_, h6⟩
    simp only [storeCells, Sem.run_bind, add_plain, run_store P w _ v .plain h3, h1, h2]
    simpa using h5

theorem callFunc_run {g : FuncId} {args : Array Value} (h : callOk P g = true) (w : World) : (callFunc g args).run P w = .ok (.enter g args) w := by
  unfold callOk at h
  unfold callFunc
  simp only [Sem.run_bind, run_program, Result.andThen_ok]
  split at h
  · rename_i fn hfn
    simp only [hfn]
    simp only [Bool.and_eq_true, Bool.not_eq_true'] at h
    have h1 : fn.body.isNone = false := by cases hb : fn.body <;> simp_all
    simp [h.2, h1]
  · simp at h

theorem run_extV {g : FuncId} {args : Array Value} {e : Array Value → Sem Value} (h : extE P g = some e) (w : World) : (extV g args).run P w = (e args).run P w := by
  simp [extV, h]
theorem callFunc_ext {g : FuncId} {args : Array Value} (h : (extE P g).isSome = true) {v : Value} {w w' : World} (hr : (extV g args).run P w = .ok v w') : (callFunc g args).run P w = .ok (.value v) w' := by
  obtain ⟨e, he⟩ := Option.isSome_iff_exists.1 h
  rw [run_extV he] at hr
  unfold extE at he
  split at he
  · rename_i fn hfn
    split at he
    · rename_i hc
      simp only [Bool.and_eq_true, Bool.not_eq_true', Option.isNone_iff_eq_none] at hc
      rw [run_callFunc_extern hfn hc.1.2 (by simpa using hc.1.1) (by simpa using hc.2) he, hr]
      rfl
    · cases he
  · cases he

theorem opArgs_arr (e : Env) (args : Array Operand) : args.map (rho e) = ⟨opArgs e args.toList⟩ := by
  apply Array.ext'; simp [opArgs]

theorem bsCells_run {t el : TypeId} {len : Nat} {parts : Array (Nat × Value)} {cells : List Value} (h : bsCells P t len parts.toList = some (el, cells)) (w : World) :
    (Instr.buildSlice t len parts).run P w = .ok (.slice (some ⟨w.heap.size, 0, none⟩) len len) { w with heap := w.heap.push (.cells ⟨cells⟩ el) } := by
  unfold bsCells at h
  split at h
  · rename_i el' hu
    split at h
    · rename_i size i hs hi
      split at h
      · rename_i z hz
        split at h
        · cases h
        · rename_i hle
          split at h
          · rename_i cs hcs
            simp only [Option.some.injEq, Prod.mk.injEq] at h
            obtain ⟨rfl, rfl⟩ := h
            unfold Instr.buildSlice
            simp only [Sem.run_bind, under_run hu, Result.andThen_ok, size_run hs, if_neg hle]
            have hzero : (zeroValue el').run P w = .ok z w := by
              unfold zeroValue typeInfo
              simp [hi, hz]
            have h1 : (if len * size = 0 then (pure #[] : Sem (Array Value)) else do pure (← zeroValue el').cells).run P w = .ok (if len * size = 0 then #[] else z.cells) w := by
              by_cases h0 : len * size = 0
              · simp [h0]
              · simp [h0, hzero]
            by_cases h0 : len * size = 0
            · simp only [h0, if_true] at hcs ⊢
              simp only [pure_bind, hcs, newRow, Sem.run_bind, run_newObj, Sem.run_pure, Result.andThen_ok]
            · simp only [h0, if_false] at hcs ⊢
              simp [hcs, newRow, hzero]
          · cases h
      · cases h
    · cases h
  · cases h

theorem effT_sound {pk : Value → T} {o : Op} {e : Env} {k : SV → T} {d : Option Tmp} {ty : TypeId} {pos : String} {af : Array Edge} {g : Option (Nat × Bool)}
    (h : (effT P pk o ty e k).sem P Q ρ w) : EffOk P Q ρ w pk e ⟨d, o, ty, pos, af, g⟩ k := by
  cases o with
  | store t a x =>
    unfold effT at h
    simp only at h
    split at h
    case h_1 b off n ha hs =>
      split at h
      · rename_i hl
        obtain ⟨w', h1, h2⟩ := stMany_sound h
        have he : execOp (rho e) ⟨d, .store t a x, ty, pos, af, g⟩ = (do Instr.storeAt t (.pointer (some ⟨b, off, none⟩)) (ev e x).val; pure .skip) := by
          show (do Instr.storeAt t (ev e a).val (ev e x).val; pure Next.skip) = _
          rw [ha]; rfl
        unfold EffOk
        rw [he]
        have hl' : (ev e x).val.cells.size = n := by simpa using Nat.eq_of_beq_eq_true hl
        simp only [Instr.storeAt, Instr.sureAddr, pure_bind, storeVar, Sem.run_bind, size_run hs, Result.andThen_ok, hl', ne_eq, not_true_eq_false, if_false, h1]
        exact ⟨.v undef, rfl, h2⟩
      · exact h.elim
    case h_2 => exact h.elim
  | alloc t =>
    unfold effT at h
    simp only at h
    split at h
    · rename_i i hi
      split at h
      · rename_i z hz
        simp only [T.sem] at h
        have he : execOp (rho e) ⟨d, .alloc t, ty, pos, af, g⟩ = (do let v ← Instr.alloc t true (.tuple #[]); pure (.value v)) := rfl
        have hr : (Instr.alloc t true (.tuple #[])).run P w = .ok (.pointer (some ⟨w.heap.size, 0, none⟩)) { w with heap := w.heap.push (.cells z.cells t) } := by
          simp [Instr.alloc, zeroValue, typeInfo, hi, hz, newVar, newRow]
        unfold EffOk
        rw [he, next_run' hr]
        exact ⟨.p _ 0, rfl, h⟩
      · exact h.elim
    · exact h.elim
  | box t x =>
    unfold effT at h
    simp only [T.sem] at h
    have he : execOp (rho e) ⟨d, .box t x, ty, pos, af, g⟩ = (do let v ← Instr.box t (ev e x).val; pure (.value v)) := rfl
    have hr : (Instr.box t (ev e x).val).run P w = .ok (.pointer (some ⟨w.heap.size, 0, none⟩)) { w with heap := w.heap.push (.cells (ev e x).val.cells t) } := by
      simp [Instr.box, newVar, newRow]
    unfold EffOk
    rw [he, next_run' hr]
    exact ⟨.p _ 0, rfl, h⟩
  | buildSlice t len parts =>
    unfold effT at h
    simp only at h
    split at h
    · rename_i el cells hb
      simp only [T.sem] at h
      have he : execOp (rho e) ⟨d, .buildSlice t len parts, ty, pos, af, g⟩ = (do let v ← Instr.buildSlice t len (parts.map fun (i, x) => (i, (ev e x).val)); pure (.value v)) := rfl
      have hr := bsCells_run (parts := parts.map fun (i, x) => (i, (ev e x).val)) (by simpa using hb) w
      unfold EffOk
      rw [he, next_run' hr]
      exact ⟨.v _, rfl, h⟩
    · exact h.elim
  | call c =>
    obtain ⟨callee, args, tys⟩ := c
    cases callee with
    | value f =>
      unfold effT at h
      simp only at h
      split at h
      · rename_i g' first cap hf
        split at h
        · rename_i hok
          have he : execOp (rho e) ⟨d, .call ⟨.value f, args, tys⟩, ty, pos, af, g⟩ = callFunc g' (first ++ args.map (rho e) ++ cap) := by
            have : rho e f = .func (.func g') first cap := hf
            simp only [execOp, resolve, Deferred.ofValue, this, pure_bind, invoke]
          unfold EffOk
          rw [he, callFunc_run hok]
          have hargs : (first ++ args.map (rho e) ++ cap : Array Value) = ⟨first.toList ++ opArgs e args.toList ++ cap.toList⟩ := by
            apply Array.ext'; simp [opArgs]
          rw [hargs]
          split at h
          · split at h
            · simp only [T.sem] at h
              exact Calls.mono h fun en w'' ⟨v, h1, h2⟩ => .inl ⟨v, h1, .v v, rfl, callRes_sound h2⟩
            · simp only [T.sem] at h
              refine Calls.mono h fun en w'' hh => ?_
              rcases hh with ⟨v, h1, h2⟩ | ⟨v, h1, h2⟩
              · exact .inl ⟨v, h1, .v v, rfl, typedRes_sound h2⟩
              · exact .inr ⟨v, h1, h2⟩
          · simp only [T.sem] at h
            refine Calls.mono h fun en w'' hh => ?_
            rcases hh with ⟨v, h1, h2⟩ | ⟨v, h1, h2⟩
            · exact .inl ⟨v, h1, .v v, rfl, typedRes_sound h2⟩
            · exact .inr ⟨v, h1, h2⟩
        · split at h
          · rename_i hok
            have he : execOp (rho e) ⟨d, .call ⟨.value f, args, tys⟩, ty, pos, af, g⟩ = callFunc g' (first ++ args.map (rho e) ++ cap) := by
              have : rho e f = .func (.func g') first cap := hf
              simp only [execOp, resolve, Deferred.ofValue, this, pure_bind, invoke]
            have hargs : (first ++ args.map (rho e) ++ cap : Array Value) = ⟨first.toList ++ opArgs e args.toList ++ cap.toList⟩ := by
              apply Array.ext'; simp [opArgs]
            simp only [T.sem] at h
            obtain ⟨v, w', h1, h2⟩ := h
            unfold EffOk
            rw [he, hargs, callFunc_ext hok h1]
            exact ⟨.v v, rfl, typedRes_sound h2⟩
          · exact h.elim
      · rename_i l first cap hf
        simp only [T.sem] at h
        have he : execOp (rho e) ⟨d, .call ⟨.value f, args, tys⟩, ty, pos, af, g⟩ = Instr.yield l (first ++ args.map (rho e)) := by
          have : rho e f = .func (.yield l) first cap := hf
          simp only [execOp, resolve, Deferred.ofValue, this, pure_bind, invoke]
        have hargs : (first ++ args.map (rho e) : Array Value) = ⟨first.toList ++ opArgs e args.toList⟩ := by
          apply Array.ext'; simp [opArgs]
        obtain ⟨fn, tmps, as, body, h1, h2⟩ := h
        unfold EffOk
        rw [he, hargs, h1]
        exact h2.mono fun en w'' ⟨v, h1, h2⟩ => ⟨v, h1, .v v, rfl, typedRes_sound h2⟩
      · exact h.elim
    | invoke r m => exact h.elim
    | builtin b =>
      obtain ⟨cs, he⟩ : ∃ cs, execOp (rho e) ⟨d, .call ⟨.builtin b, args, tys⟩, ty, pos, af, g⟩ = builtin b tys ty cs (args.map (rho e)) := by
        simp only [execOp, resolve, pure_bind, invoke]
        exact ⟨_, rfl⟩
      have hty : (⟨tys.toList⟩ : Array TypeId) = tys := rfl
      cases b
      case panic =>
        unfold effT at h
        simp only at h
        split at h
        · rename_i t x hx
          unfold EffOk
          rw [he, opArgs_arr, hx]
          simp [builtin, Instr.panic]
          exact h
        · exact h.elim
      case append => exact effRun (k' := fun v => typedRes P ty v fun v => k (.v v)) (by rw [he, opArgs_arr]; rfl) h fun v w' h' => typedRes_sound h'
      case copy => exact effRun (k' := fun v => typedRes P ty v fun v => k (.v v)) (by rw [he, opArgs_arr]; rfl) h fun v w' h' => typedRes_sound h'
      case delete => exact effRun (k' := fun v => typedRes P ty v fun v => k (.v v)) (by rw [he, opArgs_arr]; rfl) h fun v w' h' => typedRes_sound h'
      case clear => exact effRun (k' := fun v => typedRes P ty v fun v => k (.v v)) (by rw [he, opArgs_arr]; rfl) h fun v w' h' => typedRes_sound h'
      case len => exact effRun (k' := fun v => typedRes P ty v fun v => k (.v v)) (by rw [he, opArgs_arr]; rfl) h fun v w' h' => typedRes_sound h'
      case max => exact effRun (k' := fun v => typedRes P ty v fun v => k (.v v)) (by rw [he, opArgs_arr]; rfl) h fun v w' h' => typedRes_sound h'
      case min => exact effRun (k' := fun v => typedRes P ty v fun v => k (.v v)) (by rw [he, opArgs_arr]; rfl) h fun v w' h' => typedRes_sound h'
      all_goals
        obtain ⟨v, w', h1, h2⟩ := h
        simp [biV] at h1
  | panic x =>
    unfold effT at h
    simp only at h
    split at h
    · rename_i t x' hx
      have he : execOp (rho e) ⟨d, .panic x, ty, pos, af, g⟩ = (do let v ← Instr.panic (ev e x).val; pure (.value v)) := rfl
      unfold EffOk
      rw [he, hx]
      simp [Instr.panic]
      exact h
    · exact h.elim
  | makeSlice t l c => exact effRun (k' := fun v => typedRes P t v fun v => k (.v v)) rfl h fun v w' h' => typedRes_sound h'
  | makeMap t r =>
    cases r with
    | none =>
      unfold effT at h
      simp only [T.sem] at h
      have he : execOp (rho e) ⟨d, .makeMap t none, ty, pos, af, g⟩ = (do let v ← Instr.makeMap t none; pure (.value v)) := rfl
      have hr : (Instr.makeMap t none).run P w = .ok (.map (some w.heap.size)) { w with heap := w.heap.push (.map #[] 0) } := by
        simp [Instr.makeMap]
      unfold EffOk
      rw [he, next_run' hr]
      exact ⟨.v _, rfl, h⟩
    | some r => exact effRun (k' := fun v => typedRes P t v fun v => k (.v v)) rfl h fun v w' h' => typedRes_sound h'
  | lookup t x i ok => exact effRun (k' := fun v => typedRes P ty v fun v => k (.v v)) rfl h fun v w' h' => typedRes_sound h'
  | mapUpdate t m i x => exact effRunU rfl h
  | insert t m i x => exact effRunU rfl h
  | mapEntry t m i =>
    unfold effT at h
    simp only at h
    split at h
    · refine effRunS rfl h fun v w' h' => ?_
      simp only [T.sem] at h'
      obtain ⟨l, rfl, h3, h5⟩ := h'
      match l, h3, h5 with
      | [a, b], _, h5 =>
        have h6 := typedOne_sound h5
        simp only [T.sem] at h6
        obtain ⟨n, hn, h7⟩ := h6
        have hn : b = .int .i64 n := hn
        subst hn
        exact ⟨_, rfl, h7⟩
    · exact h.elim
  | entryStore t m s x => exact effRunU rfl h
  | range t x =>
    unfold effT at h
    simp only at h
    split at h
    · refine effRunS rfl h fun v w' h' => ?_
      simp only [T.sem] at h'
      obtain ⟨o, rfl, b, off, rfl, rfl, h'⟩ := h'
      exact ⟨.it b _ _, rfl, h'⟩
    · exact effRunS rfl h fun v w' h' => ⟨.v v, rfl, h'⟩
  | next it s =>
    unfold effT at h
    simp only at h
    split at h
    · rename_i r kt et hit
      refine effRunS (by show (do let v ← Instr.next (ev e it).val s ty; pure (Next.value v)) = _; rw [hit]; rfl) h fun v w' h' => ?_
      simp only [T.sem] at h'
      obtain ⟨l, rfl, h1, h2⟩ := h'
      by_cases hl : l.length = 1
      · obtain ⟨h3, h4⟩ := h1 (by simp [hl])
        subst h3
        exact ⟨.v (.tuple #[.bool false]), rfl, h4⟩
      · obtain ⟨⟨h3, h4⟩, h5⟩ := h2 (by simp [hl])
        match l, h3, h4, h5 with
        | [a, b, c], _, h4, h5 =>
          simp only [List.headD_cons] at h4
          subst h4
          have h6 := typedOne_sound (typedOne_sound h5)
          exact ⟨_, rfl, h6⟩
    · exact effRunS rfl h fun v w' h' => ⟨.v v, rfl, h'⟩
  | entry it =>
    unfold effT at h
    simp only at h
    split at h
    · rename_i r kt et hit
      refine effRunS (by show (do let v ← Instr.entry (ev e it).val; pure (Next.value v)) = _; rw [hit]; rfl) h fun v w' h' => ?_
      simp only [T.sem] at h'
      obtain ⟨l, rfl, h3, h5⟩ := h'
      match l, h3, h5 with
      | [a, b], _, h5 => exact ⟨_, rfl, typedOne_sound (typedOne_sound h5)⟩
    · exact effRunS rfl h fun v w' h' => ⟨.v v, rfl, h'⟩
  | convert a b x => exact effRun (k' := fun v => typedRes P b v fun v => k (.v v)) rfl h fun v w' h' => typedRes_sound h'
  | _ => exact h.elim

end
end Go.Proofs.YtihipcofjpnfbaaGreatDoor.Tr
