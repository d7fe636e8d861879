/- The tree of a function: what its operations come to, as a term of few forms, and what it is worth (sem). YtihipcofjpnfbaaGreatDoor is replaced by the seat's name. -/
import Derived.OrdersHeld
import Derived.OrdersIn
import Derived.RangeFuncLeaves
import Derived.RangeFuncIn
import Derived.RangeFuncCalls
import Derived.KernelRfl
import Derived.Laws.Sem
namespace Go.Proofs.YtihipcofjpnfbaaGreatDoor.Tr
open Go

inductive SV where
  | v (x : Value)
  | t
  | f
  | p (b off : Nat)
  | it (r kt et : Nat)

def SV.val : SV → Value
  | .v x => x
  | .t => .bool true
  | .f => .bool false
  | .p b off => .pointer (some ⟨b, off, none⟩)
  | .it r _ _ => .pointer (some ⟨r, 0, none⟩)

def SV.of : Value → SV
  | .bool true => .t
  | .bool false => .f
  | x => .v x

theorem SV.of_val (x : Value) : (SV.of x).val = x := by unfold SV.of; split <;> rfl

structure Env where
  l : List (Nat × SV)
  d : Nat → Value
  ds : List Deferred

def Env.find (d : Nat → Value) (t : Nat) : List (Nat × SV) → SV
  | [] => .v (d t)
  | (i, s) :: r => match Nat.beq i t with
    | true => s
    | false => Env.find d t r

def Env.get (e : Env) (t : Nat) : SV := Env.find e.d t e.l
def Env.put (e : Env) (t : Nat) (s : SV) : Env := ⟨(t, s) :: e.l, e.d, e.ds⟩

theorem Env.get_put (e : Env) (t u : Nat) (s : SV) : (e.put t s).get u = if t = u then s else e.get u := by
  show Env.find e.d u ((t, s) :: e.l) = _
  rw [Env.find]
  by_cases h : t = u
  · subst h; simp
  · have hb : Nat.beq t u = false := by
      cases hh : Nat.beq t u with
      | false => rfl
      | true => exact absurd (Nat.eq_of_beq_eq_true hh) h
    simp only [hb, if_neg h]; rfl

def ev (e : Env) : Operand → SV
  | .tmp t => e.get t
  | .const v => SV.of v
  | .global g => .p g 0
  | .func f => .v (.func (.func f) #[] #[])

structure Rel (n : Nat) (e : Env) (a : Act) : Prop where
  size : a.tmps.size = n
  slot : ∀ t, a.tmps.getD t undef = (e.get t).val
  ds : a.defers = e.ds

theorem Rel.ev {n : Nat} {e : Env} {a : Act} (h : Rel n e a) (x : Operand) : (ev e x).val = a.eval x := by
  cases x with
  | tmp t => exact (h.slot t).symm
  | const v => exact SV.of_val v
  | global g => rfl
  | func f => rfl

def rho (e : Env) : Operand → Value := fun x => (ev e x).val
theorem Rel.rho {n : Nat} {e : Env} {a : Act} (h : Rel n e a) : a.eval = rho e := funext fun x => (h.ev x).symm

theorem put_defers (a : Act) (dst : Option Tmp) (v : Value) : (a.put dst v).defers = a.defers := by cases dst <;> rfl

theorem Rel.put {n : Nat} {e : Env} {a : Act} (h : Rel n e a) {d : Nat} (hd : d < n) (s : SV) : Rel n (e.put d s) (a.put (some d) s.val) := by
  refine ⟨by simpa [Act.put] using h.size, fun t => ?_, by rw [put_defers]; exact h.ds⟩
  rw [Env.get_put]
  by_cases ht : d = t
  · subst ht
    have : d < a.tmps.size := by rw [h.size]; exact hd
    simp [Act.put, Array.getD, this]
  · rw [if_neg ht, ← h.slot t]
    have : (a.put (some d) s.val).tmps[t]? = a.tmps[t]? := Array.getElem?_setIfInBounds_ne ht
    simp only [Array.getD_eq_getD_getElem?, this]

/-- Putting what a slot holds already. -/
theorem Rel.reput {n : Nat} {e : Env} {a : Act} (h : Rel n e a) {g : Nat} {s : SV} (hs : s.val = (e.get g).val) : Rel n (e.put g s) a := by
  refine ⟨h.size, fun t => ?_, h.ds⟩
  rw [Env.get_put]
  by_cases ht : g = t
  · subst ht; rw [if_pos rfl, hs]; exact h.slot g
  · rw [if_neg ht]; exact h.slot t

/-- The fence that shuts nothing out; in a round of the loop r, or in none. -/
def FF (r : Option Nat) : Fence := { Fence.wide with round := r }
theorem calls_ff {P : Program} {f : FuncId} {args : Array Value} {w : World} {R : Ending → World → Prop} {r : Option Nat} : CallsIn (FF r) 0 P f args w R ↔ Calls P f args w R :=
  (show CallsIn (FF r) 0 P f args w R ↔ CallsIn Fence.wide 0 P f args w R from Iff.rfl).trans callsIn_wide

/-- A call of yield. -/
def Yields (P : Program) (l : Nat) (args : Array Value) (w : World) (R : Ending → World → Prop) : Prop :=
  ∃ fn tmps assign body, (Instr.yield l args).run P w = .ok (.round l fn tmps assign body) w ∧ RoundIn (FF none) 0 P l fn tmps assign body w R

theorem Yields.mono {P : Program} {l : Nat} {args : Array Value} {w : World} {R R' : Ending → World → Prop} (h : Yields P l args w R) (hR : ∀ e w', R e w' → R' e w') : Yields P l args w R' := by
  obtain ⟨fn, tmps, as, body, h1, h2⟩ := h
  exact ⟨fn, tmps, as, body, h1, h2.mono hR⟩

/-- How a function is being left: returning, or with a panic. -/
def modeOf : Option Value → FrameMode
  | none => .returning
  | some v => .panicking [{ v, recovered := false }]

inductive T : Type where
  | ret (v : Value)
  | pan (v : Value)
  | bad
  | ite (b : Bool) (x y : T)
  | req (p : Prop) (x : T)
  | sm (o : Option Addr) (k : Nat → Nat → T)
  | ldI (kd : IntKind) (b off : Nat) (k : Int → T)
  | ldB (b off : Nat) (k : Bool → T)
  | ldP (b off : Nat) (k : Option Addr → T)
  | ldS (b off : Nat) (k : Option Addr → Nat → Nat → T)
  | ldM (b off : Nat) (k : Option Nat → T)
  | ldT (b off : Nat) (k : ByteArray → T)
  | ldV (b off : Nat) (k : Value → T)
  | asI (kd : IntKind) (v : Value) (k : Int → T)
  | asB (v : Value) (k : Bool → T)
  | asP (v : Value) (k : Option Addr → T)
  | asS (v : Value) (k : Option Addr → Nat → Nat → T)
  | asM (v : Value) (k : Option Nat → T)
  | asT (v : Value) (k : ByteArray → T)
  | asA (v : Value) (k : List Value → T)
  | asU (v : Value) (k : List Value → T)
  | asC (g : Nat) (v : Value) (k : List Value → T)
  | st (b off : Nat) (v : Value) (x : T)
  | new (o : Obj) (k : Nat → T)
  | call (f : Nat) (args : List Value) (k : Value → T)
  | call2 (f : Nat) (args : List Value) (k kp : Value → T)
  | yl (l : Nat) (args : List Value) (k : Value → T)
  | col (d : Nat) (x : T)
  | dcall (f : Nat) (args : List Value) (m : Option Value) (x y : T)
  | beg (l : Nat) (x : T)
  | rf (ar : Option Nat) (lv : Nat) (g : Nat) (args : List Value) (body : Nat → List Value → T) (after : Nat → T) (ret : Nat → T) (exits : List (Nat × (Nat → T)))
  | run (s : Sem Value) (k : Value → T)
  | chk (l : List (Addr × Value)) (x : T)
  | both (x y : T)
  | drew (x : T)
  | loop (l : Nat) (vs : List Value) (body : List Value → (Nat → Value) → T)
  | blk (l : Nat) (after : List Value → (Nat → Value) → T) (body : T)
  | next (l : Nat) (vs : List Value) (ok : Prop)

abbrev Lv := Nat → List Value → World → Prop

def AllCells (w : World) : List (Addr × Value) → Prop
  | [] => True
  | (a, v) :: r => w.cell? a = some v ∧ AllCells w r

theorem AllCells.get {w : World} : ∀ {l : List (Addr × Value)}, AllCells w l → ∀ x ∈ l, w.cell? x.1 = some x.2
  | _ :: _, h, _, hx => by
    rcases List.mem_cons.1 hx with rfl | hx
    · exact h.1
    · exact AllCells.get h.2 _ hx

/-- What entering a range over a function lays. -/
def Entered (ar : Option Nat) (l D : Nat) (rec : Loop) (w w2 : World) : Prop :=
  rec.state = .ready ∧ rec.pending = none ∧ rec.defers = D ∧
  match ar with
  | none => D = w.heap.size ∧ l = w.heap.size + 1 ∧ w2 = { w with heap := (w.heap.push (.deferred (some []))).push (.loop rec) }
  | some l0 => (∃ rec0, w.heap[l0]? = some (.loop rec0) ∧ D = rec0.defers) ∧ l = w.heap.size ∧ w2 = { w with heap := w.heap.push (.loop rec) }

/-- The loop in whose round it stands is there. -/
def EnterOk (ar : Option Nat) (w : World) : Prop :=
  match ar with
  | none => True
  | some l0 => ∃ rec0, w.heap[l0]? = some (.loop rec0)

mutual
def T.sem (P : Program) (Q : Ending → World → Prop) : T → Lv → World → Prop
  | .ret v, _, w => Q (.returned v) w
  | .pan v, _, w => Q (.panicked [{ v, recovered := false }]) w
  | .bad, _, _ => False
  | .ite b x y, ρ, w => (b = true → x.sem P Q ρ w) ∧ (b = false → y.sem P Q ρ w)
  | .req p x, ρ, w => p ∧ x.sem P Q ρ w
  | .sm o k, ρ, w => ∃ b off, o = some ⟨b, off, none⟩ ∧ (k b off).sem P Q ρ w
  | .ldI kd b off k, ρ, w => ∃ n, w.cell? ⟨b, off, none⟩ = some (.int kd n) ∧ (k n).sem P Q ρ w
  | .ldB b off k, ρ, w => ∃ n, w.cell? ⟨b, off, none⟩ = some (.bool n) ∧ (k n).sem P Q ρ w
  | .ldP b off k, ρ, w => ∃ n, w.cell? ⟨b, off, none⟩ = some (.pointer n) ∧ (k n).sem P Q ρ w
  | .ldS b off k, ρ, w => ∃ o n c, w.cell? ⟨b, off, none⟩ = some (.slice o n c) ∧ (k o n c).sem P Q ρ w
  | .ldM b off k, ρ, w => ∃ n, w.cell? ⟨b, off, none⟩ = some (.map n) ∧ (k n).sem P Q ρ w
  | .ldT b off k, ρ, w => ∃ n, w.cell? ⟨b, off, none⟩ = some (.string n) ∧ (k n).sem P Q ρ w
  | .ldV b off k, ρ, w => ∃ n, w.cell? ⟨b, off, none⟩ = some n ∧ (k n).sem P Q ρ w
  | .asI kd v k, ρ, w => ∃ n, v = .int kd n ∧ (k n).sem P Q ρ w
  | .asB v k, ρ, w => ∃ n, v = .bool n ∧ (k n).sem P Q ρ w
  | .asP v k, ρ, w => ∃ n, v = .pointer n ∧ (k n).sem P Q ρ w
  | .asS v k, ρ, w => ∃ o n c, v = .slice o n c ∧ (k o n c).sem P Q ρ w
  | .asM v k, ρ, w => ∃ n, v = .map n ∧ (k n).sem P Q ρ w
  | .asT v k, ρ, w => ∃ n, v = .string n ∧ (k n).sem P Q ρ w
  | .asA v k, ρ, w => ∃ n, v = .agg ⟨n⟩ ∧ (k n).sem P Q ρ w
  | .asU v k, ρ, w => ∃ n, v = .tuple ⟨n⟩ ∧ (k n).sem P Q ρ w
  | .asC g v k, ρ, w => ∃ n, v = .func (.func g) #[] ⟨n⟩ ∧ (k n).sem P Q ρ w
  | .st b off v x, ρ, w => (∃ old, w.cell? ⟨b, off, none⟩ = some old) ∧ w.frozen? ⟨b, off, none⟩ = false ∧ v.oneCell' = true ∧ x.sem P Q ρ (w.setCell ⟨b, off, none⟩ v)
  | .new o k, ρ, w => (k w.heap.size).sem P Q ρ { w with heap := w.heap.push o }
  | .call f args k, ρ, w => Calls P f ⟨args⟩ w fun e w' => ∃ v, e = .returned v ∧ (k v).sem P Q ρ w'
  | .call2 f args k kp, ρ, w => Calls P f ⟨args⟩ w fun e w' => (∃ v, e = .returned v ∧ (k v).sem P Q ρ w') ∨ (∃ v, e = .panicked [{ v, recovered := false }] ∧ (kp v).sem P Q ρ w')
  | .yl l args k, ρ, w => Yields P l ⟨args⟩ w fun e w' => ∃ v, e = .returned v ∧ (k v).sem P Q ρ w'
  | .col d x, ρ, w => ∃ w', (Instr.takeDeferred d).run P w = .ok [] w' ∧ x.sem P Q ρ w'
  | .dcall f args m x y, ρ, w => CallsDIn (FF none) 0 P f ⟨args⟩ (modeOf m) w fun e u w' => ∃ v, e = .returned v ∧ ((settle u = .returning ∧ x.sem P Q ρ w') ∨ (settle u = modeOf m ∧ y.sem P Q ρ w'))
  | .beg l x, ρ, w => ∃ w', (Instr.beginRound l).run P w = .ok () w' ∧ x.sem P Q ρ w'
  | .rf ar lv g args body after ret exits, ρ, w => EnterOk ar w ∧ ∀ (l D : Nat) (rec : Loop) (w2 : World), Entered ar l D rec w w2 →
      (∀ (W : World) (as : List Value) (R : Value → World → Prop), W.heap[l]? = some (.loop rec) →
        (body l as).sem P Q (fun l' x w'' => if l' = lv then R (x.headD undef) w'' else ρ l' x w'') W → Yields P l ⟨as⟩ W fun e W' => ∃ v, e = .returned v ∧ R v W') →
      Calls P g ⟨.func (.yield l) #[] #[] :: args⟩ w2 fun e w3 => (∃ v, e = .returned v) ∧ ∃ jump w4, (Instr.endLoop l).run P w3 = .ok jump w4 ∧
        ((jump = none ∧ (after D).sem P Q ρ w4) ∨ (jump = some .ret ∧ (ret D).sem P Q ρ w4) ∨ exitsSem P Q ρ jump D w4 exits)
  | .run s k, ρ, w => ∃ v w', s.run P w = .ok v w' ∧ (k v).sem P Q ρ w'
  | .chk l x, ρ, w => AllCells w l ∧ x.sem P Q ρ w
  | .both x y, ρ, w => x.sem P Q ρ w ∧ y.sem P Q ρ w
  | .drew x, ρ, w => x.sem P Q ρ { w with drawn := w.drawn + 1 }
  | .loop l vs body, ρ, w => ∃ (I : List Value → World → Prop) (μ : List Value → World → Nat), I vs w ∧
      ∀ vs' j w', I vs' w' → (body vs' j).sem P Q (fun l' x w'' => if l' = l then I x w'' ∧ μ x w'' < μ vs' w' else ρ l' x w'') w'
  | .blk l after body, ρ, w => ∃ (J : List Value → World → Prop), (∀ vs j w', J vs w' → (after vs j).sem P Q ρ w') ∧
      body.sem P Q (fun l' x w'' => if l' = l then J x w'' else ρ l' x w'') w
  | .next l vs ok, ρ, w => ok ∧ ρ l vs w

def exitsSem (P : Program) (Q : Ending → World → Prop) (ρ : Lv) (jump : Option Code) (D : Nat) (w : World) : List (Nat × (Nat → T)) → Prop
  | [] => False
  | (i, x) :: r => (jump = some (.exit i) ∧ (x D).sem P Q ρ w) ∨ exitsSem P Q ρ jump D w r
end

/-! ### What a Sem without memory comes to -/

def pureRun (P : Program) {α : Type} : Sem α → Option α
  | .pure a => some a
  | .program k => pureRun P (k P)
  | _ => none

theorem pureRun_sound {P : Program} {α : Type} : ∀ {s : Sem α} {a : α}, pureRun P s = some a → ∀ w, s.run P w = .ok a w
  | .pure _, _, h, _ => by simp only [pureRun, Option.some.injEq] at h; subst h; rfl
  | .program k, _, h, w => by
    simp only [pureRun] at h
    simp only [Sem.run]
    exact pureRun_sound h w

def sizeP (P : Program) (t : TypeId) : Option Nat := (P.info? t).map (·.size)

inductive Lk where
  | int (k : IntKind)
  | bool
  | ptr
  | slice
  | map
  | str
  | any
  | agg (l : List Lk)

mutual
def leafs (P : Program) : Nat → TypeId → List Lk
  | 0, _ => [.any]
  | n + 1, t => match P.underlying t with
    | some (.int k) => [.int k]
    | some .bool => [.bool]
    | some .string => [.str]
    | some (.pointer _) => [.ptr]
    | some (.slice _) => [.slice]
    | some (.map _ _) => [.map]
    | some (.struct fs) => leafsF P n fs.toList
    | some (.array m e) => leafsA P n m e
    | _ => [.any]
def leafsF (P : Program) : Nat → List Field → List Lk
  | 0, _ => [.any]
  | _, [] => []
  | n + 1, f :: r => leafs P n f.type ++ leafsF P n r
def leafsA (P : Program) : Nat → Nat → TypeId → List Lk
  | 0, _, _ => [.any]
  | _, 0, _ => []
  | n + 1, m + 1, e => leafs P n e ++ leafsA P n m e
end

section
variable (P : Program)

/-- A value of one cell, told by its kind. -/
def typedS (lk : Lk) (v : Value) (k : SV → T) : T :=
  match lk with
  | .int kd => .asI kd v fun n => k (.v (.int kd n))
  | .bool => .asB v fun n => k (.v (.bool n))
  | .ptr => .asP v fun n => k (.v (.pointer n))
  | .slice => .asS v fun o n c => k (.v (.slice o n c))
  | .map => .asM v fun n => k (.v (.map n))
  | .str => .asT v fun n => k (.v (.string n))
  | _ => k (.v v)

def typedMany : List Lk → List Value → (List Value → T) → T
  | [], _, k => k []
  | lk :: r, vs, k => typedS lk (vs.headD undef) fun sv => typedMany r vs.tail fun l => k (sv.val :: l)

/-- A value told by its kind. -/
def typedV (lk : Lk) (v : Value) (k : SV → T) : T :=
  match lk with
  | .agg ls => .asA v fun cs => .req (cs.length = ls.length) (typedMany ls cs fun l => k (.v (.agg ⟨l⟩)))
  | lk => typedS lk v k

def ldOne (lk : Lk) (b off : Nat) (k : Value → T) : T :=
  match lk with
  | .int kd => .ldI kd b off fun n => k (.int kd n)
  | .bool => .ldB b off fun n => k (.bool n)
  | .ptr => .ldP b off fun n => k (.pointer n)
  | .slice => .ldS b off fun o n c => k (.slice o n c)
  | .map => .ldM b off fun n => k (.map n)
  | .str => .ldT b off fun n => k (.string n)
  | _ => .ldV b off fun n => k n

def ldMany (b off : Nat) : List Lk → Nat → (List Value → T) → T
  | [], _, k => k []
  | lk :: r, i, k => ldOne lk b (off + i) fun v => ldMany b off r (i + 1) fun vs => k (v :: vs)

def cellsAt (b off : Nat) : Nat → List Value → List (Addr × Value)
  | _, [] => []
  | i, v :: r => (⟨b, off + i, none⟩, v) :: cellsAt b off (i + 1) r

def isAggP (t : TypeId) : Option Bool :=
  match P.underlying t with
  | some (.struct _) => some true
  | some (.array _ _) => some true
  | some _ => some false
  | none => none

def leaf1 (t : TypeId) : Lk :=
  match isAggP P t with
  | some true => .agg (leafs P 40 t)
  | _ => match leafs P 40 t with
    | [lk] => lk
    | _ => .any

def ldT (t : TypeId) (b off : Nat) (k : SV → List (Addr × Value) → T) : T :=
  match isAggP P t with
  | some true => match sizeP P t with
    | some n => match Nat.beq (leafs P 40 t).length n with
      | true => ldMany b off (leafs P 40 t) 0 fun vs => k (.v (.agg ⟨vs⟩)) (cellsAt b off 0 vs)
      | false => .bad
    | none => .bad
  | some false => ldOne (leaf1 P t) b off fun v => k (.v v) [(⟨b, off, none⟩, v)]
  | none => .bad

def wr (k : IntKind) (n : Int) : Int := k.wrap n
def bitsI (op : BinOp) (k : IntKind) (x y : Int) : Int :=
  let a := BitVec.ofInt k.bits x
  let b := BitVec.ofInt k.bits y
  match op with
  | .and => k.wrap ((a &&& b).toNat : Int)
  | .or => k.wrap ((a ||| b).toNat : Int)
  | .xor => k.wrap ((a ^^^ b).toNat : Int)
  | _ => k.wrap ((a &&& ~~~b).toNat : Int)
def shlI (k : IntKind) (x y : Int) : Int := k.wrap (x * 2 ^ (min y.toNat k.bits))
def shrI (k : IntKind) (x y : Int) : Int := x.fdiv (2 ^ (min y.toNat k.bits))

/-- '==' on ints, as the model has it. -/
def binInt (op : BinOp) (k : IntKind) (x y : Int) (κ : SV → T) : T :=
  match op with
  | .add => κ (.v (.int k (k.wrap (x + y))))
  | .sub => κ (.v (.int k (k.wrap (x - y))))
  | .mul => κ (.v (.int k (k.wrap (x * y))))
  | .quo => .req (y ≠ 0) (κ (.v (.int k (k.wrap (x.tdiv y)))))
  | .rem => .req (y ≠ 0) (κ (.v (.int k (x.tmod y))))
  | .and => κ (.v (.int k (bitsI .and k x y)))
  | .or => κ (.v (.int k (bitsI .or k x y)))
  | .xor => κ (.v (.int k (bitsI .xor k x y)))
  | .andNot => κ (.v (.int k (bitsI .andNot k x y)))
  | .eql => κ (.v (.bool (x == y)))
  | .neq => κ (.v (.bool (x != y)))
  | .lss => κ (.v (.bool (decide (x < y))))
  | .leq => κ (.v (.bool (decide (x ≤ y))))
  | .gtr => κ (.v (.bool (decide (x > y))))
  | .geq => κ (.v (.bool (decide (x ≥ y))))
  | .shl => .req (0 ≤ y) (κ (.v (.int k (shlI k x y))))
  | .shr => .req (0 ≤ y) (κ (.v (.int k (shrI k x y))))
end
end Go.Proofs.YtihipcofjpnfbaaGreatDoor.Tr
