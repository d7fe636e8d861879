/- From operations to the tree: each operation's text, and that the tree is worth what the model does. -/
import Derived.Test.YtihipcofjpnfbaaGreatDoorTree
namespace Go.Proofs.YtihipcofjpnfbaaGreatDoor.Tr
open Go

section
variable (P : Program)

/-- '==' of two values of plain parts, as the model has it, told ahead. -/
def eqFs (f : TypeId → Value → Value → Option Bool) (xs ys : Array Value) : List Field → Option Bool
  | [] => some true
  | x :: r => match x.name == "_" with
    | true => none
    | false => match pureRun P (part x.type xs x.offset), pureRun P (part x.type ys x.offset) with
      | some a, some b => match f x.type a b, eqFs f xs ys r with
        | some p, some q => some (p && q)
        | _, _ => none
      | _, _ => none
def eqIs (f : Value → Value → Option Bool) (e c : Nat) (xs ys : Array Value) : List Nat → Option Bool
  | [] => some true
  | i :: r => match pureRun P (part e xs (i * c)), pureRun P (part e ys (i * c)) with
    | some a, some b => match f a b, eqIs f e c xs ys r with
      | some p, some q => some (p && q)
      | _, _ => none
    | _, _ => none
def eqV : Nat → TypeId → Value → Value → Option Bool
  | 0, _, _, _ => none
  | n + 1, t, x, y => match P.underlying t, x, y with
    | some (.int _), .int k a, .int k' b => if k = k' then some (a == b) else none
    | some .bool, .bool a, .bool b => some (a == b)
    | some .string, .string a, .string b => some (a.toList == b.toList)
    | some (.struct fs), .agg xs, .agg ys => match P.stoodInHeld t with
      | false => eqFs P (eqV n) xs ys fs.toList
      | true => none
    | some (.array m e), .agg xs, .agg ys => match P.info? e with
      | some i => eqIs P (eqV n e) e i.size xs ys (List.range m)
      | none => none
    | _, _, _ => none

def sliceBase (o : Option Addr) (l m size : Nat) : Option Addr := if m = l then o else o.map (·.add (l * size))

def lowOf (e : Env) : Option Operand → Option Value
  | none => none
  | some x => some (ev e x).val

def lenT (b : Builtin) (args : List Operand) (tys : List TypeId) (e : Env) (k : SV → List (Addr × Value) → T) : T :=
  match b, args, tys with
  | .len, [x], [t] => match P.underlying t, (ev e x).val with
    | some (.slice _), .slice _ n _ => k (.v (.int .i64 n)) []
    | some .string, .string s => k (.v (.int .i64 s.size)) []
    | some (.array n _), _ => k (.v (.int .i64 n)) []
    | _, _ => .bad
  | .cap, [x], [t] => match P.underlying t, (ev e x).val with
    | some (.slice _), .slice _ _ c => k (.v (.int .i64 c)) []
    | _, _ => .bad
  | _, _, _ => .bad

/-- The literal nil, held against a value of an interface's type. -/
def isNilLit (e : Env) (xt : TypeId) (y : Operand) : Bool :=
  match y with
  | .const _ => match (ev e y).val, P.underlying xt with
    | .nilIface, some (.interface _) => true
    | _, _ => false
  | _ => false
def isNilI : Value → Bool
  | .nilIface => true
  | _ => false
def isI (v : Value) : Prop := v = .nilIface ∨ ∃ t p, v = .iface t p

/-- Operations that write nothing: the value, and the cells that were read. -/
def stillT (o : Op) (e : Env) (k : SV → List (Addr × Value) → T) : T :=
  match o with
  | .move x | .assign x => k (ev e x) []
  | .pick c a b => match ev e c with
    | .t => k (ev e a) []
    | .f => k (ev e b) []
    | .v (.bool x) => .ite x (k (ev e a) []) (k (ev e b) [])
    | _ => .bad
  | .nilCheck x => match ev e x with
    | .p b off => k (.p b off) []
    | .v (.pointer o) => .sm o fun b off => k (.p b off) []
    | _ => .bad
  | .fieldAddr st x f => match ev e x with
    | .p b off => match P.underlying st with
      | some (.struct fs) => match fs[f]? with
        | some fd => match sizeP P fd.type with
          | some (_ + 1) => k (.p b (off + fd.offset)) []
          | _ => .bad
        | none => .bad
      | _ => .bad
    | _ => .bad
  | .load t x => match ev e x with
    | .p b off => ldT P t b off k
    | _ => .bad
  | .binOp op xt x y _ => match isNilLit P e xt y with
    | true => match op with
      | .eql => .req (isI (ev e x).val) (k (.v (.bool (isNilI (ev e x).val))) [])
      | .neq => .req (isI (ev e x).val) (k (.v (.bool (!(isNilI (ev e x).val)))) [])
      | _ => .bad
    | false => match (ev e x).val, (ev e y).val with
      | .int ka a, .int kb b => match op with
        | .shl => .req (0 ≤ b) (k (.v (.int ka (shlI ka a b))) [])
        | .shr => .req (0 ≤ b) (k (.v (.int ka (shrI ka a b))) [])
        | op => if ka = kb then binInt op ka a b (k · []) else .bad
      | .bool a, .bool b => match isAggP P xt, P.underlying xt, op with
        | _, some .bool, .eql => k (.v (.bool (a == b))) []
        | _, some .bool, .neq => k (.v (.bool (!(a == b)))) []
        | _, _, _ => .bad
      | .string a, .string b => match op with
        | .eql => k (.v (.bool (a.toList == b.toList))) []
        | .neq => k (.v (.bool (!(a.toList == b.toList)))) []
        | .lss => k (.v (.bool (Op.bytesLess a.toList b.toList))) []
        | .add => .req (a.size + b.size ≤ 9223372036854775807) (k (.v (.string (a ++ b))) [])
        | _ => .bad
      | .pointer o, .pointer none => match P.underlying xt, op with
        | some (.pointer _), .eql => k (match ev e x with | .p _ _ => .f | _ => .v (.bool o.isNone)) []
        | some (.pointer _), .neq => k (match ev e x with | .p _ _ => .t | _ => .v (.bool (!o.isNone))) []
        | _, _ => .bad
      | .slice o _ _, .slice none _ _ => match P.underlying xt, op with
        | some (.slice _), .eql => k (.v (.bool o.isNone)) []
        | some (.slice _), .neq => k (.v (.bool (!o.isNone))) []
        | _, _ => .bad
      | .map o, .map none => match P.underlying xt, op with
        | some (.map _ _), .eql => k (.v (.bool o.isNone)) []
        | some (.map _ _), .neq => k (.v (.bool (!o.isNone))) []
        | _, _ => .bad
      | .agg a, .agg b => match P.eqGuardType P.depth xt, eqV P 100 xt (.agg a) (.agg b), op with
        | false, some r, .eql => k (.v (.bool r)) []
        | false, some r, .neq => k (.v (.bool (!r))) []
        | _, _, _ => .bad
      | _, _ => .bad
  | .unOp .not _ x => match ev e x with
    | .t => k .f []
    | .f => k .t []
    | .v (.bool b) => k (.v (.bool (!b))) []
    | _ => .bad
  | .indexAddr t x i => match P.underlying t, ev e x, (ev e i).val with
    | some (.slice el), .v (.slice o len _), .int _ n => match sizeP P el with
      | some s => .req (0 ≤ n ∧ n < len) (.sm o fun b off => k (.p b (off + n.toNat * s)) [])
      | none => .bad
    | some (.array len el), .p b off, .int _ n => match sizeP P el with
      | some s => .req (0 ≤ n ∧ n < len) (k (.p b (off + n.toNat * s)) [])
      | none => .bad
    | _, _, _ => .bad
  | .index t x i => match P.underlying t, (ev e x).val, (ev e i).val with
    | some .string, .string s, .int _ n => .req (0 ≤ n ∧ n < s.size) (k (.v (.int .u8 (s.data.getD n.toNat 0).toNat)) [])
    | some (.array len el), .agg cs, .int _ n => match sizeP P el, isAggP P el with
      | some 1, some false => .req (0 ≤ n ∧ n < len ∧ n.toNat < cs.size) (typedV (leaf1 P el) (cs.getD n.toNat undef) (k · []))
      | some s, some true => .req (0 ≤ n ∧ n < len) (typedV (leaf1 P el) (.agg (cs.extract (n.toNat * s) (n.toNat * s + s))) (k · []))
      | _, _ => .bad
    | _, _, _ => .bad
  | .slice t x lo hi none => match P.underlying t, (ev e x).val, lowOf e lo, lowOf e hi with
    | some (.slice el), .slice o len cap, l, h => match sizeP P el with
      | some s => match l, h with
        | none, none => k (.v (.slice (sliceBase o 0 cap s) len cap)) []
        | some (.int _ l), none => .req (0 ≤ l ∧ l ≤ len) (k (.v (.slice (sliceBase o l.toNat cap s) (len - l.toNat) (cap - l.toNat))) [])
        | none, some (.int _ h) => .req (0 ≤ h ∧ h ≤ cap) (k (.v (.slice (sliceBase o 0 cap s) h.toNat cap)) [])
        | some (.int _ l), some (.int _ h) => .req (0 ≤ h ∧ h ≤ cap ∧ 0 ≤ l ∧ l ≤ h) (k (.v (.slice (sliceBase o l.toNat cap s) (h.toNat - l.toNat) (cap - l.toNat))) [])
        | _, _ => .bad
      | none => .bad
    | some (.array n el), .pointer (some a), l, h => match sizeP P el with
      | some s => match l, h with
        | none, none => k (.v (.slice (some a) n n)) []
        | some (.int _ l), none => .req (0 ≤ l ∧ l ≤ n) (k (.v (.slice (sliceBase (some a) l.toNat n s) (n - l.toNat) (n - l.toNat))) [])
        | none, some (.int _ h) => .req (0 ≤ h ∧ h ≤ n) (k (.v (.slice (some a) h.toNat n)) [])
        | some (.int _ l), some (.int _ h) => .req (0 ≤ h ∧ h ≤ n ∧ 0 ≤ l ∧ l ≤ h) (k (.v (.slice (sliceBase (some a) l.toNat n s) (h.toNat - l.toNat) (n - l.toNat))) [])
        | _, _ => .bad
      | none => .bad
    | some .string, .string s, l, h => match l, h with
      | some (.int _ l), none => .req (0 ≤ l ∧ l ≤ s.size) (k (.v (.string (s.extract l.toNat s.size))) [])
      | none, some (.int _ h) => .req (0 ≤ h ∧ h ≤ s.size) (k (.v (.string (s.extract 0 h.toNat))) [])
      | some (.int _ l), some (.int _ h) => .req (0 ≤ h ∧ h ≤ s.size ∧ 0 ≤ l ∧ l ≤ h) (k (.v (.string (s.extract l.toNat h.toNat))) [])
      | _, _ => .bad
    | _, _, _, _ => .bad
  | .slice t x lo (some hi) (some mx) => match P.underlying t, (ev e x).val, lowOf e lo, (ev e hi).val, (ev e mx).val with
    | some (.slice el), .slice o _ cap, some (.int _ l), .int _ h, .int _ m => match sizeP P el with
      | some s => .req (0 ≤ m ∧ m ≤ cap ∧ 0 ≤ h ∧ h ≤ m.toNat ∧ 0 ≤ l ∧ l ≤ h.toNat) (k (.v (.slice (sliceBase o l.toNat m.toNat s) (h.toNat - l.toNat) (m.toNat - l.toNat))) [])
      | none => .bad
    | some (.slice el), .slice o _ cap, none, .int _ h, .int _ m => match sizeP P el with
      | some s => .req (0 ≤ m ∧ m ≤ cap ∧ 0 ≤ h ∧ h ≤ m.toNat) (k (.v (.slice (sliceBase o 0 m.toNat s) h.toNat m.toNat)) [])
      | none => .bad
    | _, _, _, _, _ => .bad
  | .call ⟨.builtin b, args, tys⟩ => lenT P b args.toList tys.toList e k
  | o => match pureRun P (execOp (rho e) ⟨none, o, 0, "", #[], none⟩) with
    | some (.value v) => k (.v v) []
    | _ => .bad

/-- Which operations are still. -/
def isStill : Op → Bool
  | .move _ | .assign _ | .pick .. | .nilCheck _ | .fieldAddr .. | .load .. | .binOp .. | .unOp .. | .indexAddr .. | .index .. => true
  | .slice _ _ _ _ none => true
  | .slice _ _ _ (some _) (some _) => true
  | .field .. | .extract .. | .build .. | .makeInterface .. | .makeFunc .. | .typeAssert .. => true
  | .convert src dst _ => match P.underlying src, P.underlying dst with
    | some (.int _), some (.int _) => true
    | some .string, some .string => true
    | _, _ => false
  | .call ⟨.builtin b, _, tys⟩ => match b, tys.toList with
    | .len, [t] => match P.underlying t with
      | some (.map _ _) => false
      | _ => true
    | .cap, _ => true
    | _, _ => false
  | _ => false

end
end Go.Proofs.YtihipcofjpnfbaaGreatDoor.Tr
