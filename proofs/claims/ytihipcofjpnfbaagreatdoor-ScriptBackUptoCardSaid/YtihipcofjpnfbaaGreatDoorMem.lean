/- Memory, block by block; and a tree's steps. -/
import Derived.Test.YtihipcofjpnfbaaGreatDoorCode
import Derived.Maps.AppendAt
import Derived.Laws.OwnMore
namespace Go.Proofs.YtihipcofjpnfbaaGreatDoor.Tr
open Go
set_option linter.unusedSimpArgs false
set_option linter.unusedVariables false

open Go.RowKit

/-- Block b holds these cells, none of them frozen. -/
def Cells (w : World) (b : Nat) (ty : TypeId) (l : List Value) : Prop := w.heap[b]? = some (.cells ⟨l⟩ ty (0, 0))

/-- Between two worlds: what stood is as it was, but for the blocks of F. -/
structure Fr (F : List Nat) (w w' : World) : Prop where
  os : w'.os = w.os
  tape : w'.tape = w.tape
  output : w'.output = w.output
  size : w.heap.size ≤ w'.heap.size
  block : ∀ k, k < w.heap.size → k ∉ F → w'.heap[k]? = w.heap[k]?

section
variable {w w' w'' : World} {b : Nat} {ty : TypeId} {l : List Value} {F G : List Nat}

theorem Cells.lt (h : Cells w b ty l) : b < w.heap.size := by
  unfold Cells at h
  rcases Nat.lt_or_ge b w.heap.size with h' | h'
  · exact h'
  · rw [Array.getElem?_eq_none h'] at h; cases h

theorem Cells.cell (h : Cells w b ty l) {i : Nat} {v : Value} (hi : l[i]? = some v) : w.cell? ⟨b, i, none⟩ = some v := by
  unfold Cells at h
  unfold World.cell?
  simp only [h]
  simpa using hi

theorem Cells.frozen (h : Cells w b ty l) (i : Nat) : w.frozen? ⟨b, i, none⟩ = false := by
  unfold Cells at h
  unfold World.frozen?
  simp only [h]
  simp

theorem Fr.refl (F : List Nat) (w : World) : Fr F w w := ⟨rfl, rfl, rfl, Nat.le_refl _, fun _ _ _ => rfl⟩
theorem Fr.trans (h : Fr F w w') (k : Fr F w' w'') : Fr F w w'' :=
  ⟨k.os.trans h.os, k.tape.trans h.tape, k.output.trans h.output, Nat.le_trans h.size k.size, fun i hi hf => (k.block i (Nat.lt_of_lt_of_le hi h.size) hf).trans (h.block i hi hf)⟩
theorem Fr.mono (h : Fr F w w') (hF : ∀ x ∈ F, x ∈ G ∨ w.heap.size ≤ x) : Fr G w w' :=
  ⟨h.os, h.tape, h.output, h.size, fun i hi hg => h.block i hi (fun hf => (hF i hf).elim hg (fun h => absurd hi (Nat.not_lt.2 h)))⟩
theorem Fr.nil (h : Fr [] w w') : Fr G w w' := h.mono (fun x hx => by cases hx)
/-- Two frames, one behind the other; blocks of the second that are new need not be told. -/
theorem Fr.trans' (h : Fr F w w') (k : Fr G w' w'') (hG : ∀ x ∈ G, x ∈ F ∨ w.heap.size ≤ x) : Fr F w w'' :=
  ⟨k.os.trans h.os, k.tape.trans h.tape, k.output.trans h.output, Nat.le_trans h.size k.size, fun i hi hf =>
    (k.block i (Nat.lt_of_lt_of_le hi h.size) (fun hg => (hG i hg).elim hf (fun h => absurd hi (Nat.not_lt.2 h)))).trans (h.block i hi hf)⟩

theorem Fr.cells (h : Fr F w w') (hc : Cells w b ty l) (hb : b ∉ F) : Cells w' b ty l := by
  unfold Cells
  rw [h.block b hc.lt hb]
  exact hc

theorem Fr.drew (w : World) : Fr F w { w with drawn := w.drawn + 1 } := ⟨rfl, rfl, rfl, Nat.le_refl _, fun _ _ _ => rfl⟩
theorem Cells.drew (h : Cells w b ty l) : Cells { w with drawn := w.drawn + 1 } b ty l := h

theorem push_get (o : Obj) (k : Nat) (h : k < w.heap.size) : (w.heap.push o)[k]? = w.heap[k]? := by
  rw [Array.getElem?_push, if_neg (by omega)]

theorem Fr.push (o : Obj) : Fr F w { w with heap := w.heap.push o } :=
  ⟨rfl, rfl, rfl, by simp, fun k hk _ => push_get o k hk⟩

theorem setCell_get {a : Addr} {v : Value} {k : Nat} (h : k ≠ a.block) : (w.setCell a v).heap[k]? = w.heap[k]? := by
  simp only [World.setCell, Array.getElem?_modify]
  rw [if_neg (by omega)]

theorem Fr.set {a : Addr} {v : Value} (ha : a.block ∈ F) : Fr F w (w.setCell a v) :=
  ⟨rfl, rfl, rfl, by simp [World.setCell], fun k hk hf => setCell_get (fun he => hf (he ▸ ha))⟩

theorem Cells.set (h : Cells w b ty l) (i : Nat) (v : Value) : Cells (w.setCell ⟨b, i, none⟩ v) b ty (l.set i v) := by
  unfold Cells at *
  simp only [World.setCell, Array.getElem?_modify, h]
  simp

theorem Cells.inj {l' : List Value} {ty' : TypeId} (h : Cells w b ty l) (h' : Cells w b ty' l') : l = l' ∧ ty = ty' := by
  unfold Cells at *
  rw [h] at h'
  simp only [Option.some.injEq, Obj.cells.injEq, Array.mk.injEq] at h'
  exact ⟨h'.1, h'.2.1⟩
end

section
variable {P : Program} {Q : Ending → World → Prop} {ρ : Lv} {w : World} {b off : Nat} {ty : TypeId} {l : List Value}

theorem s_ret {v : Value} (h : Q (.returned v) w) : (T.ret v).sem P Q ρ w := h
theorem s_ite {c : Bool} {x y : T} (h1 : c = true → x.sem P Q ρ w) (h2 : c = false → y.sem P Q ρ w) : (T.ite c x y).sem P Q ρ w := ⟨h1, h2⟩
theorem s_true {c : Bool} {x y : T} (h : c = true) (h1 : x.sem P Q ρ w) : (T.ite c x y).sem P Q ρ w := ⟨fun _ => h1, fun h' => (by rw [h] at h'; cases h')⟩
theorem s_false {c : Bool} {x y : T} (h : c = false) (h1 : y.sem P Q ρ w) : (T.ite c x y).sem P Q ρ w := ⟨fun h' => (by rw [h] at h'; cases h'), fun _ => h1⟩
theorem s_req {p : Prop} {x : T} (h : p) (h1 : x.sem P Q ρ w) : (T.req p x).sem P Q ρ w := ⟨h, h1⟩
theorem s_sm {k : Nat → Nat → T} (h : (k b off).sem P Q ρ w) : (T.sm (some ⟨b, off, none⟩) k).sem P Q ρ w := ⟨b, off, rfl, h⟩

theorem s_ldI (h : Cells w b ty l) {kd : IntKind} {n : Int} {k : Int → T} (hi : l[off]? = some (.int kd n)) (hk : (k n).sem P Q ρ w) : (T.ldI kd b off k).sem P Q ρ w := ⟨n, h.cell hi, hk⟩
theorem s_ldB (h : Cells w b ty l) {n : Bool} {k : Bool → T} (hi : l[off]? = some (.bool n)) (hk : (k n).sem P Q ρ w) : (T.ldB b off k).sem P Q ρ w := ⟨n, h.cell hi, hk⟩
theorem s_ldP (h : Cells w b ty l) {n : Option Addr} {k : Option Addr → T} (hi : l[off]? = some (.pointer n)) (hk : (k n).sem P Q ρ w) : (T.ldP b off k).sem P Q ρ w := ⟨n, h.cell hi, hk⟩
theorem s_ldS (h : Cells w b ty l) {o : Option Addr} {n c : Nat} {k : Option Addr → Nat → Nat → T} (hi : l[off]? = some (.slice o n c)) (hk : (k o n c).sem P Q ρ w) : (T.ldS b off k).sem P Q ρ w := ⟨o, n, c, h.cell hi, hk⟩
theorem s_ldM (h : Cells w b ty l) {n : Option Nat} {k : Option Nat → T} (hi : l[off]? = some (.map n)) (hk : (k n).sem P Q ρ w) : (T.ldM b off k).sem P Q ρ w := ⟨n, h.cell hi, hk⟩
theorem s_ldT (h : Cells w b ty l) {n : ByteArray} {k : ByteArray → T} (hi : l[off]? = some (.string n)) (hk : (k n).sem P Q ρ w) : (T.ldT b off k).sem P Q ρ w := ⟨n, h.cell hi, hk⟩
theorem s_ldV (h : Cells w b ty l) {n : Value} {k : Value → T} (hi : l[off]? = some n) (hk : (k n).sem P Q ρ w) : (T.ldV b off k).sem P Q ρ w := ⟨n, h.cell hi, hk⟩

theorem s_asI {kd : IntKind} {n : Int} {k : Int → T} (hk : (k n).sem P Q ρ w) : (T.asI kd (.int kd n) k).sem P Q ρ w := ⟨n, rfl, hk⟩
theorem s_asB {n : Bool} {k : Bool → T} (hk : (k n).sem P Q ρ w) : (T.asB (.bool n) k).sem P Q ρ w := ⟨n, rfl, hk⟩
theorem s_asP {n : Option Addr} {k : Option Addr → T} (hk : (k n).sem P Q ρ w) : (T.asP (.pointer n) k).sem P Q ρ w := ⟨n, rfl, hk⟩
theorem s_asS {o : Option Addr} {n c : Nat} {k : Option Addr → Nat → Nat → T} (hk : (k o n c).sem P Q ρ w) : (T.asS (.slice o n c) k).sem P Q ρ w := ⟨o, n, c, rfl, hk⟩
theorem s_asM {n : Option Nat} {k : Option Nat → T} (hk : (k n).sem P Q ρ w) : (T.asM (.map n) k).sem P Q ρ w := ⟨n, rfl, hk⟩
theorem s_asT {n : ByteArray} {k : ByteArray → T} (hk : (k n).sem P Q ρ w) : (T.asT (.string n) k).sem P Q ρ w := ⟨n, rfl, hk⟩
theorem s_asA {n : List Value} {k : List Value → T} (hk : (k n).sem P Q ρ w) : (T.asA (.agg ⟨n⟩) k).sem P Q ρ w := ⟨n, rfl, hk⟩
theorem s_asU {n : List Value} {k : List Value → T} (hk : (k n).sem P Q ρ w) : (T.asU (.tuple ⟨n⟩) k).sem P Q ρ w := ⟨n, rfl, hk⟩
theorem s_asC {g : Nat} {n : List Value} {k : List Value → T} (hk : (k n).sem P Q ρ w) : (T.asC g (.func (.func g) #[] ⟨n⟩) k).sem P Q ρ w := ⟨n, rfl, hk⟩

theorem s_st (h : Cells w b ty l) {v : Value} {x : T} (hi : off < l.length) (hv : v.oneCell' = true) (hk : ∀ w', w'.heap.size = w.heap.size → Fr [b] w w' → Cells w' b ty (l.set off v) → x.sem P Q ρ w') : (T.st b off v x).sem P Q ρ w := by
  refine ⟨⟨_, h.cell (List.getElem?_eq_getElem hi)⟩, h.frozen off, hv, hk _ (by simp [World.setCell]) (Fr.set (List.mem_cons_self ..)) (h.set off v)⟩

theorem s_new {cs : Array Value} {k : Nat → T} (hk : ∀ r w', r = w.heap.size → w'.heap.size = r + 1 → Fr [] w w' → Cells w' r ty cs.toList → (k r).sem P Q ρ w') : (T.new (.cells cs ty) k).sem P Q ρ w :=
  hk w.heap.size _ rfl (by simp) (Fr.push _) (by unfold Cells; simp)

theorem s_newMap {k : Nat → T} (hk : ∀ r w', r = w.heap.size → w'.heap.size = r + 1 → Fr [] w w' → w'.heap[r]? = some (.map #[] 0) → (k r).sem P Q ρ w') : (T.new (.map #[] 0) k).sem P Q ρ w :=
  hk w.heap.size _ rfl (by simp) (Fr.push _) (by simp)

theorem s_call {f : FuncId} {args : List Value} {k : Value → T} {R : Ending → World → Prop} (h : Calls P f ⟨args⟩ w R) (hk : ∀ e w', R e w' → ∃ v, e = .returned v ∧ (k v).sem P Q ρ w') : (T.call f args k).sem P Q ρ w :=
  h.mono hk

theorem s_call2 {f : FuncId} {args : List Value} {k kp : Value → T} {R : Ending → World → Prop} (h : Calls P f ⟨args⟩ w R) (hk : ∀ e w', R e w' → ∃ v, e = .returned v ∧ (k v).sem P Q ρ w') : (T.call2 f args k kp).sem P Q ρ w :=
  h.mono fun e w' hr => .inl (hk e w' hr)

theorem s_drew {x : T} (h : ∀ w', w'.heap = w.heap → Fr [] w w' → x.sem P Q ρ w') : (T.drew x).sem P Q ρ w := h _ rfl (Fr.drew w)
theorem s_both {x y : T} (h1 : x.sem P Q ρ w) (h2 : y.sem P Q ρ w) : (T.both x y).sem P Q ρ w := ⟨h1, h2⟩
theorem s_chk {c : List (Addr × Value)} {x : T} (h : AllCells w c) (h1 : x.sem P Q ρ w) : (T.chk c x).sem P Q ρ w := ⟨h, h1⟩
theorem c_nil : AllCells w [] := trivial
theorem c_cons (h : Cells w b ty l) {v : Value} {r : List (Addr × Value)} (hi : l[off]? = some v) (hr : AllCells w r) : AllCells w ((⟨b, off, none⟩, v) :: r) := ⟨h.cell hi, hr⟩

theorem s_loop {lv : Nat} {vs : List Value} {body : List Value → (Nat → Value) → T} (I : List Value → World → Prop) (μ : List Value → World → Nat) (h0 : I vs w)
    (h : ∀ vs' j w', I vs' w' → (body vs' j).sem P Q (fun l' x w'' => if l' = lv then I x w'' ∧ μ x w'' < μ vs' w' else ρ l' x w'') w') : (T.loop lv vs body).sem P Q ρ w := ⟨I, μ, h0, h⟩
theorem s_blk {lv : Nat} {after : List Value → (Nat → Value) → T} {body : T} (J : List Value → World → Prop) (h0 : ∀ vs j w', J vs w' → (after vs j).sem P Q ρ w')
    (h : body.sem P Q (fun l' x w'' => if l' = lv then J x w'' else ρ l' x w'') w) : (T.blk lv after body).sem P Q ρ w := ⟨J, h0, h⟩
theorem s_loadI {kd : IntKind} {n : Int} {k : Int → T} (h : w.cell? ⟨b, off, none⟩ = some (.int kd n)) (hk : (k n).sem P Q ρ w) : (T.ldI kd b off k).sem P Q ρ w := ⟨n, h, hk⟩
theorem s_loadB {n : Bool} {k : Bool → T} (h : w.cell? ⟨b, off, none⟩ = some (.bool n)) (hk : (k n).sem P Q ρ w) : (T.ldB b off k).sem P Q ρ w := ⟨n, h, hk⟩
theorem s_loadP {n : Option Addr} {k : Option Addr → T} (h : w.cell? ⟨b, off, none⟩ = some (.pointer n)) (hk : (k n).sem P Q ρ w) : (T.ldP b off k).sem P Q ρ w := ⟨n, h, hk⟩
theorem s_loadS {o : Option Addr} {n c : Nat} {k : Option Addr → Nat → Nat → T} (h : w.cell? ⟨b, off, none⟩ = some (.slice o n c)) (hk : (k o n c).sem P Q ρ w) : (T.ldS b off k).sem P Q ρ w := ⟨o, n, c, h, hk⟩
theorem s_loadV {n : Value} {k : Value → T} (h : w.cell? ⟨b, off, none⟩ = some n) (hk : (k n).sem P Q ρ w) : (T.ldV b off k).sem P Q ρ w := ⟨n, h, hk⟩

theorem s_run {s : Sem Value} {k : Value → T} {v : Value} {w' : World} (h : s.run P w = .ok v w') (hk : (k v).sem P Q ρ w') : (T.run s k).sem P Q ρ w := ⟨v, w', h, hk⟩

theorem s_next {lv : Nat} {vs : List Value} {ok : Prop} (h : ok) (h1 : ρ lv vs w) : (T.next lv vs ok).sem P Q ρ w := ⟨h, h1⟩
end

/-! ### Slices of a call's own -/

abbrev Own (w : World) (e : TypeId) (sz : Nat) (v : Value) (n : Nat) (xs : List Value) : Prop := w.ownsRow 0 e sz v n xs

def Reads (w : World) (a : Addr) (l : List Value) : Prop := ∀ j u, l[j]? = some u → w.cell? (a.add j) = some u

structure Elem (P : Program) (t e : TypeId) (z : Value) (sz bytes : Nat) : Prop where
  under : P.underlying t = some (.slice e)
  info : (P.info? e).map (fun i => (i.zero, i.size, i.bytes)) = some (some z, sz, bytes)
  zs : z.cells.size = sz
  pos : 0 < sz

section
variable {P : Program} {Q : Ending → World → Prop} {ρ : Lv} {w w' : World} {e t : TypeId} {z : Value} {sz bytes n : Nat} {v : Value} {xs : List Value} {F : List Nat}

theorem Fr.of_grown {row : Option Nat} (h : w.grownBy w' row) : Fr row.toList w w' :=
  ⟨h.os, h.tape, h.output, h.size, fun k hk hf => h.block k hk (fun he => hf (by rw [← he]; simp))⟩

theorem Own.fr (h : Own w e sz v n xs) (hf : Fr F w w') (hne : ∀ k, v.ownBlock = some k → k ∉ F) : Own w' e sz v n xs := by
  refine ⟨h.1, ?_⟩
  rcases h.2 with hn | ⟨g, cap, cur, rfl, hb, hg, rest⟩
  · exact .inl hn
  · refine .inr ⟨g, cap, cur, rfl, hb, ?_, rest⟩
    rw [hf.block g (Array.getElem?_eq_some_iff.1 hg).1 (hne g rfl)]
    exact hg

theorem Own.nil (w : World) (e : TypeId) (sz : Nat) : Own w e sz (.slice none 0 0) 0 [] := World.ownsRow_nil w 0 e sz

theorem Own.len (h : Own w e sz v n xs) : xs.length = n * sz := h.1

theorem Own.shape (h : Own w e sz v n xs) : (v = .slice none 0 0 ∧ n = 0) ∨ ∃ g cap, v = .slice (some ⟨g, 0, none⟩) n cap ∧ g < w.heap.size ∧ n ≤ cap ∧ Reads w ⟨g, 0, none⟩ xs := by
  rcases h.2 with hn | ⟨g, cap, cur, rfl, hb, hg, h1, h2, h3, h4⟩
  · exact .inl hn
  · exact .inr ⟨g, cap, rfl, (Array.getElem?_eq_some_iff.1 hg).1, h1, h.cells rfl⟩

theorem Own.slice (h : Own w e sz v n xs) : ∃ o c, v = .slice o n c := by
  rcases h.shape with ⟨rfl, rfl⟩ | ⟨g, cap, rfl, _⟩
  · exact ⟨_, _, rfl⟩
  · exact ⟨_, _, rfl⟩

/-- Reading a cell of an owned slice, of which there is one. -/
theorem Own.at {o : Option Addr} {c : Nat} (h : Own w e sz (.slice o n c) n xs) {j : Nat} {u : Value} (hj : xs[j]? = some u) : ∃ g, o = some ⟨g, 0, none⟩ ∧ g < w.heap.size ∧ ∀ (j : Nat) (u : Value), xs[j]? = some u → w.cell? ⟨g, j, none⟩ = some u := by
  rcases h.shape with ⟨hv, hn⟩ | ⟨g, cap, hv, hlt, _, hr⟩
  · have := h.len
    rw [hn] at this
    have h0 : xs = [] := List.eq_nil_of_length_eq_zero (by simpa using this)
    rw [h0] at hj
    simp at hj
  · cases hv
    exact ⟨g, rfl, hlt, fun j u hu => by have := hr j u hu; rwa [add_plain, Nat.zero_add] at this⟩

theorem Cells.reads {b : Nat} {ty : TypeId} {l : List Value} (h : Cells w b ty l) : Reads w ⟨b, 0, none⟩ l := fun j u hu => by
  rw [add_plain, Nat.zero_add]; exact h.cell hu

theorem Reads.fr {a : Addr} {l : List Value} (h : Reads w a l) (hf : Fr F w w') (hlt : a.block < w.heap.size) (hne : a.block ∉ F) : Reads w' a l := fun j u hu => by
  have h1 := h j u hu
  have hb : (a.add j).block = a.block := by unfold Addr.add; split <;> rfl
  rw [World.cell?_of_block (w := w) (by rw [hb]; exact hf.block _ hlt hne)]
  exact h1

/-- append onto an owned slice. -/
theorem s_app {ty : TypeId} {k : Value → T} (E : Elem P t e z sz bytes) (hown : Own w e sz v n xs) {a : Addr} {m c : Nat} {news : List Value} (hl : news.length = m * sz) (hnews : Reads w a news) (h1 : ∀ u ∈ news, u.oneCell' = true)
    (hbytes : (n + m) * bytes ≤ 140737488355328) (hmax : n + m ≤ 140737488355328)
    (hk : ∀ v' w', Own w' e sz v' (n + m) (xs ++ news) → Fr v.ownBlock.toList w w' → (v'.ownBlock = v.ownBlock ∨ v'.ownBlock = some w.heap.size) → (v' = .slice none 0 0 ↔ v = .slice none 0 0 ∧ m = 0) → (k v').sem P Q ρ w') :
    (T.run (biV .append #[t, t] ty #[v, .slice (some a) m c]) k).sem P Q ρ w := by
  have hinfo := E.info
  cases hi : P.info? e with
  | none => rw [hi] at hinfo; simp at hinfo
  | some i =>
    rw [hi] at hinfo
    simp only [Option.map_some, Option.some.injEq, Prod.mk.injEq] at hinfo
    obtain ⟨hz, hs, hb⟩ := hinfo
    obtain ⟨v', w', hr, h2, h3, h4, h5⟩ := run_append_own_at (P := P) w 0 t ty e i z sz bytes E.under hi hz hs hb E.zs E.pos v n xs hown a m c news hl hnews h1 (by simp only [maxLen]; omega) hbytes (Nat.zero_le _)
    exact ⟨v', w', hr, hk v' w' h2 (Fr.of_grown h3) h5 h4⟩

/-- append of a nil slice. -/
theorem s_appNil {ty : TypeId} {q : Nat} {k : Value → T} (E : Elem P t e z sz bytes) (hown : Own w e sz v n xs) (hk : (k v).sem P Q ρ w) :
    (T.run (biV .append #[t, t] ty #[v, .slice none 0 q]) k).sem P Q ρ w := by
  have hinfo := E.info
  cases hi : P.info? e with
  | none => rw [hi] at hinfo; simp at hinfo
  | some i =>
    refine ⟨v, w, ?_, hk⟩
    have hnc : ∃ o c, v = .slice o n c ∧ n ≤ c := by
      rcases hown.shape with ⟨rfl, rfl⟩ | ⟨g, cap, rfl, _, h1, _⟩
      · exact ⟨_, _, rfl, Nat.le_refl _⟩
      · exact ⟨_, _, rfl, h1⟩
    obtain ⟨o, c, rfl, hc⟩ := hnc
    simp only [biV, Builtin.append_]
    simp [under_run E.under, sizeOf, typeInfo, hi, Builtin.lenOf, hc, Builtin.firstCells, storeCells]
    cases o <;> simp [storeCells]

theorem s_make {kl kc : IntKind} {m : Int} {k : Value → T} (E : Elem P t e z sz bytes) (h0 : 0 ≤ m) (hbytes : bytes * m.toNat ≤ 281474976710656) (hmax : m.toNat ≤ 140737488355328)
    (hk : ∀ r w', r = w.heap.size → w'.heap.size = r + 1 → Fr [] w w' → Cells w' r e (madeCells z.cells (m.toNat * sz)).toList → (k (.slice (some ⟨r, 0, none⟩) m.toNat m.toNat)).sem P Q ρ w') :
    (T.run (Instr.makeSlice t (.int kl m) (.int kc m)) k).sem P Q ρ w := by
  have hinfo := E.info
  cases hi : P.info? e with
  | none => rw [hi] at hinfo; simp at hinfo
  | some i =>
    rw [hi] at hinfo
    simp only [Option.map_some, Option.some.injEq, Prod.mk.injEq] at hinfo
    obtain ⟨hz, hs, hb⟩ := hinfo
    obtain ⟨m', rfl⟩ := Int.eq_ofNat_of_zero_le h0
    simp only [Int.toNat_natCast] at hbytes hmax hk
    have hb3 : (bytes : Int) * (m' : Int) ≤ 281474976710656 := by
      have h : ((bytes * m' : Nat) : Int) ≤ 281474976710656 := by omega
      rwa [Int.natCast_mul] at h
    have hr := run_make (P := P) w t e i z E.under hi hz kl kc m' m' h0 (Int.le_refl _) (by rw [hb]; exact hb3) (by omega)
    rw [hs] at hr
    simp only [Int.toNat_natCast] at hr
    exact ⟨_, _, hr, hk w.heap.size _ rfl (by simp) (Fr.push _) (World.alloc_heap_new w _)⟩

theorem made_one (z : Value) (n : Nat) (hz : z.cells = #[z]) : (madeCells z.cells (n * 1)).toList = List.replicate n z := by
  rw [hz, Nat.mul_one]
  apply List.ext_getElem
  · simp [madeCells]
  · intro i h1 h2
    simp [madeCells, Nat.mod_one]
end
end Go.Proofs.YtihipcofjpnfbaaGreatDoor.Tr
