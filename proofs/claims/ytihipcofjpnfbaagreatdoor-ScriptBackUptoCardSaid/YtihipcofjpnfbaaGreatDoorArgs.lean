/- Arguments handed in: what their reading says of the cells. -/
import Derived.Test.YtihipcofjpnfbaaGreatDoorMem
import Derived.ChangeArms
import Derived.OpenShut
import Derived.Deep.Slices
namespace Go.Proofs.YtihipcofjpnfbaaGreatDoor.Tr
open Go
set_option linter.unusedSimpArgs false
set_option linter.unusedVariables false
open Go.RowKit

inductive Leaf where
  | int (k : IntKind)
  | bool
  | str

def Leaf.ok : Leaf → Value → Prop
  | .int k, v => ∃ n, v = .int k n ∧ (Lit.int k n).wf = true
  | .bool, v => ∃ b, v = .bool b
  | .str, v => ∃ s, v = .string s ∧ s.size ≤ maxLen

def Fits : List Leaf → List Value → Prop
  | [], [] => True
  | l :: ls, v :: vs => l.ok v ∧ Fits ls vs
  | _, _ => False

theorem Fits.len : ∀ {ls : List Leaf} {vs : List Value}, Fits ls vs → vs.length = ls.length
  | [], [], _ => rfl
  | _ :: _, _ :: _, h => by simp [Fits.len h.2]
  | [], _ :: _, h => h.elim
  | _ :: _, [], h => h.elim
theorem Fits.append : ∀ {ls ls' : List Leaf} {vs vs' : List Value}, Fits ls vs → Fits ls' vs' → Fits (ls ++ ls') (vs ++ vs')
  | [], _, [], _, _, h => h
  | _ :: _, _, _ :: _, _, h, h' => ⟨h.1, Fits.append h.2 h'⟩
  | [], _, _ :: _, _, h, _ => h.elim
  | _ :: _, _, [], _, h, _ => h.elim

theorem Fits.nil {vs : List Value} (h : Fits [] vs) : vs = [] := by
  cases vs with
  | nil => rfl
  | cons => exact h.elim
theorem Fits.cons {l : Leaf} {ls : List Leaf} {vs : List Value} (h : Fits (l :: ls) vs) : ∃ v r, vs = v :: r ∧ l.ok v ∧ Fits ls r := by
  cases vs with
  | nil => exact h.elim
  | cons v r => exact ⟨v, r, rfl, h.1, h.2⟩
theorem Fits.int {k : IntKind} {ls : List Leaf} {vs : List Value} (h : Fits (.int k :: ls) vs) : ∃ n r, vs = .int k n :: r ∧ (Lit.int k n).wf = true ∧ Fits ls r := by
  obtain ⟨v, r, rfl, ⟨n, rfl, hw⟩, h'⟩ := h.cons
  exact ⟨n, r, rfl, hw, h'⟩
theorem Fits.bool {ls : List Leaf} {vs : List Value} (h : Fits (.bool :: ls) vs) : ∃ b r, vs = .bool b :: r ∧ Fits ls r := by
  obtain ⟨v, r, rfl, ⟨n, rfl⟩, h'⟩ := h.cons
  exact ⟨n, r, rfl, h'⟩
theorem Fits.str {ls : List Leaf} {vs : List Value} (h : Fits (.str :: ls) vs) : ∃ s r, vs = .string s :: r ∧ s.size ≤ maxLen ∧ Fits ls r := by
  obtain ⟨v, r, rfl, ⟨n, rfl, hw⟩, h'⟩ := h.cons
  exact ⟨n, r, rfl, hw, h'⟩

def fieldsOf (P : Program) (f : TypeId → Option (List Leaf)) : List Field → Nat → Nat → Option (List Leaf)
  | [], off, size => if off = size then some [] else none
  | x :: r, off, size =>
    match f x.type with
    | some l => if x.offset = off ∧ P.cellsOf x.type = l.length then (fieldsOf P f r (off + l.length) size).map (l ++ ·) else none
    | none => none

def leaves (P : Program) : Nat → TypeId → Option (List Leaf)
  | 0, _ => none
  | n + 1, t =>
    match P.underlying t with
    | some (.int k) => some [.int k]
    | some .bool => some [.bool]
    | some .string => some [.str]
    | some (.struct fs) => fieldsOf P (leaves P n) fs.toList 0 (P.cellsOf t)
    | some (.array m e) =>
      match leaves P n e with
      | some l => if P.cellsOf e = l.length ∧ P.cellsOf t = m * l.length then some (List.replicate m l).flatten else none
      | none => none
    | _ => none

section
variable {H : Type} {enc : TypeId × Value → H} {P : Program} {w : World} {base : Nat} {spare : Nat → Bool} {held : Bool}

theorem fields_ok {f : TypeId → Option (List Leaf)} {cs : List Value} (size : Nat) (hsz : cs.length = size) : ∀ (fs : List Field) (off : Nat) (ls : List Leaf), fieldsOf P f fs off size = some ls →
    (∀ x ∈ fs, ∀ l, f x.type = some l → Fits l ((cs.drop x.offset).take (P.cellsOf x.type))) → Fits ls (cs.drop off)
  | [], off, ls, h, _ => by
    simp only [fieldsOf] at h
    split at h
    · rename_i ho
      cases h
      rw [List.drop_eq_nil_of_le (by omega)]
      exact trivial
    · cases h
  | x :: r, off, ls, h, hf => by
    simp only [fieldsOf] at h
    split at h
    · rename_i l hl
      split at h
      · rename_i ho
        obtain ⟨hoff, hcl⟩ := ho
        cases hr : fieldsOf P f r (off + l.length) size with
        | none => rw [hr] at h; cases h
        | some ls' =>
          rw [hr] at h
          cases h
          have h1 := hf x (by simp) l hl
          have h2 := fields_ok size hsz r (off + l.length) ls' hr (fun y hy => hf y (by simp [hy]))
          rw [hoff, hcl] at h1
          have := h1.append h2
          rwa [← List.drop_drop, List.take_append_drop] at this
      · cases h
    · cases h

theorem reps_ok {l : List Leaf} : ∀ (m : Nat) (cs : List Value), cs.length = m * l.length → (∀ i, i < m → Fits l ((cs.drop (i * l.length)).take l.length)) → Fits (List.replicate m l).flatten cs
  | 0, cs, h, _ => by
    have : cs = [] := List.eq_nil_of_length_eq_zero (by simpa using h)
    subst this
    exact trivial
  | m + 1, cs, h, hf => by
    have h1 := hf 0 (by omega)
    simp only [Nat.zero_mul, List.drop_zero] at h1
    have h2 := reps_ok (l := l) m (cs.drop l.length) (by rw [List.length_drop, h, Nat.succ_mul]; omega) (fun i hi => by
      have := hf (i + 1) (by omega)
      rw [List.drop_drop]
      rwa [Nat.succ_mul, Nat.add_comm] at this)
    have := h1.append h2
    rw [List.take_append_drop] at this
    simpa [List.replicate_succ] using this

theorem leaves_ok : ∀ (n : Nat) (t : TypeId) (ls : List Leaf) (fuel : Nat) (cs : List Value) (x : DataW H × List MemPlace), leaves P n t = some ls → DataW.trod enc P w base spare held fuel t cs = some x → Fits ls cs
  | 0, _, _, _, _, _, h, _ => by cases h
  | n + 1, t, ls, fuel, cs, x, h, hx => by
    unfold leaves at h
    split at h
    · rename_i k ht
      cases h
      obtain ⟨m, rfl, _, hw⟩ := DataW.trod_int ht hx
      exact ⟨⟨m, rfl, hw⟩, trivial⟩
    · rename_i ht
      cases h
      obtain ⟨b, rfl, _⟩ := DataW.trod_bool ht hx
      exact ⟨⟨b, rfl⟩, trivial⟩
    · rename_i ht
      cases h
      obtain ⟨s, rfl, _, hs⟩ := DataW.trod_string ht hx
      exact ⟨⟨s, rfl, hs⟩, trivial⟩
    · rename_i fs ht
      obtain ⟨xs, m, _, _, hl, hlen, hf⟩ := DataW.trod_struct ht hx
      have := fields_ok (P := P) (f := leaves P n) (cs := cs) (P.cellsOf t) hl fs.toList 0 ls h (fun y hy l hyl => by
        obtain ⟨i, hi, he⟩ := List.getElem_of_mem hy
        have h1 := hf i y (by rw [← he]; simp [Array.getElem?_eq_getElem (by simpa using hi)])
        have hi' : i < xs.length := by rw [hlen]; simpa using hi
        rw [List.getElem?_eq_getElem hi'] at h1
        exact leaves_ok n y.type l m _ _ hyl h1)
      simpa using this
    · rename_i m e ht
      split at h
      · rename_i l hl
        split at h
        · rename_i hc
          cases h
          obtain ⟨xs, q, _, _, hlen, hxl, hf⟩ := DataW.trod_array ht hx
          refine reps_ok m cs (by rw [hlen, hc.2]) (fun i hi => ?_)
          have h1 := hf i hi
          rw [List.getElem?_eq_getElem (by omega)] at h1
          rw [hc.1] at h1
          exact leaves_ok n e l q _ _ hl h1
        · cases h
      · cases h
    · cases h

/-- A slice of rows of sz cells each. -/
def RowsAt (w : World) (o : Option Addr) (sz : Nat) (rows : List (List Value)) : Prop :=
  rows = [] ∨ ∃ g off, o = some ⟨g, off, none⟩ ∧ g < w.heap.size ∧ ∀ j r, rows[j]? = some r → ∀ k v, r[k]? = some v → w.cell? ⟨g, off + j * sz + k, none⟩ = some v

theorem RowsAt.fr {w' : World} {o : Option Addr} {sz : Nat} {rows : List (List Value)} (h : RowsAt w o sz rows) (hf : Fr [] w w') : RowsAt w' o sz rows := by
  rcases h with h | ⟨g, off, rfl, hg, h⟩
  · exact .inl h
  · refine .inr ⟨g, off, rfl, Nat.lt_of_lt_of_le hg hf.size, fun j r hr k v hv => ?_⟩
    rw [World.cell?_of_block (w := w) (hf.block g hg (by simp))]
    exact h j r hr k v hv

/-- The cells of row j. -/
theorem RowsAt.at {o : Option Addr} {sz : Nat} {rows : List (List Value)} (h : RowsAt w o sz rows) {j : Nat} {r : List Value} (hj : rows[j]? = some r) :
    ∃ g off, o = some ⟨g, off, none⟩ ∧ g < w.heap.size ∧ ∀ k v, r[k]? = some v → w.cell? ⟨g, off + j * sz + k, none⟩ = some v := by
  rcases h with rfl | ⟨g, off, rfl, hg, h⟩
  · simp at hj
  · exact ⟨g, off, rfl, hg, h j r hj⟩

theorem open_rows {t e : TypeId} {ls : List Leaf} {n fuel : Nat} {cs : List Value} {x : DataW H × List MemPlace} (ht : P.underlying t = some (.slice e)) (hl : leaves P n e = some ls) (hc : P.cellsOf e = ls.length)
    (h : DataW.trod enc P w base spare held fuel t cs = some x) (hpos : 0 < ls.length) :
    ∃ (o : Option Addr) (len cap : Nat) (rows : List (List Value)), cs = [.slice o len cap] ∧ rows.length = len ∧ len ≤ maxLen ∧ (∀ r ∈ rows, Fits ls r) ∧ RowsAt w o ls.length rows := by
  rcases Go.Deep.open_slice ht h with ⟨rfl, _⟩ | ⟨a, len, cap, m, q, D, Pl, rfl, hb, hle, hm, hmm, _, hel⟩
  · exact ⟨none, 0, 0, [], rfl, rfl, by simp [maxLen], by simp, .inl rfl⟩
  · have hlm : len ≤ m := by rw [hmm]; split <;> omega
    have hex : ∀ i, i < len → ∃ cs', Fits ls cs' ∧ ∀ k, k < ls.length → w.cell? ((a.add (i * ls.length)).add k) = cs'[k]? := fun i hi => by
      obtain ⟨cs', h1, h2⟩ := hel i (by omega)
      obtain ⟨_, _, h3⟩ := World.cells?_some h1
      rw [hc] at h3
      exact ⟨cs', leaves_ok n e ls q _ _ hl h2, h3⟩
    refine ⟨some a, len, cap, (List.range len).map (fun i => if hi : i < len then (hex i hi).choose else []), rfl, by simp, by omega, ?_, ?_⟩
    · intro r hr
      obtain ⟨i, hi, rfl⟩ := List.mem_map.1 hr
      have hi' : i < len := by simpa using hi
      rw [dif_pos hi']
      exact (hex i hi').choose_spec.1
    · rcases Nat.eq_zero_or_pos len with h0 | h0
      · subst h0; exact .inl (by simp)
      · have hget : ∀ j (r : List Value), ((List.range len).map (fun i => if hi : i < len then (hex i hi).choose else []))[j]? = some r → j < len ∧ Fits ls r ∧ ∀ k, k < ls.length → w.cell? ((a.add (j * ls.length)).add k) = r[k]? := fun j r hr => by
          obtain ⟨hj, he⟩ := List.getElem?_eq_some_iff.1 hr
          have hj' : j < len := by simpa using hj
          simp only [List.getElem_map, List.getElem_range, dif_pos hj'] at he
          subst he
          exact ⟨hj', (hex j hj').choose_spec⟩
        obtain ⟨r0, hr0⟩ : ∃ r0, ((List.range len).map (fun i => if hi : i < len then (hex i hi).choose else []))[0]? = some r0 := ⟨_, List.getElem?_eq_getElem (by simpa using h0)⟩
        obtain ⟨_, hfit0, hcell0⟩ := hget 0 r0 hr0
        have hl0 := hfit0.len
        have hc0 := hcell0 0 hpos
        rw [List.getElem?_eq_getElem (by omega)] at hc0
        obtain ⟨g, off, sp⟩ := a
        have hsp : sp = none := by
          cases sp with
          | none => rfl
          | some z =>
            simp only [Nat.zero_mul, Addr.add, if_true, World.cell?] at hc0
            split at hc0 <;> simp at hc0
        subst hsp
        refine .inr ⟨g, off, rfl, ?_, fun j r hr k v hv => ?_⟩
        · have : (⟨g, off, none⟩ : Addr).block < w.heap.size := World.cells?_block (w := w) (base := 0) (n := 1) (a := ⟨g, off, none⟩) (cs := [r0[0]]) (ChangeShapes.cells?_one (by simp) (by simpa [Addr.add] using hc0)) (by omega)
          exact this
        · obtain ⟨hj, hfit, hcell⟩ := hget j r hr
          have hk : k < ls.length := by rw [← hfit.len]; exact (List.getElem?_eq_some_iff.1 hv).1
          rw [← hv, ← hcell k hk, add_plain, add_plain]
end

end Go.Proofs.YtihipcofjpnfbaaGreatDoor.Tr
namespace Go.Proofs.YtihipcofjpnfbaaGreatDoor.Tr
open Go
open Go.RowKit
/-- A slice's datum has as many elements as the slice. -/
theorem slice_len {H : Type} {enc : TypeId × Value → H} {P : Program} {w : World} {base : Nat} {spare : Nat → Bool} {held : Bool} {t e : TypeId} {fuel : Nat} {o : Option Addr} {len cap : Nat} {x : DataW H × List MemPlace} (ht : P.underlying t = some (.slice e))
    (h : DataW.trod enc P w base spare held fuel t [.slice o len cap] = some x) : len = 0 ∨ ∃ el sp, x.1 = .slice el sp ∧ el.length = len := by
  rcases Go.Deep.open_slice ht h with ⟨hcs, _⟩ | ⟨a, len', cap', m, q, D, Pl, hcs, hb, hle, hm, hmm, hx, hel⟩
  · simp only [List.cons.injEq, Value.slice.injEq, and_true] at hcs
    exact .inl hcs.2.1
  · simp only [List.cons.injEq, Value.slice.injEq, and_true] at hcs
    refine .inr ⟨_, _, by rw [hx], ?_⟩
    rw [List.length_map, List.length_range]
    exact hcs.2.1.symm
end Go.Proofs.YtihipcofjpnfbaaGreatDoor.Tr
namespace Go.Proofs.YtihipcofjpnfbaaGreatDoor.Tr
open Go
theorem okWide_arr {P : Program} {w : World} {r : Reach} {base : Nat} {t e : TypeId} {n : Nat} {v : Value} (ht : P.underlying t = some (.array n e)) (h : Value.okWide P w r base t v) : ∃ cs, v = .agg cs := by
  simp only [Value.okWide, ht] at h
  obtain ⟨cs, h1, _⟩ := h
  exact ⟨cs, h1⟩
end Go.Proofs.YtihipcofjpnfbaaGreatDoor.Tr
