/- Arguments handed in that hold slices: what their reading says of the cells. -/
import Derived.Test.YtihipcofjpnfbaaGreatDoorArgs
import Derived.SizedLaws
namespace Go.Proofs.YtihipcofjpnfbaaGreatDoor.Tr
open Go
set_option linter.unusedSimpArgs false
set_option linter.unusedVariables false
open Go.RowKit

/-- A leaf: a number, a truth, a string; or a slice of rows of leaves, so many bytes each. -/
inductive DLeaf where
  | flat (l : Leaf)
  | lst (ls : List DLeaf) (bytes : Nat)

mutual
def DLeaf.ok (w : World) : DLeaf → Value → Prop
  | .flat l, v => l.ok v
  | .lst ls b, v => ∃ o len cap rows, v = .slice o len cap ∧ rows.length = len ∧ len ≤ cap ∧ len * b ≤ reachBytes ∧ RowsAt w o ls.length rows ∧ ∀ r ∈ rows, FitsD w ls r
def FitsD (w : World) : List DLeaf → List Value → Prop
  | [], [] => True
  | l :: ls, v :: vs => DLeaf.ok w l v ∧ FitsD w ls vs
  | _, _ => False
end

section
variable {w : World}
theorem FitsD.len : ∀ {ls : List DLeaf} {vs : List Value}, FitsD w ls vs → vs.length = ls.length
  | [], [], _ => rfl
  | _ :: _, _ :: _, h => by simp only [FitsD] at h; simp [FitsD.len h.2]
  | [], _ :: _, h => by simp [FitsD] at h
  | _ :: _, [], h => by simp [FitsD] at h
theorem FitsD.append : ∀ {ls ls' : List DLeaf} {vs vs' : List Value}, FitsD w ls vs → FitsD w ls' vs' → FitsD w (ls ++ ls') (vs ++ vs')
  | [], _, [], _, _, h => h
  | _ :: _, _, _ :: _, _, h, h' => by simp only [FitsD, List.cons_append] at h ⊢; exact ⟨h.1, FitsD.append h.2 h'⟩
  | [], _, _ :: _, _, h, _ => by simp [FitsD] at h
  | _ :: _, _, [], _, h, _ => by simp [FitsD] at h
theorem FitsD.one {l : DLeaf} {v : Value} (h : DLeaf.ok w l v) : FitsD w [l] [v] := by simp only [FitsD]; exact ⟨h, trivial⟩

theorem FitsD.nil {vs : List Value} (h : FitsD w [] vs) : vs = [] := by
  cases vs with
  | nil => rfl
  | cons => simp [FitsD] at h
theorem FitsD.cons {l : DLeaf} {ls : List DLeaf} {vs : List Value} (h : FitsD w (l :: ls) vs) : ∃ v r, vs = v :: r ∧ DLeaf.ok w l v ∧ FitsD w ls r := by
  cases vs with
  | nil => simp [FitsD] at h
  | cons v r => simp only [FitsD] at h; exact ⟨v, r, rfl, h.1, h.2⟩
theorem FitsD.int {k : IntKind} {ls : List DLeaf} {vs : List Value} (h : FitsD w (.flat (.int k) :: ls) vs) : ∃ n r, vs = .int k n :: r ∧ (Lit.int k n).wf = true ∧ FitsD w ls r := by
  obtain ⟨v, r, rfl, hv, h'⟩ := h.cons
  simp only [DLeaf.ok] at hv
  obtain ⟨n, rfl, hw⟩ := hv
  exact ⟨n, r, rfl, hw, h'⟩
theorem FitsD.bool {ls : List DLeaf} {vs : List Value} (h : FitsD w (.flat .bool :: ls) vs) : ∃ b r, vs = .bool b :: r ∧ FitsD w ls r := by
  obtain ⟨v, r, rfl, hv, h'⟩ := h.cons
  simp only [DLeaf.ok] at hv
  obtain ⟨n, rfl⟩ := hv
  exact ⟨n, r, rfl, h'⟩
theorem FitsD.str {ls : List DLeaf} {vs : List Value} (h : FitsD w (.flat .str :: ls) vs) : ∃ s r, vs = .string s :: r ∧ s.size ≤ maxLen ∧ FitsD w ls r := by
  obtain ⟨v, r, rfl, hv, h'⟩ := h.cons
  simp only [DLeaf.ok] at hv
  obtain ⟨n, rfl, hw⟩ := hv
  exact ⟨n, r, rfl, hw, h'⟩
theorem FitsD.lst {l ls : List DLeaf} {b : Nat} {vs : List Value} (h : FitsD w (.lst l b :: ls) vs) : ∃ o len cap rows r, vs = .slice o len cap :: r ∧ rows.length = len ∧ len ≤ cap ∧ len * b ≤ reachBytes ∧ RowsAt w o l.length rows ∧ (∀ r ∈ rows, FitsD w l r) ∧ FitsD w ls r := by
  obtain ⟨v, r, rfl, hv, h'⟩ := h.cons
  simp only [DLeaf.ok] at hv
  obtain ⟨o, len, cap, rows, rfl, h1, h2, h3, h4, h5⟩ := hv
  exact ⟨o, len, cap, rows, r, rfl, h1, h2, h3, h4, h5, h'⟩
/-- A leaf that is a list of flat rows, told in flat terms. -/
theorem FitsD.toFlat : ∀ {ls : List Leaf} {vs : List Value}, FitsD w (ls.map .flat) vs → Fits ls vs
  | [], [], _ => trivial
  | _ :: _, _ :: _, h => by
    simp only [List.map_cons, FitsD, DLeaf.ok] at h
    exact ⟨h.1, FitsD.toFlat h.2⟩
  | [], _ :: _, h => by simp [FitsD] at h
  | _ :: _, [], h => by simp [FitsD] at h
end

def fieldsD (P : Program) (f : TypeId → Option (List DLeaf)) : List Field → Nat → Nat → Option (List DLeaf)
  | [], off, size => if off = size then some [] else none
  | x :: r, off, size =>
    match f x.type with
    | some l => if x.offset = off ∧ P.cellsOf x.type = l.length then (fieldsD P f r (off + l.length) size).map (l ++ ·) else none
    | none => none

def leavesD (P : Program) : Nat → TypeId → Option (List DLeaf)
  | 0, _ => none
  | n + 1, t =>
    match P.underlying t with
    | some (.int k) => some [.flat (.int k)]
    | some .bool => some [.flat .bool]
    | some .string => some [.flat .str]
    | some (.struct fs) => fieldsD P (leavesD P n) fs.toList 0 (P.cellsOf t)
    | some (.array m e) =>
      match leavesD P n e with
      | some l => if P.cellsOf e = l.length ∧ P.cellsOf t = m * l.length then some (List.replicate m l).flatten else none
      | none => none
    | some (.slice e) =>
      match leavesD P n e with
      | some l => if P.cellsOf e = l.length ∧ 0 < l.length then some [.lst l (P.bytesOf e)] else none
      | none => none
    | _ => none

section
variable {H : Type} {enc : TypeId × Value → H} {P : Program} {w : World} {base : Nat} {spare : Nat → Bool} {held : Bool}

theorem fieldsD_ok {f : TypeId → Option (List DLeaf)} {cs : List Value} (size : Nat) (hsz : cs.length = size) : ∀ (fs : List Field) (off : Nat) (ls : List DLeaf), fieldsD P f fs off size = some ls →
    (∀ x ∈ fs, ∀ l, f x.type = some l → FitsD w l ((cs.drop x.offset).take (P.cellsOf x.type))) → FitsD w ls (cs.drop off)
  | [], off, ls, h, _ => by
    simp only [fieldsD] at h
    split at h
    · rename_i ho
      cases h
      rw [List.drop_eq_nil_of_le (by omega)]
      simp [FitsD]
    · cases h
  | x :: r, off, ls, h, hf => by
    simp only [fieldsD] at h
    split at h
    · rename_i l hl
      split at h
      · rename_i ho
        obtain ⟨hoff, hcl⟩ := ho
        cases hr : fieldsD P f r (off + l.length) size with
        | none => rw [hr] at h; cases h
        | some ls' =>
          rw [hr] at h
          cases h
          have h1 := hf x (by simp) l hl
          have h2 := fieldsD_ok size hsz r (off + l.length) ls' hr (fun y hy => hf y (by simp [hy]))
          rw [hoff, hcl] at h1
          have := h1.append h2
          rwa [← List.drop_drop, List.take_append_drop] at this
      · cases h
    · cases h

theorem repsD_ok {l : List DLeaf} : ∀ (m : Nat) (cs : List Value), cs.length = m * l.length → (∀ i, i < m → FitsD w l ((cs.drop (i * l.length)).take l.length)) → FitsD w (List.replicate m l).flatten cs
  | 0, cs, h, _ => by
    have : cs = [] := List.eq_nil_of_length_eq_zero (by simpa using h)
    subst this
    simp [FitsD]
  | m + 1, cs, h, hf => by
    have h1 := hf 0 (by omega)
    simp only [Nat.zero_mul, List.drop_zero] at h1
    have h2 := repsD_ok (l := l) m (cs.drop l.length) (by rw [List.length_drop, h, Nat.succ_mul]; omega) (fun i hi => by
      have := hf (i + 1) (by omega)
      rw [List.drop_drop]
      rwa [Nat.succ_mul, Nat.add_comm] at this)
    have := h1.append h2
    rw [List.take_append_drop] at this
    simpa [List.replicate_succ] using this

/-- A slice opened: its rows, each with its own reading. -/
theorem open_rowsD {t e : TypeId} {fuel : Nat} {cs : List Value} {x : DataW H × List MemPlace} (ht : P.underlying t = some (.slice e)) (hpos : 0 < P.cellsOf e)
    (h : DataW.trod enc P w base spare held fuel t cs = some x) :
    ∃ (o : Option Addr) (len cap q : Nat) (rows : List (List Value)) (el sp : List (DataW H)), cs = [.slice o len cap] ∧ rows.length = len ∧ len ≤ cap ∧ cap ≤ maxLen ∧ RowsAt w o (P.cellsOf e) rows ∧
      el.length = len ∧ (x.1 = .slice el sp ∨ len = 0 ∧ x.1 = .nil) ∧
      ∀ (j : Nat) (r : List Value), rows[j]? = some r → r.length = P.cellsOf e ∧ ∃ y, DataW.trod enc P w base spare held q e r = some y ∧ el[j]? = some y.1 := by
  rcases Go.Deep.open_slice ht h with ⟨rfl, rfl⟩ | ⟨a, len, cap, m, q, D, Pl, rfl, hb, hle, hm, hmm, hx, hel⟩
  · exact ⟨none, 0, 0, 0, [], [], [], rfl, rfl, Nat.le_refl _, Nat.zero_le _, .inl rfl, rfl, .inr ⟨rfl, rfl⟩, fun j r hr => by simp at hr⟩
  · have hlm : len ≤ m := by rw [hmm]; split <;> omega
    obtain ⟨R, hR⟩ := Go.Deep.choose_lt (n := len) (p := fun i cs' => w.cells? base (a.add (i * P.cellsOf e)) (P.cellsOf e) = some cs' ∧ DataW.trod enc P w base spare held q e cs' = some (D i, Pl i)) (fun i hi => hel i (by omega))
    have hget : ∀ j (r : List Value), ((List.range len).map R)[j]? = some r → j < len ∧ r = R j := fun j r hr => by
      obtain ⟨hj, he⟩ := List.getElem?_eq_some_iff.1 hr
      have hj' : j < len := by simpa using hj
      simp only [List.getElem_map, List.getElem_range] at he
      exact ⟨hj', he.symm⟩
    refine ⟨some a, len, cap, q, (List.range len).map R, (List.range len).map D, _, rfl, by simp, hle, hm, ?_, by simp, .inl (by rw [hx]), ?_⟩
    · rcases Nat.eq_zero_or_pos len with h0 | h0
      · subst h0; exact .inl (by simp)
      · obtain ⟨h1, _⟩ := hR 0 h0
        obtain ⟨_, hl0, hc0⟩ := World.cells?_some h1
        have hl0' : (R 0).length = P.cellsOf e := by simpa using hl0
        have hc0' := hc0 0 hpos
        rw [List.getElem?_eq_getElem (by omega)] at hc0'
        obtain ⟨g, off, sp⟩ := a
        have hsp : sp = none := by
          cases sp with
          | none => rfl
          | some z =>
            simp only [Nat.zero_mul, Addr.add, if_true, World.cell?] at hc0'
            split at hc0' <;> simp at hc0'
        subst hsp
        refine .inr ⟨g, off, rfl, ?_, fun j r hr k v hv => ?_⟩
        · have : (⟨g, off, none⟩ : Addr).block < w.heap.size := World.cells?_block (w := w) (base := 0) (n := 1) (a := ⟨g, off, none⟩) (cs := [(R 0)[0]]) (ChangeShapes.cells?_one (by simp) (by simpa [Addr.add] using hc0')) (by omega)
          exact this
        · obtain ⟨hj, rfl⟩ := hget j r hr
          obtain ⟨h2, _⟩ := hR j hj
          obtain ⟨_, hl, hc⟩ := World.cells?_some h2
          have hl' : (R j).length = P.cellsOf e := by simpa using hl
          have hk : k < P.cellsOf e := by rw [← hl']; exact (List.getElem?_eq_some_iff.1 hv).1
          rw [← hv, ← hc k hk, add_plain, add_plain]
    · intro j r hr
      obtain ⟨hj, rfl⟩ := hget j r hr
      obtain ⟨h2, h3⟩ := hR j hj
      obtain ⟨_, hl, _⟩ := World.cells?_some h2
      exact ⟨by simpa using hl, _, h3, by simp [hj]⟩

theorem weightsAll_mem {e : TypeId} {d : DataW H} : ∀ {l : List (DataW H)}, d ∈ l → ∀ n ∈ d.weights P e, n ∈ DataW.weightsAll P e l
  | a :: r, h, n, hn => by
    simp only [DataW.weightsAll, List.mem_append]
    rcases List.mem_cons.1 h with rfl | h
    · exact .inl hn
    · exact .inr (weightsAll_mem h n hn)

theorem leavesD_ok : ∀ (n : Nat) (t : TypeId) (ls : List DLeaf) (fuel : Nat) (cs : List Value) (x : DataW H × List MemPlace), leavesD P n t = some ls → DataW.trod enc P w base spare held fuel t cs = some x → (∀ k ∈ x.1.weights P t, k ≤ reachBytes) → FitsD w ls cs
  | 0, _, _, _, _, _, h, _, _ => by cases h
  | n + 1, t, ls, fuel, cs, x, h, hx, hw => by
    unfold leavesD at h
    split at h
    · rename_i k ht
      cases h
      obtain ⟨m, rfl, _, hw⟩ := DataW.trod_int ht hx
      exact FitsD.one (by simp only [DLeaf.ok]; exact ⟨m, rfl, hw⟩)
    · rename_i ht
      cases h
      obtain ⟨b, rfl, _⟩ := DataW.trod_bool ht hx
      exact FitsD.one (by simp only [DLeaf.ok]; exact ⟨b, rfl⟩)
    · rename_i ht
      cases h
      obtain ⟨s, rfl, _, hs⟩ := DataW.trod_string ht hx
      exact FitsD.one (by simp only [DLeaf.ok]; exact ⟨s, rfl, hs⟩)
    · rename_i fs ht
      obtain ⟨xs, m, _, hx1, hl, hlen, hf⟩ := DataW.trod_struct ht hx
      have := fieldsD_ok (w := w) (P := P) (f := leavesD P n) (cs := cs) (P.cellsOf t) hl fs.toList 0 ls h (fun y hy l hyl => by
        obtain ⟨i, hi, he⟩ := List.getElem_of_mem hy
        have hfi : fs[i]? = some y := by rw [← he]; simp [Array.getElem?_eq_getElem (by simpa using hi)]
        have h1 := hf i y hfi
        have hi' : i < xs.length := by rw [hlen]; simpa using hi
        rw [List.getElem?_eq_getElem hi'] at h1
        refine leavesD_ok n y.type l m _ _ hyl h1 (fun k hk => hw k ?_)
        rw [hx1]
        simp only [DataW.weights, ht]
        refine DataW.weights_mem_each (j := i) (t := y.type) (d := (xs[i]).1) ?_ ?_ k hk
        · rw [List.getElem?_map, List.getElem?_eq_getElem hi, he]; rfl
        · rw [List.getElem?_map, List.getElem?_eq_getElem hi']; rfl)
      simpa using this
    · rename_i m e ht
      split at h
      · rename_i l hl
        split at h
        · rename_i hc
          cases h
          obtain ⟨xs, q, _, hx1, hlen, hxl, hf⟩ := DataW.trod_array ht hx
          refine repsD_ok m cs (by rw [hlen, hc.2]) (fun i hi => ?_)
          have h1 := hf i hi
          rw [List.getElem?_eq_getElem (by omega)] at h1
          rw [hc.1] at h1
          refine leavesD_ok n e l q _ _ hl h1 (fun k hk => hw k ?_)
          rw [hx1]
          simp only [DataW.weights, ht]
          exact weightsAll_mem (List.mem_map_of_mem (List.getElem_mem _)) k hk
        · cases h
      · cases h
    · rename_i e ht
      split at h
      · rename_i l hl
        split at h
        · rename_i hc
          cases h
          obtain ⟨o, len, cap, q, rows, el, sp, rfl, h1, h2, h3, h4, h5, h6, h7⟩ := open_rowsD ht (by omega) hx
          refine FitsD.one ?_
          simp only [DLeaf.ok]
          refine ⟨o, len, cap, rows, rfl, h1, h2, ?_, by rw [← hc.1]; exact h4, fun r hr => ?_⟩
          · rcases h6 with h6 | ⟨h6, _⟩
            · have := hw ((el.length + sp.length) * P.bytesOf e) (by rw [h6]; simp [DataW.weights, ht])
              rw [h5] at this
              exact Nat.le_trans (Nat.mul_le_mul_right _ (by omega)) this
            · rw [h6]; simp
          · obtain ⟨j, hj, he⟩ := List.getElem_of_mem hr
            obtain ⟨hrl, y, hy, hey⟩ := h7 j r (by rw [List.getElem?_eq_getElem hj, he])
            refine leavesD_ok n e l q r y hl hy (fun k hk => hw k ?_)
            rcases h6 with h6 | ⟨h6, _⟩
            · rw [h6]
              simp only [DataW.weights, ht, List.mem_cons, List.mem_append]
              exact .inr (.inl (weightsAll_mem (List.mem_of_getElem? hey) k hk))
            · omega
        · cases h
      · cases h
    · cases h
end
end Go.Proofs.YtihipcofjpnfbaaGreatDoor.Tr

/- Arguments that hold slices, where all that is read is of bulk at most 1048576: what their reading says of the cells. -/
namespace Go.Proofs.YtihipcofjpnfbaaGreatDoor.Tr
open Go
set_option linter.unusedSimpArgs false
set_option linter.unusedVariables false
open Go.RowKit

/-- As leavesD; a list's number says that it has at most 1048576 elements. -/
def leavesU (P : Program) : Nat → TypeId → Option (List DLeaf)
  | 0, _ => none
  | n + 1, t =>
    match P.underlying t with
    | some (.int k) => some [.flat (.int k)]
    | some .bool => some [.flat .bool]
    | some .string => some [.flat .str]
    | some (.struct fs) => fieldsD P (leavesU P n) fs.toList 0 (P.cellsOf t)
    | some (.array m e) =>
      match leavesU P n e with
      | some l => if P.cellsOf e = l.length ∧ P.cellsOf t = m * l.length then some (List.replicate m l).flatten else none
      | none => none
    | some (.slice e) =>
      match leavesU P n e with
      | some l => if P.cellsOf e = l.length ∧ 0 < l.length then some [.lst l 134217727] else none
      | none => none
    | _ => none

section
variable {H : Type} {enc : TypeId × Value → H} {P : Program} {w : World} {base : Nat} {spare : Nat → Bool} {held : Bool} {B : DataW H → Nat}
  (hB1 : ∀ el sp, el.length ≤ B (.slice el sp)) (hB2 : ∀ el sp d, d ∈ el → B d ≤ B (.slice el sp)) (hB3 : ∀ parts d, d ∈ parts → B d ≤ B (.agg parts))
include hB1 hB2 hB3
theorem leavesU_ok : ∀ (n : Nat) (t : TypeId) (ls : List DLeaf) (fuel : Nat) (cs : List Value) (x : DataW H × List MemPlace), leavesU P n t = some ls → DataW.trod enc P w base spare held fuel t cs = some x → B x.1 ≤ 1048576 → FitsD w ls cs
  | 0, _, _, _, _, _, h, _, _ => by cases h
  | n + 1, t, ls, fuel, cs, x, h, hx, hw => by
    unfold leavesU at h
    split at h
    · rename_i k ht
      cases h
      obtain ⟨m, rfl, _, hw⟩ := DataW.trod_int ht hx
      exact FitsD.one (by simp only [DLeaf.ok]; exact ⟨m, rfl, hw⟩)
    · rename_i ht
      cases h
      obtain ⟨b, rfl, _⟩ := DataW.trod_bool ht hx
      exact FitsD.one (by simp only [DLeaf.ok]; exact ⟨b, rfl⟩)
    · rename_i ht
      cases h
      obtain ⟨s, rfl, _, hs⟩ := DataW.trod_string ht hx
      exact FitsD.one (by simp only [DLeaf.ok]; exact ⟨s, rfl, hs⟩)
    · rename_i fs ht
      obtain ⟨xs, m, _, hx1, hl, hlen, hf⟩ := DataW.trod_struct ht hx
      have := fieldsD_ok (w := w) (P := P) (f := leavesU P n) (cs := cs) (P.cellsOf t) hl fs.toList 0 ls h (fun y hy l hyl => by
        obtain ⟨i, hi, he⟩ := List.getElem_of_mem hy
        have hfi : fs[i]? = some y := by rw [← he]; simp [Array.getElem?_eq_getElem (by simpa using hi)]
        have h1 := hf i y hfi
        have hi' : i < xs.length := by rw [hlen]; simpa using hi
        rw [List.getElem?_eq_getElem hi'] at h1
        refine leavesU_ok n y.type l m _ _ hyl h1 (Nat.le_trans ?_ hw)
        rw [hx1]
        exact hB3 _ _ (List.mem_map_of_mem (List.getElem_mem hi')))
      simpa using this
    · rename_i m e ht
      split at h
      · rename_i l hl
        split at h
        · rename_i hc
          cases h
          obtain ⟨xs, q, _, hx1, hlen, hxl, hf⟩ := DataW.trod_array ht hx
          refine repsD_ok m cs (by rw [hlen, hc.2]) (fun i hi => ?_)
          have h1 := hf i hi
          rw [List.getElem?_eq_getElem (by omega)] at h1
          rw [hc.1] at h1
          refine leavesU_ok n e l q _ _ hl h1 (Nat.le_trans ?_ hw)
          rw [hx1]
          exact hB3 _ _ (List.mem_map_of_mem (List.getElem_mem _))
        · cases h
      · cases h
    · rename_i e ht
      split at h
      · rename_i l hl
        split at h
        · rename_i hc
          cases h
          obtain ⟨o, len, cap, q, rows, el, sp, rfl, h1, h2, h3, h4, h5, h6, h7⟩ := open_rowsD ht (by omega) hx
          refine FitsD.one ?_
          simp only [DLeaf.ok]
          refine ⟨o, len, cap, rows, rfl, h1, h2, ?_, by rw [← hc.1]; exact h4, fun r hr => ?_⟩
          · rcases h6 with h6 | ⟨h6, _⟩
            · have := hB1 el sp
              rw [← h6] at this
              simp only [reachBytes]
              omega
            · rw [h6]; simp
          · obtain ⟨j, hj, he⟩ := List.getElem_of_mem hr
            obtain ⟨hrl, y, hy, hey⟩ := h7 j r (by rw [List.getElem?_eq_getElem hj, he])
            refine leavesU_ok n e l q r y hl hy ?_
            rcases h6 with h6 | ⟨h6, _⟩
            · rw [h6] at hw
              exact Nat.le_trans (hB2 el sp _ (List.mem_of_getElem? hey)) hw
            · omega
        · cases h
      · cases h
    · cases h
end
end Go.Proofs.YtihipcofjpnfbaaGreatDoor.Tr

/- Arguments that hold slices, where all that is read is of bulk at most 1048576: a bound on all their lists together. -/
namespace Go.Proofs.YtihipcofjpnfbaaGreatDoor.Tr
open Go
set_option linter.unusedSimpArgs false
set_option linter.unusedVariables false
open Go.RowKit

mutual
def DLeaf.okN (w : World) : DLeaf → Value → Nat → Prop
  | .flat l, v, n => l.ok v ∧ 1 ≤ n
  | .lst ls b, v, n => ∃ (o : Option Addr) (len cap : Nat) (rows : List (List Value)) (ns : List Nat), v = .slice o len cap ∧ rows.length = len ∧ len ≤ cap ∧ len * b ≤ reachBytes ∧ RowsAt w o ls.length rows ∧ ns.length = len ∧ ns.sum + 1 ≤ n ∧ ∀ (j : Nat) r k, rows[j]? = some r → ns[j]? = some k → FitsN w ls r k
def FitsN (w : World) : List DLeaf → List Value → Nat → Prop
  | [], [], _ => True
  | l :: ls, v :: vs, n => ∃ a b, a + b ≤ n ∧ DLeaf.okN w l v a ∧ FitsN w ls vs b
  | _, _, _ => False
end

section
variable {w : World}
mutual
theorem okN_toD : ∀ (l : DLeaf) (v : Value) (n : Nat), DLeaf.okN w l v n → DLeaf.ok w l v
  | .flat l, v, n, h => by
    simp only [DLeaf.okN] at h
    simp only [DLeaf.ok]
    exact h.1
  | .lst ls b, v, n, h => by
    simp only [DLeaf.okN] at h
    simp only [DLeaf.ok]
    obtain ⟨o, len, cap, rows, ns, rfl, h1, h2, h3, h4, h5, h6, h7⟩ := h
    refine ⟨o, len, cap, rows, rfl, h1, h2, h3, h4, fun r hr => ?_⟩
    obtain ⟨j, hj, he⟩ := List.getElem_of_mem hr
    exact fitsN_toD ls r _ (h7 j r (ns[j]'(by omega)) (by rw [List.getElem?_eq_getElem hj, he]) (List.getElem?_eq_getElem (by omega)))
theorem fitsN_toD : ∀ (ls : List DLeaf) (vs : List Value) (n : Nat), FitsN w ls vs n → FitsD w ls vs
  | [], [], _, _ => by simp [FitsD]
  | l :: ls, v :: vs, n, h => by
    simp only [FitsN] at h
    obtain ⟨a, b, _, h1, h2⟩ := h
    simp only [FitsD]
    exact ⟨okN_toD l v a h1, fitsN_toD ls vs b h2⟩
  | [], _ :: _, _, h => by simp [FitsN] at h
  | _ :: _, [], _, h => by simp [FitsN] at h
end
theorem FitsN.toD {ls : List DLeaf} {vs : List Value} {n : Nat} (h : FitsN w ls vs n) : FitsD w ls vs := fitsN_toD ls vs n h
theorem okN_pos {l : DLeaf} {v : Value} {n : Nat} (h : DLeaf.okN w l v n) : 1 ≤ n := by
  cases l with
  | flat l => simp only [DLeaf.okN] at h; exact h.2
  | lst ls b =>
    simp only [DLeaf.okN] at h
    obtain ⟨_, _, _, _, _, _, _, _, _, _, _, h, _⟩ := h
    omega
theorem FitsN.pos : ∀ {ls : List DLeaf} {vs : List Value} {n : Nat}, FitsN w ls vs n → ls.length ≤ n
  | [], [], _, _ => by simp
  | l :: ls, v :: vs, n, h => by
    simp only [FitsN] at h
    obtain ⟨a, b, hab, h1, h2⟩ := h
    have := okN_pos h1
    have := FitsN.pos h2
    simp only [List.length_cons]
    omega
  | [], _ :: _, _, h => by simp [FitsN] at h
  | _ :: _, [], _, h => by simp [FitsN] at h
theorem FitsN.mono : ∀ {ls : List DLeaf} {vs : List Value} {n m : Nat}, FitsN w ls vs n → n ≤ m → FitsN w ls vs m
  | [], [], _, _, _, _ => by simp [FitsN]
  | l :: ls, v :: vs, n, m, h, hm => by
    simp only [FitsN] at h ⊢
    obtain ⟨a, b, hab, h1, h2⟩ := h
    exact ⟨a, b, by omega, h1, h2⟩
  | [], _ :: _, _, _, h, _ => by simp [FitsN] at h
  | _ :: _, [], _, _, h, _ => by simp [FitsN] at h
theorem FitsN.append : ∀ {ls ls' : List DLeaf} {vs vs' : List Value} {n m : Nat}, FitsN w ls vs n → FitsN w ls' vs' m → FitsN w (ls ++ ls') (vs ++ vs') (n + m)
  | [], _, [], _, _, _, _, h => FitsN.mono h (by omega)
  | _ :: _, _, _ :: _, _, _, _, h, h' => by
    simp only [FitsN, List.cons_append] at h ⊢
    obtain ⟨a, b, hab, h1, h2⟩ := h
    exact ⟨a, _, by omega, h1, FitsN.append h2 h'⟩
  | [], _, _ :: _, _, _, _, h, _ => by simp [FitsN] at h
  | _ :: _, _, [], _, _, _, h, _ => by simp [FitsN] at h
theorem FitsN.one {l : DLeaf} {v : Value} {n : Nat} (h : DLeaf.okN w l v n) : FitsN w [l] [v] n := by simp only [FitsN]; exact ⟨n, 0, by omega, h, trivial⟩
theorem FitsN.nil {vs : List Value} {n : Nat} (h : FitsN w [] vs n) : vs = [] := h.toD.nil
theorem FitsN.cons {l : DLeaf} {ls : List DLeaf} {vs : List Value} {n : Nat} (h : FitsN w (l :: ls) vs n) : ∃ v r a b, vs = v :: r ∧ a + b ≤ n ∧ DLeaf.okN w l v a ∧ FitsN w ls r b := by
  cases vs with
  | nil => simp [FitsN] at h
  | cons v r =>
    simp only [FitsN] at h
    obtain ⟨a, b, hab, h1, h2⟩ := h
    exact ⟨v, r, a, b, rfl, hab, h1, h2⟩
theorem FitsN.int {k : IntKind} {ls : List DLeaf} {vs : List Value} {n : Nat} (h : FitsN w (.flat (.int k) :: ls) vs n) : ∃ m r b, vs = .int k m :: r ∧ (Lit.int k m).wf = true ∧ b + 1 ≤ n ∧ FitsN w ls r b := by
  obtain ⟨v, r, a, b, rfl, hab, hv, h'⟩ := h.cons
  simp only [DLeaf.okN] at hv
  obtain ⟨⟨m, rfl, hw⟩, h1⟩ := hv
  exact ⟨m, r, b, rfl, hw, by omega, h'⟩
theorem FitsN.lst {l ls : List DLeaf} {b : Nat} {vs : List Value} {n : Nat} (h : FitsN w (.lst l b :: ls) vs n) : ∃ (o : Option Addr) (len cap : Nat) (rows : List (List Value)) (ns : List Nat) (r : List Value) (c : Nat),
    vs = .slice o len cap :: r ∧ rows.length = len ∧ len ≤ cap ∧ len * b ≤ reachBytes ∧ RowsAt w o l.length rows ∧ ns.length = len ∧ (∀ (j : Nat) r k, rows[j]? = some r → ns[j]? = some k → FitsN w l r k) ∧ ns.sum + 1 + c ≤ n ∧ FitsN w ls r c := by
  obtain ⟨v, r, a, c, rfl, hac, hv, h'⟩ := h.cons
  simp only [DLeaf.okN] at hv
  obtain ⟨o, len, cap, rows, ns, rfl, h1, h2, h3, h4, h5, h6, h7⟩ := hv
  exact ⟨o, len, cap, rows, ns, r, c, rfl, h1, h2, h3, h4, h5, h7, by omega, h'⟩
theorem sum_ge {c : Nat} : ∀ {ns : List Nat}, (∀ k ∈ ns, c ≤ k) → ns.length * c ≤ ns.sum
  | [], _ => by simp
  | a :: r, h => by
    have h1 := h a (by simp)
    have h2 := sum_ge (ns := r) (fun k hk => h k (by simp [hk]))
    simp only [List.length_cons, List.sum_cons, Nat.add_mul, Nat.one_mul]
    omega
/-- The rows of a list, one by one: each fits, and all together have room. -/
theorem rowsN {l : List DLeaf} {rows : List (List Value)} {ns : List Nat} (hl : ns.length = rows.length) (h : ∀ (j : Nat) r k, rows[j]? = some r → ns[j]? = some k → FitsN w l r k) : (∀ r ∈ rows, FitsD w l r) ∧ rows.length * l.length ≤ ns.sum := by
  refine ⟨fun r hr => ?_, ?_⟩
  · obtain ⟨j, hj, he⟩ := List.getElem_of_mem hr
    exact (h j r (ns[j]'(by omega)) (by rw [List.getElem?_eq_getElem hj, he]) (List.getElem?_eq_getElem (by omega))).toD
  · rw [← hl]
    refine sum_ge fun k hk => ?_
    obtain ⟨j, hj, he⟩ := List.getElem_of_mem hk
    exact (h j (rows[j]'(by omega)) k (List.getElem?_eq_getElem (by omega)) (by rw [List.getElem?_eq_getElem hj, he])).pos
end

def leavesN (P : Program) : Nat → TypeId → Option (List DLeaf)
  | 0, _ => none
  | n + 1, t =>
    match P.underlying t with
    | some (.int k) => some [.flat (.int k)]
    | some .bool => some [.flat .bool]
    | some .string => some [.flat .str]
    | some (.struct fs) => fieldsD P (leavesN P n) fs.toList 0 (P.cellsOf t)
    | some (.slice e) =>
      match leavesN P n e with
      | some l => if P.cellsOf e = l.length ∧ 0 < l.length then some [.lst l 134217727] else none
      | none => none
    | _ => none

section
variable {H : Type} {enc : TypeId × Value → H} {P : Program} {w : World} {base : Nat} {spare : Nat → Bool} {held : Bool} {B : DataW H → Nat}
theorem fieldsN_ok {f : TypeId → Option (List DLeaf)} {cs : List Value} (size : Nat) (hsz : cs.length = size) : ∀ (fs : List Field) (ns : List Nat) (off : Nat) (ls : List DLeaf), ns.length = fs.length → fieldsD P f fs off size = some ls →
    (∀ (j : Nat) x k, fs[j]? = some x → ns[j]? = some k → ∀ l, f x.type = some l → FitsN w l ((cs.drop x.offset).take (P.cellsOf x.type)) k) → FitsN w ls (cs.drop off) ns.sum
  | [], [], off, ls, _, h, _ => by
    simp only [fieldsD] at h
    split at h
    · rename_i ho
      cases h
      rw [List.drop_eq_nil_of_le (by omega)]
      simp [FitsN]
    · cases h
  | x :: r, k :: ns, off, ls, hl, h, hf => by
    simp only [fieldsD] at h
    split at h
    · rename_i l hl'
      split at h
      · rename_i ho
        obtain ⟨hoff, hcl⟩ := ho
        cases hr : fieldsD P f r (off + l.length) size with
        | none => rw [hr] at h; cases h
        | some ls' =>
          rw [hr] at h
          cases h
          have h1 := hf 0 x k rfl rfl l hl'
          have h2 := fieldsN_ok size hsz r ns (off + l.length) ls' (by simpa using hl) hr (fun j y m hy hm => hf (j + 1) y m hy hm)
          rw [hoff, hcl] at h1
          have := h1.append h2
          rw [← List.drop_drop, List.take_append_drop] at this
          exact this
      · cases h
    · cases h
  | [], _ :: _, _, _, hl, _, _ => by simp at hl
  | _ :: _, [], _, _, hl, _, _ => by simp at hl
theorem sum_mem {x : Nat} : ∀ {l : List Nat}, x ∈ l → x ≤ l.sum
  | a :: r, h => by
    rw [List.sum_cons]
    rcases List.mem_cons.1 h with rfl | h
    · omega
    · have := sum_mem h
      omega
variable (hB0 : ∀ d, 1 ≤ B d) (hB1 : ∀ el sp, (el.map B).sum + 1 ≤ B (.slice el sp)) (hB3 : ∀ parts, (parts.map B).sum ≤ B (.agg parts))
include hB0 hB1 hB3
theorem leavesN_ok : ∀ (n : Nat) (t : TypeId) (ls : List DLeaf) (fuel : Nat) (cs : List Value) (x : DataW H × List MemPlace), leavesN P n t = some ls → DataW.trod enc P w base spare held fuel t cs = some x → B x.1 ≤ 1048576 → FitsN w ls cs (B x.1)
  | 0, _, _, _, _, _, h, _, _ => by cases h
  | n + 1, t, ls, fuel, cs, x, h, hx, hw => by
    unfold leavesN at h
    split at h
    · rename_i k ht
      cases h
      obtain ⟨m, rfl, _, hw⟩ := DataW.trod_int ht hx
      exact FitsN.one (by simp only [DLeaf.okN]; exact ⟨⟨m, rfl, hw⟩, hB0 _⟩)
    · rename_i ht
      cases h
      obtain ⟨b, rfl, _⟩ := DataW.trod_bool ht hx
      exact FitsN.one (by simp only [DLeaf.okN]; exact ⟨⟨b, rfl⟩, hB0 _⟩)
    · rename_i ht
      cases h
      obtain ⟨s, rfl, _, hs⟩ := DataW.trod_string ht hx
      exact FitsN.one (by simp only [DLeaf.okN]; exact ⟨⟨s, rfl, hs⟩, hB0 _⟩)
    · rename_i fs ht
      obtain ⟨xs, m, _, hx1, hl, hlen, hf⟩ := DataW.trod_struct ht hx
      have hsum : ((xs.map (·.1)).map B).sum ≤ B x.1 := by rw [hx1]; exact hB3 (xs.map (·.1))
      have := fieldsN_ok (w := w) (P := P) (f := leavesN P n) (cs := cs) (P.cellsOf t) hl fs.toList (xs.map fun z => B z.1) 0 ls (by simpa using hlen) h (fun j y k hy hk l hyl => by
        rw [List.getElem?_map] at hk
        obtain ⟨z, hz, rfl⟩ := Option.map_eq_some_iff.1 hk
        have hj := (List.getElem?_eq_some_iff.1 hy).1
        have hfi : fs[j]? = some y := by simpa using hy
        have h1 := hf j y hfi
        rw [hz] at h1
        refine leavesN_ok n y.type l m _ _ hyl h1 (Nat.le_trans ?_ hw)
        refine Nat.le_trans ?_ hsum
        rw [List.map_map]
        exact sum_mem (List.mem_map.2 ⟨z, List.mem_of_getElem? hz, rfl⟩))
      rw [List.drop_zero] at this
      refine this.mono ?_
      rw [List.map_map] at hsum
      exact hsum
    · rename_i e ht
      split at h
      · rename_i l hl
        split at h
        · rename_i hc
          cases h
          obtain ⟨o, len, cap, q, rows, el, sp, rfl, h1, h2, h3, h4, h5, h6, h7⟩ := open_rowsD ht (by omega) hx
          have hs : (el.map B).sum + 1 ≤ B x.1 := by
            rcases h6 with h6 | ⟨h6, h6'⟩
            · rw [h6]; exact hB1 el sp
            · have : el = [] := List.eq_nil_of_length_eq_zero (by omega)
              subst this
              have := hB0 x.1
              simp
              omega
          have hlen : el.length ≤ (el.map B).sum := by
            have := sum_ge (c := 1) (ns := el.map B) (fun k hk => by
              obtain ⟨d, _, rfl⟩ := List.mem_map.1 hk
              exact hB0 d)
            simpa using this
          refine FitsN.one ?_
          simp only [DLeaf.okN]
          refine ⟨o, len, cap, rows, el.map B, rfl, h1, h2, ?_, by rw [← hc.1]; exact h4, by simpa using h5, hs, fun j r k hr hk => ?_⟩
          · simp only [reachBytes]
            omega
          · rw [List.getElem?_map] at hk
            obtain ⟨d, hd, rfl⟩ := Option.map_eq_some_iff.1 hk
            obtain ⟨hrl, y, hy, hey⟩ := h7 j r hr
            rw [hd] at hey
            obtain rfl := Option.some.inj hey
            refine leavesN_ok n e l q r y hl hy ?_
            have := sum_mem (x := B y.1) (l := el.map B) (List.mem_map.2 ⟨_, List.mem_of_getElem? hd, rfl⟩)
            omega
        · cases h
      · cases h
    · cases h
end
end Go.Proofs.YtihipcofjpnfbaaGreatDoor.Tr
