/- Arguments handed in that hold slices: what their reading says of the cells. -/
import Derived.Test.YtpjcfnnnciknmaaGreatArgs
import Derived.SizedLaws
namespace Go.Proofs.YtpjcfnnnciknmaaGreat.Tr
open Go
set_option linter.unusedSimpArgs false
set_option linter.unusedVariables false
open Go.RowKit

/-- A leaf: a number, a truth, a string; or a slice of rows of leaves, so many bytes each. -/
inductive DLeaf where
  | flat (l : Leaf)
  | lst (ls : List DLeaf) (bytes : Nat)

mutual
def DLeaf.ok (w : World) : DLeaf → Value → Prop
  | .flat l, v => l.ok v
  | .lst ls b, v => ∃ o len cap rows, v = .slice o len cap ∧ rows.length = len ∧ len ≤ cap ∧ len * b ≤ reachBytes ∧ RowsAt w o ls.length rows ∧ ∀ r ∈ rows, FitsD w ls r
def FitsD (w : World) : List DLeaf → List Value → Prop
  | [], [] => True
  | l :: ls, v :: vs => DLeaf.ok w l v ∧ FitsD w ls vs
  | _, _ => False
end

section
variable {w : World}
theorem FitsD.len : ∀ {ls : List DLeaf} {vs : List Value}, FitsD w ls vs → vs.length = ls.length
  | [], [], _ => rfl
  | _ :: _, _ :: _, h => by simp only [FitsD] at h; simp [FitsD.len h.2]
  | [], _ :: _, h => by simp [FitsD] at h
  | _ :: _, [], h => by simp [FitsD] at h
theorem FitsD.append : ∀ {ls ls' : List DLeaf} {vs vs' : List Value}, FitsD w ls vs → FitsD w ls' vs' → FitsD w (ls ++ ls') (vs ++ vs')
  | [], _, [], _, _, h => h
  | _ :: _, _, _ :: _, _, h, h' => by simp only [FitsD, List.cons_append] at h ⊢; exact ⟨h.1, FitsD.append h.2 h'⟩
  | [], _, _ :: _, _, h, _ => by simp [FitsD] at h
  | _ :: _, _, [], _, h, _ => by simp [FitsD] at h
theorem FitsD.one {l : DLeaf} {v : Value} (h : DLeaf.ok w l v) : FitsD w [l] [v] := by simp only [FitsD]; exact ⟨h, trivial⟩

theorem FitsD.nil {vs : List Value} (h : FitsD w [] vs) : vs = [] := by
  cases vs with
  | nil => rfl
  | cons => simp [FitsD] at h
theorem FitsD.cons {l : DLeaf} {ls : List DLeaf} {vs : List Value} (h : FitsD w (l :: ls) vs) : ∃ v r, vs = v :: r ∧ DLeaf.ok w l v ∧ FitsD w ls r := by
  cases vs with
  | nil => simp [FitsD] at h
  | cons v r => simp only [FitsD] at h; exact ⟨v, r, rfl, h.1, h.2⟩
theorem FitsD.int {k : IntKind} {ls : List DLeaf} {vs : List Value} (h : FitsD w (.flat (.int k) :: ls) vs) : ∃ n r, vs = .int k n :: r ∧ (Lit.int k n).wf = true ∧ FitsD w ls r := by
  obtain ⟨v, r, rfl, hv, h'⟩ := h.cons
  simp only [DLeaf.ok] at hv
  obtain ⟨n, rfl, hw⟩ := hv
  exact ⟨n, r, rfl, hw, h'⟩
theorem FitsD.bool {ls : List DLeaf} {vs : List Value} (h : FitsD w (.flat .bool :: ls) vs) : ∃ b r, vs = .bool b :: r ∧ FitsD w ls r := by
  obtain ⟨v, r, rfl, hv, h'⟩ := h.cons
  simp only [DLeaf.ok] at hv
  obtain ⟨n, rfl⟩ := hv
  exact ⟨n, r, rfl, h'⟩
theorem FitsD.str {ls : List DLeaf} {vs : List Value} (h : FitsD w (.flat .str :: ls) vs) : ∃ s r, vs = .string s :: r ∧ s.size ≤ maxLen ∧ FitsD w ls r := by
  obtain ⟨v, r, rfl, hv, h'⟩ := h.cons
  simp only [DLeaf.ok] at hv
  obtain ⟨n, rfl, hw⟩ := hv
  exact ⟨n, r, rfl, hw, h'⟩
theorem FitsD.lst {l ls : List DLeaf} {b : Nat} {vs : List Value} (h : FitsD w (.lst l b :: ls) vs) : ∃ o len cap rows r, vs = .slice o len cap :: r ∧ rows.length = len ∧ len ≤ cap ∧ len * b ≤ reachBytes ∧ RowsAt w o l.length rows ∧ (∀ r ∈ rows, FitsD w l r) ∧ FitsD w ls r := by
  obtain ⟨v, r, rfl, hv, h'⟩ := h.cons
  simp only [DLeaf.ok] at hv
  obtain ⟨o, len, cap, rows, rfl, h1, h2, h3, h4, h5⟩ := hv
  exact ⟨o, len, cap, rows, r, rfl, h1, h2, h3, h4, h5, h'⟩
/-- A leaf that is a list of flat rows, told in flat terms. -/
theorem FitsD.toFlat : ∀ {ls : List Leaf} {vs : List Value}, FitsD w (ls.map .flat) vs → Fits ls vs
  | [], [], _ => trivial
  | _ :: _, _ :: _, h => by
    simp only [List.map_cons, FitsD, DLeaf.ok] at h
    exact ⟨h.1, FitsD.toFlat h.2⟩
  | [], _ :: _, h => by simp [FitsD] at h
  | _ :: _, [], h => by simp [FitsD] at h
end

def fieldsD (P : Program) (f : TypeId → Option (List DLeaf)) : List Field → Nat → Nat → Option (List DLeaf)
  | [], off, size => if off = size then some [] else none
  | x :: r, off, size =>
    match f x.type with
    | some l => if x.offset = off ∧ P.cellsOf x.type = l.length then (fieldsD P f r (off + l.length) size).map (l ++ ·) else none
    | none => none

def leavesD (P : Program) : Nat → TypeId → Option (List DLeaf)
  | 0, _ => none
  | n + 1, t =>
    match P.underlying t with
    | some (.int k) => some [.flat (.int k)]
    | some .bool => some [.flat .bool]
    | some .string => some [.flat .str]
    | some (.struct fs) => fieldsD P (leavesD P n) fs.toList 0 (P.cellsOf t)
    | some (.array m e) =>
      match leavesD P n e with
      | some l => if P.cellsOf e = l.length ∧ P.cellsOf t = m * l.length then some (List.replicate m l).flatten else none
      | none => none
    | some (.slice e) =>
      match leavesD P n e with
      | some l => if P.cellsOf e = l.length ∧ 0 < l.length then some [.lst l (P.bytesOf e)] else none
      | none => none
    | _ => none

section
variable {H : Type} {enc : TypeId × Value → H} {P : Program} {w : World} {base : Nat} {spare : Nat → Bool} {held : Bool}

theorem fieldsD_ok {f : TypeId → Option (List DLeaf)} {cs : List Value} (size : Nat) (hsz : cs.length = size) : ∀ (fs : List Field) (off : Nat) (ls : List DLeaf), fieldsD P f fs off size = some ls →
    (∀ x ∈ fs, ∀ l, f x.type = some l → FitsD w l ((cs.drop x.offset).take (P.cellsOf x.type))) → FitsD w ls (cs.drop off)
  | [], off, ls, h, _ => by
    simp only [fieldsD] at h
    split at h
    · rename_i ho
      cases h
      rw [List.drop_eq_nil_of_le (by omega)]
      simp [FitsD]
    · cases h
  | x :: r, off, ls, h, hf => by
    simp only [fieldsD] at h
    split at h
    · rename_i l hl
      split at h
      · rename_i ho
        obtain ⟨hoff, hcl⟩ := ho
        cases hr : fieldsD P f r (off + l.length) size with
        | none => rw [hr] at h; cases h
        | some ls' =>
          rw [hr] at h
          cases h
          have h1 := hf x (by simp) l hl
          have h2 := fieldsD_ok size hsz r (off + l.length) ls' hr (fun y hy => hf y (by simp [hy]))
          rw [hoff, hcl] at h1
          have := h1.append h2
          rwa [← List.drop_drop, List.take_append_drop] at this
      · cases h
    · cases h

theorem repsD_ok {l : List DLeaf} : ∀ (m : Nat) (cs : List Value), cs.length = m * l.length → (∀ i, i < m → FitsD w l ((cs.drop (i * l.length)).take l.length)) → FitsD w (List.replicate m l).flatten cs
  | 0, cs, h, _ => by
    have : cs = [] := List.eq_nil_of_length_eq_zero (by simpa using h)
    subst this
    simp [FitsD]
  | m + 1, cs, h, hf => by
    have h1 := hf 0 (by omega)
    simp only [Nat.zero_mul, List.drop_zero] at h1
    have h2 := repsD_ok (l := l) m (cs.drop l.length) (by rw [List.length_drop, h, Nat.succ_mul]; omega) (fun i hi => by
      have := hf (i + 1) (by omega)
      rw [List.drop_drop]
      rwa [Nat.succ_mul, Nat.add_comm] at this)
    have := h1.append h2
    rw [List.take_append_drop] at this
    simpa [List.replicate_succ] using this

/-- A slice opened: its rows, each with its own reading. -/
theorem open_rowsD {t e : TypeId} {fuel : Nat} {cs : List Value} {x : DataW H × List MemPlace} (ht : P.underlying t = some (.slice e)) (hpos : 0 < P.cellsOf e)
    (h : DataW.trod enc P w base spare held fuel t cs = some x) :
    ∃ (o : Option Addr) (len cap q : Nat) (rows : List (List Value)) (el sp : List (DataW H)), cs = [.slice o len cap] ∧ rows.length = len ∧ len ≤ cap ∧ cap ≤ maxLen ∧ RowsAt w o (P.cellsOf e) rows ∧
      el.length = len ∧ (x.1 = .slice el sp ∨ len = 0 ∧ x.1 = .nil) ∧
      ∀ (j : Nat) (r : List Value), rows[j]? = some r → r.length = P.cellsOf e ∧ ∃ y, DataW.trod enc P w base spare held q e r = some y ∧ el[j]? = some y.1 := by
  rcases Go.Deep.open_slice ht h with ⟨rfl, rfl⟩ | ⟨a, len, cap, m, q, D, Pl, rfl, hb, hle, hm, hmm, hx, hel⟩
  · exact ⟨none, 0, 0, 0, [], [], [], rfl, rfl, Nat.le_refl _, Nat.zero_le _, .inl rfl, rfl, .inr ⟨rfl, rfl⟩, fun j r hr => by simp at hr⟩
  · have hlm : len ≤ m := by rw [hmm]; split <;> omega
    obtain ⟨R, hR⟩ := Go.Deep.choose_lt (n := len) (p := fun i cs' => w.cells? base (a.add (i * P.cellsOf e)) (P.cellsOf e) = some cs' ∧ DataW.trod enc P w base spare held q e cs' = some (D i, Pl i)) (fun i hi => hel i (by omega))
    have hget : ∀ j (r : List Value), ((List.range len).map R)[j]? = some r → j < len ∧ r = R j := fun j r hr => by
      obtain ⟨hj, he⟩ := List.getElem?_eq_some_iff.1 hr
      have hj' : j < len := by simpa using hj
      simp only [List.getElem_map, List.getElem_range] at he
      exact ⟨hj', he.symm⟩
    refine ⟨some a, len, cap, q, (List.range len).map R, (List.range len).map D, _, rfl, by simp, hle, hm, ?_, by simp, .inl (by rw [hx]), ?_⟩
    · rcases Nat.eq_zero_or_pos len with h0 | h0
      · subst h0; exact .inl (by simp)
      · obtain ⟨h1, _⟩ := hR 0 h0
        obtain ⟨_, hl0, hc0⟩ := World.cells?_some h1
        have hl0' : (R 0).length = P.cellsOf e := by simpa using hl0
        have hc0' := hc0 0 hpos
        rw [List.getElem?_eq_getElem (by omega)] at hc0'
        obtain ⟨g, off, sp⟩ := a
        have hsp : sp = none := by
          cases sp with
          | none => rfl
          | some z =>
            simp only [Nat.zero_mul, Addr.add, if_true, World.cell?] at hc0'
            split at hc0' <;> simp at hc0'
        subst hsp
        refine .inr ⟨g, off, rfl, ?_, fun j r hr k v hv => ?_⟩
        · have : (⟨g, off, none⟩ : Addr).block < w.heap.size := World.cells?_block (w := w) (base := 0) (n := 1) (a := ⟨g, off, none⟩) (cs := [(R 0)[0]]) (ChangeShapes.cells?_one (by simp) (by simpa [Addr.add] using hc0')) (by omega)
          exact this
        · obtain ⟨hj, rfl⟩ := hget j r hr
          obtain ⟨h2, _⟩ := hR j hj
          obtain ⟨_, hl, hc⟩ := World.cells?_some h2
          have hl' : (R j).length = P.cellsOf e := by simpa using hl
          have hk : k < P.cellsOf e := by rw [← hl']; exact (List.getElem?_eq_some_iff.1 hv).1
          rw [← hv, ← hc k hk, add_plain, add_plain]
    · intro j r hr
      obtain ⟨hj, rfl⟩ := hget j r hr
      obtain ⟨h2, h3⟩ := hR j hj
      obtain ⟨_, hl, _⟩ := World.cells?_some h2
      exact ⟨by simpa using hl, _, h3, by simp [hj]⟩

theorem weightsAll_mem {e : TypeId} {d : DataW H} : ∀ {l : List (DataW H)}, d ∈ l → ∀ n ∈ d.weights P e, n ∈ DataW.weightsAll P e l
  | a :: r, h, n, hn => by
    simp only [DataW.weightsAll, List.mem_append]
    rcases List.mem_cons.1 h with rfl | h
    · exact .inl hn
    · exact .inr (weightsAll_mem h n hn)

theorem leavesD_ok : ∀ (n : Nat) (t : TypeId) (ls : List DLeaf) (fuel : Nat) (cs : List Value) (x : DataW H × List MemPlace), leavesD P n t = some ls → DataW.trod enc P w base spare held fuel t cs = some x → (∀ k ∈ x.1.weights P t, k ≤ reachBytes) → FitsD w ls cs
  | 0, _, _, _, _, _, h, _, _ => by cases h
  | n + 1, t, ls, fuel, cs, x, h, hx, hw => by
    unfold leavesD at h
    split at h
    · rename_i k ht
      cases h
      obtain ⟨m, rfl, _, hw⟩ := DataW.trod_int ht hx
      exact FitsD.one (by simp only [DLeaf.ok]; exact ⟨m, rfl, hw⟩)
    · rename_i ht
      cases h
      obtain ⟨b, rfl, _⟩ := DataW.trod_bool ht hx
      exact FitsD.one (by simp only [DLeaf.ok]; exact ⟨b, rfl⟩)
    · rename_i ht
      cases h
      obtain ⟨s, rfl, _, hs⟩ := DataW.trod_string ht hx
      exact FitsD.one (by simp only [DLeaf.ok]; exact ⟨s, rfl, hs⟩)
    · rename_i fs ht
      obtain ⟨xs, m, _, hx1, hl, hlen, hf⟩ := DataW.trod_struct ht hx
      have := fieldsD_ok (w := w) (P := P) (f := leavesD P n) (cs := cs) (P.cellsOf t) hl fs.toList 0 ls h (fun y hy l hyl => by
        obtain ⟨i, hi, he⟩ := List.getElem_of_mem hy
        have hfi : fs[i]? = some y := by rw [← he]; simp [Array.getElem?_eq_getElem (by simpa using hi)]
        have h1 := hf i y hfi
        have hi' : i < xs.length := by rw [hlen]; simpa using hi
        rw [List.getElem?_eq_getElem hi'] at h1
        refine leavesD_ok n y.type l m _ _ hyl h1 (fun k hk => hw k ?_)
        rw [hx1]
        simp only [DataW.weights, ht]
        refine DataW.weights_mem_each (j := i) (t := y.type) (d := (xs[i]).1) ?_ ?_ k hk
        · rw [List.getElem?_map, List.getElem?_eq_getElem hi, he]; rfl
        · rw [List.getElem?_map, List.getElem?_eq_getElem hi']; rfl)
      simpa using this
    · rename_i m e ht
      split at h
      · rename_i l hl
        split at h
        · rename_i hc
          cases h
          obtain ⟨xs, q, _, hx1, hlen, hxl, hf⟩ := DataW.trod_array ht hx
          refine repsD_ok m cs (by rw [hlen, hc.2]) (fun i hi => ?_)
          have h1 := hf i hi
          rw [List.getElem?_eq_getElem (by omega)] at h1
          rw [hc.1] at h1
          refine leavesD_ok n e l q _ _ hl h1 (fun k hk => hw k ?_)
          rw [hx1]
          simp only [DataW.weights, ht]
          exact weightsAll_mem (List.mem_map_of_mem (List.getElem_mem _)) k hk
        · cases h
      · cases h
    · rename_i e ht
      split at h
      · rename_i l hl
        split at h
        · rename_i hc
          cases h
          obtain ⟨o, len, cap, q, rows, el, sp, rfl, h1, h2, h3, h4, h5, h6, h7⟩ := open_rowsD ht (by omega) hx
          refine FitsD.one ?_
          simp only [DLeaf.ok]
          refine ⟨o, len, cap, rows, rfl, h1, h2, ?_, by rw [← hc.1]; exact h4, fun r hr => ?_⟩
          · rcases h6 with h6 | ⟨h6, _⟩
            · have := hw ((el.length + sp.length) * P.bytesOf e) (by rw [h6]; simp [DataW.weights, ht])
              rw [h5] at this
              exact Nat.le_trans (Nat.mul_le_mul_right _ (by omega)) this
            · rw [h6]; simp
          · obtain ⟨j, hj, he⟩ := List.getElem_of_mem hr
            obtain ⟨hrl, y, hy, hey⟩ := h7 j r (by rw [List.getElem?_eq_getElem hj, he])
            refine leavesD_ok n e l q r y hl hy (fun k hk => hw k ?_)
            rcases h6 with h6 | ⟨h6, _⟩
            · rw [h6]
              simp only [DataW.weights, ht, List.mem_cons, List.mem_append]
              exact .inr (.inl (weightsAll_mem (List.mem_of_getElem? hey) k hk))
            · omega
        · cases h
      · cases h
    · cases h
end
end Go.Proofs.YtpjcfnnnciknmaaGreat.Tr
