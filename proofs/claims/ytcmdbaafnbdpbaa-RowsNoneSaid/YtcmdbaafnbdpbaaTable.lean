/- The program's table of rows in memory: what a request is, a row set, put, asked. -/
import Derived.Test.YtcmdbaafnbdpbaaInsert
import Derived.Test.YtcmdbaafnbdpbaaChunks
set_option linter.unusedVariables false
set_option linter.unusedSimpArgs false
set_option maxRecDepth 100000
set_option maxHeartbeats 1000000
namespace Go.Proofs.Ytcmdbaafnbdpbaa
open Go hiding Expr
open Go.RowKit Tr

/-- A row with the place of its values. -/
structure AR where
  s : Int
  m : Int
  e : Int
  o : Option Addr
  cap : Nat
  vals : List Int
  slot : Int
  place : Int
def AR.row (x : AR) : Rw := ⟨x.s, x.m, ⟨x.e, x.vals, x.slot, x.place⟩⟩
def entV (x : AR) : Value := .agg ⟨[.int .i64 x.m, .int .i64 x.e, .slice x.o x.vals.length x.cap, .int .i64 x.slot, .int .i64 x.place]⟩
abbrev kI (n : Int) : Value := .int .i64 n
def kv (x : AR) : Int × AR := (x.s, x)
abbrev resL (e : Int) (o : Option Addr) (n cap : Nat) (slot place : Int) : List Value := [.int .i64 e, .slice o n cap, .int .i64 slot, .int .i64 place]
def OwnV (x : AR) (c : Hp) : Prop := OwnC 2 1 (.slice x.o x.vals.length x.cap) x.vals.length (ints x.vals) c
def Vals (X : List AR) (cs : List Hp) : Prop := cs.length = X.length ∧ ∀ (i : Nat) (x : AR) (c : Hp), X[i]? = some x → cs[i]? = some c → OwnV x c
abbrev MapT (o : Obj) (D : List AR) : Prop := MapO Try.prog 2 kI entV o (D.map kv)

theorem keyed2 : Maps.Keyed Try.prog 2 := Maps.int_keyed Try.underlying2
theorem kI_inj (a : Int) (D : List AR) : ∀ p ∈ D.map kv, kI p.1 = kI a → p.1 = a := by
  intro p _ h
  simpa [kI] using h
def inI (n : Int) : Prop := -9223372036854775808 ≤ n ∧ n ≤ 9223372036854775807
theorem keyI {a : Int} (h : inI a) : ∃ l, keyOf Try.prog 2 (kI a) = some l := by
  obtain ⟨h1, h2⟩ := h
  exact ⟨_, Maps.keyOf_int_mk Try.underlying2 (by simp [Lit.wf, IntKind.min, IntKind.max, IntKind.signed, IntKind.bits]; omega)⟩
theorem zero69 (w : World) : (zeroValue 69).run Try.prog w = .ok (entV ⟨0, 0, 0, none, 0, [], 0, 0⟩) w := by rfl

def Tab (p : Nat) (R : List Rw) (c : Hp) : Prop := ∃ (D : List AR) (b : Nat) (o : Obj) (lv : Value) (cl' : Hp) (cs : List Hp),
  c = cl p 61 [.map (some b), lv] :: (b, o) :: (cl' ++ cs.flatten) ∧ MapT o D ∧ OwnC 2 1 lv R.length (ints (R.map (·.s))) cl' ∧ Vals D cs ∧ (D.map AR.row).Perm R

/-! ### The map and the rows -/
section
variable {R : List Rw} {D : List AR} {s : Int}
theorem row_mem (hP : (D.map AR.row).Perm R) {x : AR} (h : x ∈ D) : x.row ∈ R := hP.mem_iff.1 (List.mem_map_of_mem h)
theorem get_tab (hP : (D.map AR.row).Perm R) (hu : Up R) : (∃ x, getAt (D.map kv) s = some x ∧ x ∈ D ∧ x.s = s ∧ lookR R s = some x.row) ∨ (getAt (D.map kv) s = none ∧ lookR R s = none) := by
  cases h : getAt (D.map kv) s with
  | none =>
    refine .inr ⟨rfl, ?_⟩
    rw [getAt_none] at h
    rw [lookR_none]
    cases hh : hasR R s with
    | false => rfl
    | true =>
      obtain ⟨r, hr, rfl⟩ := List.mem_map.1 ((hasR_mem hu).1 hh)
      obtain ⟨x, hx, rfl⟩ := List.mem_map.1 (hP.mem_iff.2 hr)
      exact absurd rfl (h (kv x) (List.mem_map_of_mem hx))
  | some x =>
    have hm : ∀ (l : List (Int × AR)), getAt l s = some x → (s, x) ∈ l := by
      intro l
      induction l with
      | nil => simp [getAt]
      | cons p l ih =>
        intro hg
        simp only [getAt] at hg
        split at hg
        · rename_i he
          cases hg
          rw [← he]
          simp
        · exact List.mem_cons_of_mem _ (ih hg)
    obtain ⟨y, hy, he⟩ := List.mem_map.1 (hm _ h)
    simp only [kv, Prod.mk.injEq] at he
    obtain ⟨h1, rfl⟩ := he
    exact .inl ⟨y, rfl, hy, h1, (lookR_mem hu).2 ⟨row_mem hP hy, h1⟩⟩

theorem keys_set (hu : Up R) (w : Rw) : (setR R w).map (·.s) = if hasR R w.s then R.map (·.s) else (R.map (·.s)).take (posR R w.s) ++ [w.s] ++ (R.map (·.s)).drop (posR R w.s) := by
  unfold setR
  simp only [List.map_append, List.map_take, List.map_drop, List.map_cons, List.map_nil]
  split
  · rename_i hh
    simp only [hasR, decide_eq_true_eq] at hh
    obtain ⟨hlt, he⟩ := List.getElem?_eq_some_iff.1 hh
    have h3 : (R.map (·.s)).take (posR R w.s) ++ (R.map (·.s))[posR R w.s] :: (R.map (·.s)).drop (posR R w.s + 1) = R.map (·.s) := by rw [List.getElem_cons_drop, List.take_append_drop]
    rw [he] at h3
    rw [List.append_assoc, List.singleton_append]
    exact h3
  · rfl

theorem erase_perm {α : Type} : ∀ {l : List α} {i : Nat} (h : i < l.length), (l[i] :: l.eraseIdx i).Perm l
  | a :: l, 0, _ => List.Perm.refl _
  | a :: l, i + 1, h => by
    have h' : i < l.length := by simpa using h
    have := erase_perm (l := l) (i := i) h'
    rw [List.getElem_cons_succ, List.eraseIdx_cons_succ]
    exact (List.Perm.swap _ _ _).trans (List.Perm.cons a this)
theorem set_perm_erase {l : List AR} {i : Nat} (hi : i < l.length) (x : AR) : (l.set i x).Perm (x :: l.eraseIdx i) := by
  have h := erase_perm (l := l.set i x) (i := i) (by simpa using hi)
  rw [List.getElem_set_self, List.eraseIdx_set_eq] at h
  exact h.symm

/-- A row put into the map. -/
theorem vals_put {cs : List Hp} {x : AR} {c : Hp} (hP : (D.map AR.row).Perm R) (hu : Up R) (hv : Vals D cs) (hx : OwnV x c) :
    ∃ D2 cs2, putAt (D.map kv) x.s x = D2.map kv ∧ Vals D2 cs2 ∧ (∀ m, Sb (cs2.flatten ++ m) (c ++ (cs.flatten ++ m))) ∧ (D2.map AR.row).Perm (setR R x.row) := by
  cases hl : lookR R x.s with
  | none =>
    have hno : ∀ p ∈ D.map kv, p.1 ≠ x.s := by
      rcases get_tab (s := x.s) hP hu with ⟨y, _, _, _, h4⟩ | ⟨h1, _⟩
      · rw [hl] at h4; cases h4
      · exact getAt_none.1 h1
    refine ⟨D ++ [x], cs ++ [c], by rw [putAt_none hno]; simp [kv], ⟨by simp [hv.1], fun i y d hy hd => ?_⟩, fun m => ⟨[], ?_⟩, ?_⟩
    · rcases Nat.lt_or_ge i D.length with h | h
      · rw [List.getElem?_append_left h] at hy
        rw [List.getElem?_append_left (by rw [hv.1]; exact h)] at hd
        exact hv.2 i y d hy hd
      · rw [List.getElem?_append_right h] at hy
        rw [List.getElem?_append_right (by rw [hv.1]; exact h), hv.1] at hd
        cases hk : i - D.length with
        | zero =>
          rw [hk] at hy hd
          simp at hy hd
          subst hy hd
          exact hx
        | succ k => rw [hk] at hy; simp at hy
    · rw [List.append_nil, List.flatten_append, List.flatten_singleton, ← List.append_assoc]
      exact (List.perm_append_comm).append_right m
    · have hh : hasR R x.row.s = false := lookR_none.1 hl
      unfold setR
      rw [List.map_append, if_neg (by simp [hh])]
      have h1 : (R.take (posR R x.row.s) ++ [x.row] ++ R.drop (posR R x.row.s)).Perm (R ++ [x.row]) := by
        have : (R.take (posR R x.row.s) ++ ([x.row] ++ R.drop (posR R x.row.s))).Perm (R.take (posR R x.row.s) ++ (R.drop (posR R x.row.s) ++ [x.row])) := List.Perm.append_left _ List.perm_append_comm
        rw [← List.append_assoc, ← List.append_assoc, List.take_append_drop] at this
        exact this
      exact (hP.append_right _).trans h1.symm
  | some r =>
    obtain ⟨y, hg, hy, hys, hyr⟩ : ∃ y, getAt (D.map kv) x.s = some y ∧ y ∈ D ∧ y.s = x.s ∧ lookR R x.s = some y.row := by
      rcases get_tab (s := x.s) hP hu with h | ⟨_, h2⟩
      · exact h
      · rw [hl] at h2; cases h2
    obtain ⟨j, hj, he⟩ := List.getElem_of_mem hy
    have hDj : D[j]? = some y := by rw [List.getElem?_eq_getElem hj, he]
    have hnd : (D.map AR.row).Pairwise (fun a b => a.s ≠ b.s) := by
      have h1 : R.Pairwise (fun a b => a.s ≠ b.s) := (List.pairwise_map.1 hu).imp (fun h => by omega)
      exact (hP.pairwise_iff (fun {a b} h => fun e => h e.symm)).2 h1
    have hlt : ∀ i q, i < j → (D.map kv)[i]? = some q → q.1 ≠ x.s := by
      intro i q hi hq
      rw [List.getElem?_map, List.getElem?_eq_getElem (by omega)] at hq
      simp only [Option.map_some, Option.some.injEq] at hq
      subst hq
      have := List.pairwise_iff_getElem.1 hnd i j (by simp; omega) (by simpa using hj) hi
      simp only [List.getElem_map, he] at this
      intro e
      apply this
      show (D[i]).s = y.s
      rw [hys]
      exact e
    have hpj : (D.map kv)[j]? = some (kv y) := by rw [List.getElem?_map, hDj]; rfl
    have hput := (putAt_some (v := x) hpj (a := x.s) hys hlt).1
    have hcj : j < cs.length := by rw [hv.1]; exact hj
    refine ⟨D.set j x, cs.set j c, by rw [hput, List.map_set]; rfl, ⟨by simp [hv.1], fun i z d hz hd => ?_⟩, fun m => ?_, ?_⟩
    · rw [List.getElem?_set] at hz hd
      split at hz
      · rename_i hij
        rw [if_pos hij] at hd
        subst hij
        rw [if_pos hcj] at hd
        simp only [hj, if_true, Option.some.injEq] at hz hd
        subst hz hd
        exact hx
      · rename_i hij
        rw [if_neg hij] at hd
        exact hv.2 i z d hz hd
    · have h1 := cut_flat (cs := cs) (p := j) (c := cs[j]) (List.getElem?_eq_getElem hcj)
      have h2 := flat_put (cs := cs) (p := j) hcj c
      refine ⟨cs[j], ?_⟩
      have h3 : (c ++ (cs.flatten ++ m)).Perm (c ++ ((cs[j] ++ (cs.set j []).flatten) ++ m)) := List.Perm.append_left _ (List.Perm.append_right _ h1)
      refine h3.trans ?_
      have h4 : (c ++ ((cs[j] ++ (cs.set j []).flatten) ++ m)).Perm (((c ++ (cs.set j []).flatten) ++ m) ++ cs[j]) := by
        have e1 : c ++ ((cs[j] ++ (cs.set j []).flatten) ++ m) = c ++ (cs[j] ++ ((cs.set j []).flatten ++ m)) := by simp
        have e2 : ((c ++ (cs.set j []).flatten) ++ m) ++ cs[j] = c ++ (((cs.set j []).flatten ++ m) ++ cs[j]) := by simp
        rw [e1, e2]
        exact List.Perm.append_left c List.perm_append_comm
      exact h4.trans (List.Perm.append_right _ (List.Perm.append_right _ h2))
    · have e1 : r = y.row := by rw [hl] at hyr; cases hyr; rfl
      obtain ⟨h1, h2, hh⟩ := lookR_some hl
      obtain ⟨hp, hpe⟩ := List.getElem?_eq_some_iff.1 h1
      have hD1 : (D.map AR.row).Perm (y.row :: (D.eraseIdx j).map AR.row) := by
        have := (erase_perm hj).map AR.row
        rw [he] at this
        exact this.symm
      have hR1 : R.Perm (r :: (R.take (posR R x.s) ++ R.drop (posR R x.s + 1))) := by
        have h3 : R = R.take (posR R x.s) ++ r :: R.drop (posR R x.s + 1) := by
          rw [← hpe, List.getElem_cons_drop, List.take_append_drop]
        conv => lhs; rw [h3]
        exact List.perm_middle
      have hE : ((D.eraseIdx j).map AR.row).Perm (R.take (posR R x.s) ++ R.drop (posR R x.s + 1)) := by
        have := hD1.symm.trans (hP.trans hR1)
        rw [← e1] at this
        exact this.cons_inv
      have hS : setR R x.row = R.take (posR R x.s) ++ x.row :: R.drop (posR R x.s + 1) := by
        unfold setR
        have : x.row.s = x.s := rfl
        rw [this, if_pos hh, List.append_assoc]
        rfl
      rw [hS]
      exact ((set_perm_erase hj x).map AR.row).trans ((List.Perm.cons _ hE).trans List.perm_middle.symm)
end
end Go.Proofs.Ytcmdbaafnbdpbaa
