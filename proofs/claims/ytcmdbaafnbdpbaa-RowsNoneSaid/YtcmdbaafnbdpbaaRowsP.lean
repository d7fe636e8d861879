/- Rows of sessions, rising, in plain terms: where a row stands, what a request is, a row put. -/
import Derived.Test.YtcmdbaafnbdpbaaMap
namespace Go.Proofs.Ytcmdbaafnbdpbaa
open Go hiding Expr
open Go.RowKit Tr
set_option linter.unusedVariables false
set_option linter.unusedSimpArgs false

structure Res where
  e : Int
  vals : List Int
  slot : Int
  place : Int
deriving DecidableEq
structure Rw where
  s : Int
  m : Int
  r : Res
deriving DecidableEq

def zeroR : Res := ⟨0, [], 0, 0⟩

/-! ### Numbers that rise -/
def UpI (L : List Int) : Prop := L.Pairwise (· < ·)
/-- How many stand below s, up to the first that does not. -/
def cutI : List Int → Int → Nat
  | [], _ => 0
  | a :: l, s => if a < s then cutI l s + 1 else 0
theorem cutI_le (L : List Int) (s : Int) : cutI L s ≤ L.length := by
  induction L with
  | nil => simp [cutI]
  | cons a l ih => simp only [cutI]; split <;> simp <;> omega
theorem cutI_lt {L : List Int} {s : Int} : ∀ {i : Nat} {a : Int}, i < cutI L s → L[i]? = some a → a < s := by
  induction L with
  | nil => intro i a h; simp [cutI] at h
  | cons b l ih =>
    intro i a h ha
    simp only [cutI] at h
    split at h
    · cases i with
      | zero => simp at ha; omega
      | succ i => exact ih (Nat.lt_of_succ_lt_succ h) (by simpa using ha)
    · omega
theorem cutI_ge {L : List Int} {s a : Int} (ha : L[cutI L s]? = some a) : s ≤ a := by
  induction L with
  | nil => simp at ha
  | cons b l ih =>
    simp only [cutI] at ha
    split at ha
    · exact ih (by simpa using ha)
    · simp at ha; omega
theorem cutI_of {L : List Int} {s : Int} {i : Nat} (hi : i ≤ L.length) (h1 : ∀ j a, j < i → L[j]? = some a → a < s) (h2 : ∀ a, L[i]? = some a → s ≤ a) : i = cutI L s := by
  rcases Nat.lt_trichotomy i (cutI L s) with h | h | h
  · have hl := cutI_le L s
    have ha : L[i]? = some L[i] := List.getElem?_eq_getElem (by omega)
    have := cutI_lt h ha
    have := h2 _ ha
    omega
  · exact h
  · have ha : L[cutI L s]? = some L[cutI L s] := List.getElem?_eq_getElem (by omega)
    have := cutI_ge ha
    have := h1 _ _ h ha
    omega
theorem UpI.get {L : List Int} (h : UpI L) {i j : Nat} {a b : Int} (hij : i < j) (ha : L[i]? = some a) (hb : L[j]? = some b) : a < b := by
  obtain ⟨hi, rfl⟩ := List.getElem?_eq_some_iff.1 ha
  obtain ⟨hj, rfl⟩ := List.getElem?_eq_some_iff.1 hb
  exact List.pairwise_iff_getElem.1 h i j hi hj hij
/-- In a rising list a number stands where it is cut, or nowhere. -/
theorem UpI.at {L : List Int} (h : UpI L) {i : Nat} {s : Int} (hi : L[i]? = some s) : i = cutI L s :=
  cutI_of (by have := (List.getElem?_eq_some_iff.1 hi).1; omega) (fun j a hj ha => h.get hj ha hi) (fun a ha => by rw [hi] at ha; cases ha; omega)

/-! ### Rows -/
def Up (R : List Rw) : Prop := UpI (R.map (·.s))
def posR (R : List Rw) (s : Int) : Nat := cutI (R.map (·.s)) s
def hasR (R : List Rw) (s : Int) : Bool := decide ((R.map (·.s))[posR R s]? = some s)
def lookR (R : List Rw) (s : Int) : Option Rw := if hasR R s then R[posR R s]? else none
theorem posR_le (R : List Rw) (s : Int) : posR R s ≤ R.length := by have := cutI_le (R.map (·.s)) s; simpa [posR] using this

theorem lookR_some {R : List Rw} {s : Int} {r : Rw} (h : lookR R s = some r) : R[posR R s]? = some r ∧ r.s = s ∧ hasR R s = true := by
  unfold lookR at h
  split at h
  · rename_i hh
    refine ⟨h, ?_, hh⟩
    simp only [hasR, decide_eq_true_eq, List.getElem?_map, h, Option.map_some, Option.some.injEq] at hh
    exact hh
  · cases h
theorem hasR_look {R : List Rw} {s : Int} (h : hasR R s = true) : ∃ r, lookR R s = some r := by
  have hh := h
  simp only [hasR, decide_eq_true_eq, List.getElem?_map, Option.map_eq_some_iff] at hh
  obtain ⟨r, hr, _⟩ := hh
  exact ⟨r, by unfold lookR; rw [if_pos h]; exact hr⟩
theorem lookR_none {R : List Rw} {s : Int} : lookR R s = none ↔ hasR R s = false := by
  cases h : hasR R s with
  | true =>
    obtain ⟨r, hr⟩ := hasR_look h
    simp [hr]
  | false => simp [lookR, h]
theorem lookR_mem {R : List Rw} {s : Int} {r : Rw} (hu : Up R) : lookR R s = some r ↔ r ∈ R ∧ r.s = s := by
  constructor
  · intro h
    obtain ⟨h1, h2, _⟩ := lookR_some h
    exact ⟨List.mem_of_getElem? h1, h2⟩
  · rintro ⟨hm, rfl⟩
    obtain ⟨i, hi, he⟩ := List.getElem_of_mem hm
    have hg : (R.map (·.s))[i]? = some r.s := by rw [List.getElem?_map, List.getElem?_eq_getElem hi, he]; rfl
    have hp := hu.at hg
    have hh : hasR R r.s = true := by unfold hasR; rw [decide_eq_true_eq]; show (R.map (·.s))[cutI (R.map (·.s)) r.s]? = some r.s; rw [← hp]; exact hg
    unfold lookR
    rw [if_pos hh]
    show R[cutI (R.map (·.s)) r.s]? = some r
    rw [← hp, List.getElem?_eq_getElem hi, he]
theorem hasR_mem {R : List Rw} {s : Int} (hu : Up R) : hasR R s = true ↔ s ∈ R.map (·.s) := by
  constructor
  · intro h
    obtain ⟨r, hr⟩ := hasR_look h
    obtain ⟨h1, rfl⟩ := (lookR_mem hu).1 hr
    exact List.mem_map_of_mem h1
  · intro h
    obtain ⟨r, hr, rfl⟩ := List.mem_map.1 h
    exact (lookR_some ((lookR_mem hu).2 ⟨hr, rfl⟩)).2.2

def outI (n : Int) : Bool := decide (n < 1) || decide (n > 1099511627776)
/-- What a request is. -/
def kindI (R : List Rw) (s q : Int) : Int :=
  if outI s || outI q then 6 else
  match lookR R s with
  | some r => if q = r.m + 1 then 1 else if q > r.m + 1 then 4 else if q = r.m then 2 else 3
  | none => if q = 1 then (if R.length = 64 then 5 else 1) else 4
def ansR (R : List Rw) (s q : Int) : Res := if kindI R s q = 2 then ((lookR R s).map (·.r)).getD zeroR else zeroR
def errI (k : Int) : Int := if k = 1 then 0 else if k = 2 then 5 else if k = 5 then 6 else 1
def setR (R : List Rw) (w : Rw) : List Rw := R.take (posR R w.s) ++ [w] ++ R.drop (if hasR R w.s then posR R w.s + 1 else posR R w.s)
def putR (R : List Rw) (s q : Int) (r : Res) : List Rw := if kindI R s q = 1 then setR R ⟨s, q, r⟩ else R
def lastR (R : List Rw) (s : Int) : Int := ((lookR R s).map (·.m)).getD 0

/-- A row that may stand in a table. -/
def OkR (r : Rw) : Prop := 1 ≤ r.s ∧ r.s ≤ 1099511627776 ∧ 1 ≤ r.m ∧ r.m ≤ 1099511627776 ∧ r.r.vals.length * 8 ≤ 140737488355328
structure InvR (R : List Rw) : Prop where
  up : Up R
  len : R.length ≤ 64
  ok : ∀ r ∈ R, OkR r
theorem InvR.nil : InvR [] := ⟨List.Pairwise.nil, by simp, by simp⟩

theorem up_take_lt {R : List Rw} {s : Int} {r : Rw} (h : r ∈ R.take (posR R s)) : r.s < s := by
  obtain ⟨i, hi, he⟩ := List.getElem_of_mem h
  rw [List.length_take] at hi
  refine cutI_lt (L := R.map (·.s)) (i := i) (by unfold posR at hi; omega) ?_
  rw [List.getElem?_map, List.getElem?_eq_getElem (by omega)]
  rw [List.getElem_take] at he
  rw [← he]
  rfl
theorem up_drop_ge {R : List Rw} (hu : Up R) {s : Int} {r : Rw} (h : r ∈ R.drop (posR R s)) : s ≤ r.s := by
  obtain ⟨i, hi, he⟩ := List.getElem_of_mem h
  rw [List.length_drop] at hi
  rw [List.getElem_drop] at he
  have hg : (R.map (·.s))[posR R s + i]? = some r.s := by rw [List.getElem?_map, List.getElem?_eq_getElem (by omega), he]; rfl
  have h0 : (R.map (·.s))[posR R s]? = some (R[posR R s]'(by omega)).s := by rw [List.getElem?_map, List.getElem?_eq_getElem (by omega)]; rfl
  have hge := cutI_ge h0
  rcases Nat.eq_zero_or_pos i with rfl | hpos
  · rw [Nat.add_zero] at hg
    rw [hg] at h0
    simp only [Option.some.injEq] at h0
    omega
  · have := hu.get (by omega : posR R s < posR R s + i) h0 hg
    omega
theorem up_drop_gt {R : List Rw} (hu : Up R) {s : Int} {r : Rw} (h : r ∈ R.drop (if hasR R s then posR R s + 1 else posR R s)) : s < r.s := by
  split at h
  · rename_i hh
    obtain ⟨r0, hr0⟩ := hasR_look hh
    obtain ⟨h1, h2, _⟩ := lookR_some hr0
    obtain ⟨i, hi, he⟩ := List.getElem_of_mem h
    rw [List.length_drop] at hi
    rw [List.getElem_drop] at he
    have hg : (R.map (·.s))[posR R s + 1 + i]? = some r.s := by rw [List.getElem?_map, List.getElem?_eq_getElem (by omega), he]; rfl
    have h0 : (R.map (·.s))[posR R s]? = some s := by rw [List.getElem?_map, h1, ← h2]; rfl
    exact hu.get (by omega : posR R s < posR R s + 1 + i) h0 hg
  · rename_i hh
    have hge := up_drop_ge hu h
    have hne : r.s ≠ s := fun e => hh ((hasR_mem hu).2 (List.mem_map.2 ⟨r, List.mem_of_mem_drop h, e⟩))
    omega

theorem setR_mem {R : List Rw} {w r : Rw} : r ∈ setR R w → r ∈ R ∨ r = w := by
  unfold setR
  simp only [List.mem_append, List.mem_singleton]
  rintro ((h | h) | h)
  · exact .inl (List.mem_of_mem_take h)
  · exact .inr h
  · exact .inl (List.mem_of_mem_drop h)
theorem setR_up {R : List Rw} (hu : Up R) (w : Rw) : Up (setR R w) := by
  have hu' : R.Pairwise (fun a b => a.s < b.s) := List.pairwise_map.1 hu
  unfold Up UpI setR
  rw [List.pairwise_map, List.pairwise_append, List.pairwise_append]
  refine ⟨⟨hu'.sublist (List.take_sublist _ _), by simp, ?_⟩, hu'.sublist (List.drop_sublist _ _), ?_⟩
  · intro a ha b hb
    simp only [List.mem_singleton] at hb
    subst hb
    exact up_take_lt ha
  · intro a ha b hb
    have h2 := up_drop_gt hu hb
    simp only [List.mem_append, List.mem_singleton] at ha
    rcases ha with ha | rfl
    · have := up_take_lt ha
      omega
    · exact h2
theorem setR_len {R : List Rw} (w : Rw) : (setR R w).length = if hasR R w.s then R.length else R.length + 1 := by
  have hp := posR_le R w.s
  unfold setR
  simp only [List.length_append, List.length_take, List.length_drop, List.length_singleton]
  split
  · rename_i hh
    obtain ⟨r0, hr0⟩ := hasR_look hh
    have := (List.getElem?_eq_some_iff.1 (lookR_some hr0).1).1
    rw [Nat.min_eq_left (by omega)]
    omega
  · rw [Nat.min_eq_left (by omega)]
    omega
theorem setR_w {R : List Rw} (w : Rw) : w ∈ setR R w := by simp [setR]
theorem setR_keeps {R : List Rw} (hu : Up R) {w r : Rw} (hr : r ∈ R) (hne : r.s ≠ w.s) : r ∈ setR R w := by
  unfold setR
  simp only [List.mem_append, List.mem_singleton]
  rw [← List.take_append_drop (posR R w.s) R, List.mem_append] at hr
  rcases hr with hr | hr
  · exact .inl (.inl hr)
  · refine .inr ?_
    split
    · rename_i hh
      obtain ⟨r0, hr0⟩ := hasR_look hh
      obtain ⟨h1, h2, _⟩ := lookR_some hr0
      obtain ⟨hlt, he⟩ := List.getElem?_eq_some_iff.1 h1
      rw [List.drop_eq_getElem_cons hlt, he] at hr
      rcases List.mem_cons.1 hr with rfl | hr
      · exact absurd h2 hne
      · exact hr
    · exact hr
theorem lookR_set {R : List Rw} (hu : Up R) (w : Rw) (s : Int) : lookR (setR R w) s = if w.s = s then some w else lookR R s := by
  split
  · rename_i h
    exact (lookR_mem (setR_up hu w)).2 ⟨setR_w w, h⟩
  · rename_i h
    cases hl : lookR R s with
    | some r =>
      obtain ⟨h1, h2⟩ := (lookR_mem hu).1 hl
      exact (lookR_mem (setR_up hu w)).2 ⟨setR_keeps hu h1 (by omega), h2⟩
    | none =>
      rw [lookR_none] at hl ⊢
      cases hh : hasR (setR R w) s with
      | false => rfl
      | true =>
        obtain ⟨r, hr, he⟩ := List.mem_map.1 ((hasR_mem (setR_up hu w)).1 hh)
        rcases setR_mem hr with hr | rfl
        · rw [(hasR_mem hu).2 (List.mem_map.2 ⟨r, hr, he⟩)] at hl
          cases hl
        · exact absurd he h

theorem kind_new {R : List Rw} {s q : Int} (h : kindI R s q = 1) : outI s = false ∧ outI q = false ∧ ((∃ r, lookR R s = some r ∧ q = r.m + 1) ∨ (lookR R s = none ∧ q = 1 ∧ R.length ≠ 64)) := by
  unfold kindI at h
  split at h
  · omega
  · rename_i ho
    simp only [Bool.or_eq_true, not_or, Bool.not_eq_true] at ho
    refine ⟨ho.1, ho.2, ?_⟩
    split at h
    · rename_i r hr
      refine .inl ⟨r, hr, ?_⟩
      split at h
      · assumption
      · split at h
        · omega
        · split at h <;> omega
    · rename_i hn
      refine .inr ⟨hn, ?_⟩
      split at h
      · split at h
        · omega
        · exact ⟨by assumption, by assumption⟩
      · omega
theorem outI_false {n : Int} (h : outI n = false) : 1 ≤ n ∧ n ≤ 1099511627776 := by
  simp only [outI, Bool.or_eq_false_iff, decide_eq_false_iff_not] at h
  omega
theorem InvR.set {R : List Rw} (h : InvR R) {w : Rw} (hw : OkR w) (hroom : hasR R w.s = true ∨ R.length < 64) : InvR (setR R w) := by
  refine ⟨setR_up h.up w, ?_, fun r hr => ?_⟩
  · rw [setR_len]
    have := h.len
    split
    · exact this
    · rcases hroom with hh | hh
      · contradiction
      · omega
  · rcases setR_mem hr with hr | rfl
    · exact h.ok r hr
    · exact hw
theorem InvR.put {R : List Rw} (h : InvR R) (s q : Int) {r : Res} (hr : r.vals.length * 8 ≤ 140737488355328) : InvR (putR R s q r) := by
  unfold putR
  split
  · rename_i hk
    obtain ⟨h1, h2, h3⟩ := kind_new hk
    have := outI_false h1
    have := outI_false h2
    refine h.set (w := ⟨s, q, r⟩) ⟨by simp only; omega, by simp only; omega, by simp only; omega, by simp only; omega, hr⟩ ?_
    rcases h3 with ⟨r0, hr0, _⟩ | ⟨_, _, h4⟩
    · exact .inl (lookR_some hr0).2.2
    · have := h.len
      exact .inr (by omega)
  · exact h
end Go.Proofs.Ytcmdbaafnbdpbaa
