/- Who asks for which locks: plain facts. -/
import Derived.Test.YtdepohepogocgaaKeysP
set_option linter.unusedVariables false
set_option linter.unusedSimpArgs false
namespace Go.Proofs.Ytdepohepogocgaa
open Go hiding Expr

structure Ix where
  s : Int
  p : Int
deriving DecidableEq
structure Lk where
  k : K
  x : Bool
deriving DecidableEq
structure Wt where
  t : Ix
  x : Bool
  h : Bool
deriving DecidableEq
abbrev Row := Ix × List Lk
abbrev St := List Row
abbrev Qu := List (Ix × Bool)

def lockOf (l : List Lk) (k : K) : Option Bool := (l.find? (fun y => decide (y.k = k))).map (·.x)
def entry (k : K) (r : Row) : Option (Ix × Bool) := (lockOf r.2 k).map (fun x => (r.1, x))
def queueOf (A : St) (k : K) : Qu := A.filterMap (entry k)
def ids (A : St) : List Ix := A.map (·.1)
def Srt (w : List Lk) : Prop := w.Pairwise (fun a b => ltK a.k b.k = true)

/-- The loop of the code that asks whether t has the lock. -/
def holdsGo (t : Ix) : Bool → Qu → Bool
  | _, [] => false
  | first, p :: r => if p.1 = t then first || !p.2 else if p.2 then false else holdsGo t false r
def holdsQ (q : Qu) (t : Ix) : Bool := holdsGo t true q
def hasGo (q : Qu) (mine : Bool) : Bool := q.all (fun p => !p.2 && !mine)
def heldGo : Bool → Bool → Qu → List Wt
  | _, _, [] => []
  | f, sh, p :: r => ⟨p.1, p.2, f || (sh && !p.2)⟩ :: heldGo false (sh && !p.2) r
def queueA (A : St) (k : K) : List Wt := heldGo true true (queueOf A k)

def wantOf (A : St) (t : Ix) : Option (List Lk) := (A.find? (fun r => decide (r.1 = t))).map (·.2)
def waitsL (A : St) (t : Ix) (w : List Lk) : List K := (w.filter (fun y => !holdsQ (queueOf A y.k) t)).map (·.k)
def waitsA (A : St) (t : Ix) : List K := waitsL A t ((wantOf A t).getD [])
def readyA (A : St) (t : Ix) : Bool := (wantOf A t).isSome && (waitsA A t).isEmpty
def allA (A : St) : List Ix := (ids A).filter (readyA A)
def relA (A : St) (t : Ix) : St := A.filter (fun r => !decide (r.1 = t))
def relOut (A : St) (t : Ix) : List Ix := (allA (relA A t)).filter (fun u => !decide (u ∈ allA A))
def keysA (A : St) : List K := KS (A.flatMap (fun r => r.2.map (·.k)))
def srtB : List Lk → Bool
  | a :: b :: r => ltK a.k b.k && srtB (b :: r)
  | _ => true

/-- What holds of all who have asked. -/
structure Good (A : St) : Prop where
  nd : (ids A).Nodup
  srt : ∀ r ∈ A, Srt r.2

/-! ### Locks of one -/
section
variable {w : List Lk} {y : Lk} {k : K}
theorem ltK_ne {a b : K} (h : ltK a b = true) : a ≠ b := fun e => by subst e; rw [swoK.irrefl] at h; cases h
theorem srt_nodup (h : Srt w) : (w.map (·.k)).Nodup := by
  rw [List.nodup_iff_pairwise_ne, List.pairwise_map]
  exact h.imp (fun hab => ltK_ne hab)
theorem lockOf_none : lockOf w k = none ↔ ∀ y ∈ w, y.k ≠ k := by
  unfold lockOf
  rw [Option.map_eq_none_iff, List.find?_eq_none]
  simp
theorem lockOf_mem {x : Bool} (h : lockOf w k = some x) : ⟨k, x⟩ ∈ w := by
  unfold lockOf at h
  obtain ⟨y, hy, rfl⟩ := Option.map_eq_some_iff.1 h
  have h1 := List.find?_some hy
  have h2 := List.mem_of_find?_eq_some hy
  simp only [decide_eq_true_eq] at h1
  cases y
  simp only at h1
  subst h1
  exact h2
theorem lockOf_of (h : Srt w) (hy : y ∈ w) : lockOf w y.k = some y.x := by
  induction w with
  | nil => cases hy
  | cons a r ih =>
    unfold lockOf
    rw [List.find?_cons]
    rcases List.mem_cons.1 hy with rfl | hy
    · simp
    · have hne : a.k ≠ y.k := ltK_ne ((List.pairwise_cons.1 h).1 y hy)
      simp only [hne, decide_false]
      exact ih (List.pairwise_cons.1 h).2 hy
theorem lockOf_snoc (h : Srt (w ++ [y])) : lockOf (w ++ [y]) k = if y.k = k then some y.x else lockOf w k := by
  unfold lockOf
  rw [List.find?_append]
  by_cases he : y.k = k
  · have : w.find? (fun z => decide (z.k = k)) = none := by
      rw [List.find?_eq_none]
      intro z hz
      have := (List.pairwise_append.1 h).2.2 z hz y (by simp)
      have := ltK_ne this
      simp
      rw [← he]
      exact this
    rw [this]
    simp [he]
  · simp [he]
theorem srtB_iff : srtB w = true ↔ Srt w := by
  induction w with
  | nil => simp [srtB, Srt]
  | cons a r ih =>
    cases r with
    | nil => simp [srtB, Srt]
    | cons b r =>
      simp only [srtB, Bool.and_eq_true, ih]
      unfold Srt
      rw [List.pairwise_cons (a := a)]
      constructor
      · rintro ⟨h1, h2⟩
        refine ⟨fun c hc => ?_, h2⟩
        rcases List.mem_cons.1 hc with rfl | hc
        · exact h1
        · exact swoK.trans _ _ _ h1 ((List.pairwise_cons.1 h2).1 c hc)
      · rintro ⟨h1, h2⟩
        exact ⟨h1 b (by simp), h2⟩
theorem srtB_at {i : Nat} {a b : Lk} (h : srtB w = true) (ha : w[i]? = some a) (hb : w[i + 1]? = some b) : ltK a.k b.k = true := by
  have h := srtB_iff.1 h
  obtain ⟨h1, rfl⟩ := List.getElem?_eq_some_iff.1 ha
  obtain ⟨h2, rfl⟩ := List.getElem?_eq_some_iff.1 hb
  exact List.pairwise_iff_getElem.1 h i (i + 1) h1 h2 (by omega)
theorem srtB_step {i : Nat} {a b : Lk} (ha : w[i]? = some a) (hb : w[i + 1]? = some b) : srtB (w.take (i + 2)) = (srtB (w.take (i + 1)) && ltK a.k b.k) := by
  induction w generalizing i with
  | nil => simp at ha
  | cons c r ih =>
    cases i with
    | zero =>
      cases r with
      | nil => simp at hb
      | cons d r =>
        simp at ha hb
        subst ha hb
        simp [srtB]
    | succ i =>
      cases r with
      | nil => simp at ha
      | cons d r =>
        have := ih (i := i) (by simpa using ha) (by simpa using hb)
        simp only [List.take_succ_cons] at this ⊢
        simp only [srtB, this, Bool.and_assoc]
end

/-! ### Queues -/
section
variable {A B : St} {t : Ix} {k : K} {w : List Lk} {y : Lk}
theorem queue_append : queueOf (A ++ B) k = queueOf A k ++ queueOf B k := by simp [queueOf, List.filterMap_append]
theorem queue_ids : ∀ p ∈ queueOf A k, p.1 ∈ ids A := by
  intro p hp
  obtain ⟨r, hr, he⟩ := List.mem_filterMap.1 hp
  unfold entry at he
  obtain ⟨x, _, rfl⟩ := Option.map_eq_some_iff.1 he
  exact List.mem_map.2 ⟨r, hr, rfl⟩
theorem queue_one : queueOf [(t, w)] k = match lockOf w k with | some x => [(t, x)] | none => [] := by
  unfold queueOf
  simp only [List.filterMap_cons, List.filterMap_nil, entry]
  cases lockOf w k <;> rfl
/-- One lock more asked for. -/
theorem queue_snoc (h : Srt (w ++ [y])) : queueOf (A ++ [(t, w ++ [y])]) k = if y.k = k then queueOf A k ++ [(t, y.x)] else queueOf (A ++ [(t, w)]) k := by
  rw [queue_append, queue_append, queue_one, queue_one, lockOf_snoc h]
  by_cases he : y.k = k
  · rw [if_pos he, if_pos he]
  · rw [if_neg he, if_neg he]
theorem queue_nil : queueOf (A ++ [(t, [])]) k = queueOf A k := by
  rw [queue_append, queue_one]
  simp [lockOf]
theorem queue_at (h : Srt (w ++ [y])) : queueOf (A ++ [(t, w)]) y.k = queueOf A y.k := by
  rw [queue_append, queue_one]
  have : lockOf w y.k = none := by
    rw [lockOf_none]
    intro z hz
    exact ltK_ne ((List.pairwise_append.1 h).2.2 z hz y (by simp))
  rw [this]
  simp
theorem queue_rel : queueOf (relA A t) k = (queueOf A k).filter (fun p => !decide (p.1 = t)) := by
  unfold queueOf relA
  induction A with
  | nil => rfl
  | cons r A ih =>
    by_cases h : r.1 = t
    · rw [List.filter_cons_of_neg (by simp [h]), ih, List.filterMap_cons]
      unfold entry
      cases lockOf r.2 k with
      | none => rfl
      | some x => simp [h]
    · rw [List.filter_cons_of_pos (by simp [h]), List.filterMap_cons, List.filterMap_cons, ih]
      unfold entry
      cases lockOf r.2 k with
      | none => rfl
      | some x => simp [h]
theorem queue_keep (h : ∀ r ∈ A, r.1 = t → lockOf r.2 k = none) : queueOf (relA A t) k = queueOf A k := by
  rw [queue_rel, List.filter_eq_self]
  intro p hp
  obtain ⟨r, hr, he⟩ := List.mem_filterMap.1 hp
  unfold entry at he
  obtain ⟨x, hx, rfl⟩ := Option.map_eq_some_iff.1 he
  simp
  intro e
  rw [h r hr e] at hx
  cases hx
theorem queue_ne {x : Bool} (hr : (t, w) ∈ A) (hx : lockOf w k = some x) : queueOf A k ≠ [] := by
  intro h
  have : (t, x) ∈ queueOf A k := List.mem_filterMap.2 ⟨(t, w), hr, by unfold entry; rw [hx]; rfl⟩
  rw [h] at this
  cases this
theorem mem_ids {w : List Lk} (h : wantOf A t = some w) : (t, w) ∈ A := by
  unfold wantOf at h
  obtain ⟨r, hr, rfl⟩ := Option.map_eq_some_iff.1 h
  have h1 := List.find?_some hr
  have h2 := List.mem_of_find?_eq_some hr
  simp only [decide_eq_true_eq] at h1
  rw [← h1]
  exact h2
theorem want_none : wantOf A t = none ↔ t ∉ ids A := by
  unfold wantOf ids
  rw [Option.map_eq_none_iff, List.find?_eq_none]
  constructor
  · intro h hm
    obtain ⟨r, hr, he⟩ := List.mem_map.1 hm
    exact h r hr (by simpa using he)
  · intro h r hr he
    exact h (List.mem_map.2 ⟨r, hr, by simpa using he⟩)
theorem want_of (h : Good A) (hm : (t, w) ∈ A) : wantOf A t = some w := by
  cases hw : wantOf A t with
  | none => exact absurd (List.mem_map.2 ⟨(t, w), hm, rfl⟩) (want_none.1 hw)
  | some v =>
    have h1 := mem_ids hw
    have h2 := h.nd
    unfold ids at h2
    rw [List.nodup_iff_pairwise_ne, List.pairwise_map] at h2
    obtain ⟨i, hi, he⟩ := List.getElem_of_mem hm
    obtain ⟨j, hj, he'⟩ := List.getElem_of_mem h1
    have h3 := List.pairwise_iff_getElem.1 h2
    rcases Nat.lt_trichotomy i j with hl | hl | hl
    · have := h3 i j hi hj hl; rw [he, he'] at this; exact absurd rfl this
    · subst hl; rw [he] at he'; cases he'; rfl
    · have := h3 j i hj hi hl; rw [he, he'] at this; exact absurd rfl this
theorem Good.nil : Good [] := ⟨List.nodup_nil, fun r hr => by cases hr⟩
theorem Good.snoc (h : Good A) (ht : t ∉ ids A) (hw : Srt w) : Good (A ++ [(t, w)]) := by
  refine ⟨?_, fun r hr => ?_⟩
  · show (List.map _ _).Nodup
    rw [List.map_append, List.nodup_append]
    exact ⟨h.nd, by simp, fun a ha b hb e => by simp at hb; subst hb; subst e; exact ht ha⟩
  · rcases List.mem_append.1 hr with hr | hr
    · exact h.srt r hr
    · simp at hr; subst hr; exact hw
theorem Good.rel (h : Good A) : Good (relA A t) :=
  ⟨(List.Sublist.map _ List.filter_sublist).nodup h.nd, fun r hr => h.srt r (List.mem_filter.1 hr).1⟩
theorem Good.pre (h : Good (A ++ B)) : Good A := by
  refine ⟨?_, fun r hr => h.srt r (by simp [hr])⟩
  have : (List.map _ _).Nodup := h.nd
  rw [List.map_append] at this
  exact (List.nodup_append.1 this).1
end

/-! ### The code's questions and the document's are one -/
section
variable {A B : St} {t : Ix} {k : K} {w : List Lk} {x : Bool}
theorem holdsGo_split {q1 q2 : Qu} (h : ∀ p ∈ q1, p.1 ≠ t) : ∀ f, holdsGo t f (q1 ++ (t, x) :: q2) = if q1 = [] then (f || !x) else (q1.all (fun p => !p.2) && !x) := by
  induction q1 with
  | nil => intro f; simp [holdsGo]
  | cons p r ih =>
    intro f
    have hp := h p (by simp)
    have := ih (fun z hz => h z (by simp [hz])) false
    simp only [List.cons_append, holdsGo, if_neg hp, this]
    obtain ⟨u, b⟩ := p
    cases b with
    | true => simp
    | false => cases r <;> simp
theorem hasGo_eq {q : Qu} {mine : Bool} : hasGo q mine = if q = [] then true else (q.all (fun p => !p.2) && !mine) := by
  unfold hasGo
  cases q with
  | nil => rfl
  | cons p r =>
    simp only [reduceCtorEq, if_false]
    cases mine with
    | true => simp
    | false => simp
theorem holds_has (h : Good (A ++ (t, w) :: B)) (hx : lockOf w k = some x) : holdsQ (queueOf (A ++ (t, w) :: B) k) t = hasGo (queueOf A k) x := by
  have hq : queueOf (A ++ (t, w) :: B) k = queueOf A k ++ (t, x) :: queueOf B k := by
    rw [queue_append]
    congr 1
    show List.filterMap (entry k) ((t, w) :: B) = _
    rw [List.filterMap_cons]
    unfold entry
    rw [hx]
    rfl
  have hno : ∀ p ∈ queueOf A k, p.1 ≠ t := by
    intro p hp e
    have h1 := queue_ids p hp
    rw [e] at h1
    have h2 := h.nd
    unfold ids at h2 h1
    rw [List.map_append, List.nodup_append] at h2
    exact h2.2.2 t h1 t (by simp) rfl
  unfold holdsQ
  rw [hq, holdsGo_split hno, hasGo_eq]
  simp
theorem heldGo_append {q1 q2 : Qu} : ∀ f sh, heldGo f sh (q1 ++ q2) = heldGo f sh q1 ++ heldGo (f && decide (q1 = [])) (sh && q1.all (fun p => !p.2)) q2 := by
  induction q1 with
  | nil => intro f sh; simp [heldGo]
  | cons p r ih => intro f sh; simp [heldGo, ih, Bool.and_assoc]
theorem heldGo_snoc {q : Qu} {p : Ix × Bool} : heldGo true true (q ++ [p]) = heldGo true true q ++ [⟨p.1, p.2, hasGo q p.2⟩] := by
  rw [heldGo_append, hasGo_eq]
  cases q <;> simp [heldGo]
theorem heldGo_len (q : Qu) : ∀ f sh, (heldGo f sh q).length = q.length := by
  induction q with
  | nil => intro f sh; rfl
  | cons p r ih => intro f sh; simp [heldGo, ih]
theorem relA_split (h : Good (A ++ (t, w) :: B)) : relA (A ++ (t, w) :: B) t = A ++ B := by
  have h2 := h.nd
  unfold ids at h2
  rw [List.map_append, List.nodup_append, List.map_cons, List.nodup_cons] at h2
  unfold relA
  rw [List.filter_append, List.filter_cons_of_neg (by simp)]
  congr 1
  · rw [List.filter_eq_self]
    intro r hr
    simp
    intro e
    exact h2.2.2 r.1 (List.mem_map.2 ⟨r, hr, rfl⟩) t (by simp) e
  · rw [List.filter_eq_self]
    intro r hr
    simp
    intro e
    exact h2.2.1.1 (List.mem_map.2 ⟨r, hr, e⟩)
theorem rel_none (h : t ∉ ids A) : relA A t = A := by
  unfold relA
  rw [List.filter_eq_self]
  intro r hr
  simp
  intro e
  exact h (List.mem_map.2 ⟨r, hr, e⟩)
end
end Go.Proofs.Ytdepohepogocgaa
