/- Who is ready, and that it stays so: plain facts. -/
import Derived.Test.YtdepohepogocgaaLockP
set_option linter.unusedVariables false
set_option linter.unusedSimpArgs false
namespace Go.Proofs.Ytdepohepogocgaa
open Go hiding Expr

theorem holdsGo_rel {t x : Ix} (hne : t ≠ x) : ∀ (q : Qu) (f f' : Bool), holdsGo t f q = true → (f = true → f' = true) → holdsGo t f' (q.filter (fun p => !decide (p.1 = x))) = true := by
  intro q
  induction q with
  | nil => intro f f' h; simp [holdsGo] at h
  | cons p r ih =>
    intro f f' h hf
    unfold holdsGo at h
    by_cases hp : p.1 = t
    · rw [if_pos hp] at h
      have hpx : ¬ p.1 = x := fun e => hne (hp ▸ e)
      rw [List.filter_cons_of_pos (by simpa using hpx)]
      unfold holdsGo
      rw [if_pos hp]
      cases f with
      | true => rw [hf rfl]; rfl
      | false => rw [Bool.false_or] at h; rw [h]; simp
    · rw [if_neg hp] at h
      cases hb : p.2 with
      | true => rw [hb] at h; simp at h
      | false =>
        rw [hb] at h
        simp only [Bool.false_eq_true, if_false] at h
        by_cases hpx : p.1 = x
        · rw [List.filter_cons_of_neg (by simpa using hpx)]
          exact ih false f' h (by simp)
        · rw [List.filter_cons_of_pos (by simpa using hpx)]
          unfold holdsGo
          rw [if_neg hp, hb]
          simp only [Bool.false_eq_true, if_false]
          exact ih false false h (by simp)
theorem want_rel_ne {A : St} {t x : Ix} (hne : t ≠ x) : wantOf (relA A x) t = wantOf A t := by
  unfold wantOf relA
  rw [List.find?_filter]
  congr 1
  congr 1
  funext r
  by_cases h : r.1 = t
  · have : ¬ r.1 = x := fun e => hne (h ▸ e)
    simp [h, this, hne]
  · simp [h]
theorem ready_rel {A : St} {t x : Ix} (hne : t ≠ x) (h : readyA A t = true) : readyA (relA A x) t = true := by
  unfold readyA waitsA at *
  rw [want_rel_ne hne]
  rw [Bool.and_eq_true] at h ⊢
  refine ⟨h.1, ?_⟩
  have h2 := h.2
  unfold waitsL at *
  rw [List.isEmpty_iff, List.map_eq_nil_iff, List.filter_eq_nil_iff] at h2 ⊢
  intro y hy
  have := h2 y hy
  have h3 : holdsQ (queueOf A y.k) t = true := by simpa using this
  have h4 := holdsGo_rel hne _ _ true h3 (fun h => h)
  have : holdsQ (queueOf (relA A x) y.k) t = true := by
    unfold holdsQ
    rw [queue_rel]
    exact h4
  rw [this]
  simp
theorem ready_first {t : Ix} {w : List Lk} {B : St} (h : Good ((t, w) :: B)) : readyA ((t, w) :: B) t = true := by
  have hw : wantOf ((t, w) :: B) t = some w := by unfold wantOf; simp
  unfold readyA waitsA
  rw [hw]
  simp only [Option.isSome_some, Option.getD_some, Bool.true_and]
  unfold waitsL
  rw [List.isEmpty_iff, List.map_eq_nil_iff, List.filter_eq_nil_iff]
  intro y hy
  have hx := lockOf_of (h.srt (t, w) (by simp)) hy
  have := holds_has (A := []) h hx
  rw [List.nil_append] at this
  rw [this]
  simp [queueOf, hasGo]
theorem allA_mem {A : St} {t : Ix} : t ∈ allA A ↔ t ∈ ids A ∧ readyA A t = true := List.mem_filter
theorem ids_rel_mem {A : St} {t x : Ix} : t ∈ ids (relA A x) ↔ t ∈ ids A ∧ t ≠ x := by
  unfold ids relA
  simp only [List.mem_map, List.mem_filter]
  constructor
  · rintro ⟨r, ⟨h1, h2⟩, rfl⟩
    exact ⟨⟨r, h1, rfl⟩, by simpa using h2⟩
  · rintro ⟨⟨r, h1, rfl⟩, h2⟩
    exact ⟨r, ⟨h1, by simpa using h2⟩, rfl⟩
/-- The list of the ready ones, in whatever order. -/
def IsReady (A : St) (R : List Ix) : Prop := R.Nodup ∧ ∀ t, t ∈ R ↔ t ∈ allA A
theorem IsReady.init {A : St} (h : Good A) : IsReady A (allA A) := ⟨List.Sublist.nodup List.filter_sublist h.nd, fun t => Iff.rfl⟩
def cutI (R : List Ix) (k : Nat) : List Ix := R.take k ++ R.drop (k + 1)
theorem cutI_mem {R : List Ix} {k : Nat} {x t : Ix} (hn : R.Nodup) (hx : R[k]? = some x) : t ∈ cutI R k ↔ t ∈ R ∧ t ≠ x := by
  obtain ⟨h1, rfl⟩ := List.getElem?_eq_some_iff.1 hx
  have e : R = R.take k ++ R[k] :: R.drop (k + 1) := by rw [List.getElem_cons_drop, List.take_append_drop]
  have hn2 := hn
  rw [e, List.nodup_append, List.nodup_cons] at hn2
  have hm : t ∈ R ↔ t ∈ R.take k ∨ t = R[k] ∨ t ∈ R.drop (k + 1) := by
    conv => lhs; rw [e]
    simp only [List.mem_append, List.mem_cons]
  unfold cutI
  rw [List.mem_append, hm]
  constructor
  · rintro (h | h)
    · refine ⟨.inl h, fun e => ?_⟩
      exact hn2.2.2 t h _ List.mem_cons_self e
    · refine ⟨.inr (.inr h), fun e => ?_⟩
      rw [e] at h
      exact hn2.2.1.1 h
  · rintro ⟨h | h | h, hne⟩
    · exact .inl h
    · exact absurd h hne
    · exact .inr h
theorem cutI_nodup {R : List Ix} {k : Nat} (hn : R.Nodup) : (cutI R k).Nodup := by
  refine List.Sublist.nodup ?_ hn
  have h1 : R = R.take k ++ R.drop k := (List.take_append_drop k R).symm
  conv => rhs; rw [h1]
  unfold cutI
  refine List.Sublist.append_left ?_ _
  rw [show R.drop (k + 1) = (R.drop k).drop 1 by rw [List.drop_drop]]
  exact List.drop_sublist ..
theorem IsReady.step {A : St} {R : List Ix} {k : Nat} {x : Ix} (hg : Good A) (h : IsReady A R) (hx : R[k]? = some x) : IsReady (relA A x) (cutI R k ++ relOut A x) := by
  have hxR : x ∈ allA A := (h.2 x).1 (List.mem_of_getElem? hx)
  have hout : ∀ t, t ∈ relOut A x ↔ t ∈ allA (relA A x) ∧ t ∉ allA A := fun t => by
    unfold relOut
    rw [List.mem_filter]
    simp
  refine ⟨?_, fun t => ?_⟩
  · rw [List.nodup_append]
    refine ⟨cutI_nodup h.1, List.Sublist.nodup List.filter_sublist (List.Sublist.nodup List.filter_sublist hg.rel.nd), fun a ha b hb e => ?_⟩
    subst e
    exact ((hout a).1 hb).2 ((h.2 a).1 ((cutI_mem h.1 hx).1 ha).1)
  · rw [List.mem_append, cutI_mem h.1 hx, hout, h.2]
    constructor
    · rintro (⟨h1, h2⟩ | ⟨h1, _⟩)
      · rw [allA_mem] at h1 ⊢
        exact ⟨ids_rel_mem.2 ⟨h1.1, h2⟩, ready_rel h2 h1.2⟩
      · exact h1
    · intro h1
      by_cases h2 : t ∈ allA A
      · exact .inl ⟨h2, (ids_rel_mem.1 (allA_mem.1 h1).1).2⟩
      · exact .inr ⟨h1, h2⟩
end Go.Proofs.Ytdepohepogocgaa
