/- Keys in order, each once: plain facts. -/
import Derived.Test.YtpjcfnnnciknmaaSortD
set_option linter.unusedVariables false
set_option linter.unusedSimpArgs false
namespace Go.Proofs.Ytpjcfnnnciknmaa
open Go hiding Expr

/-- Neighbours that are the same, once; p: what stood ahead. -/
def compL : Option K → List K → List K
  | _, [] => []
  | p, x :: r => if p = some x then compL (some x) r else x :: compL (some x) r
def lastOf : Option K → List K → Option K
  | p, [] => p
  | _, x :: r => lastOf (some x) r
theorem compL_snoc (l : List K) (x : K) : ∀ p, compL p (l ++ [x]) = compL p l ++ (if lastOf p l = some x then [] else [x]) := by
  induction l with
  | nil =>
    intro p
    by_cases h : p = some x <;> simp [compL, lastOf, h]
  | cons a r ih =>
    intro p
    by_cases h : p = some a <;> simp [compL, lastOf, h, ih] <;> rfl
theorem lastOf_snoc (l : List K) (x : K) : ∀ p, lastOf p (l ++ [x]) = some x := by
  induction l with
  | nil => intro p; rfl
  | cons a r ih => intro p; exact ih _
theorem lastOf_take {l : List K} {i : Nat} {x : K} (h : l[i]? = some x) : lastOf none (l.take (i + 1)) = some x := by
  rw [List.take_add_one, h]
  exact lastOf_snoc _ _ _
theorem compL_step {l : List K} {i : Nat} {x y : K} (hx : l[i]? = some x) (hy : l[i + 1]? = some y) : compL none (l.take (i + 2)) = compL none (l.take (i + 1)) ++ (if x = y then [] else [y]) := by
  rw [List.take_add_one (i := i + 1), hy, Option.toList_some, compL_snoc, lastOf_take hx]
  simp
theorem compL_len (l : List K) : ∀ p, (compL p l).length ≤ l.length := by
  induction l with
  | nil => intro p; simp [compL]
  | cons a r ih => intro p; have := ih (some a); simp only [compL]; split <;> simp <;> omega
theorem compL_mem (l : List K) : ∀ (p : Option K) (x : K), (x ∈ compL p l → x ∈ l) ∧ (x ∈ l → p = some x ∨ x ∈ compL p l) := by
  induction l with
  | nil => intro p x; simp [compL]
  | cons a r ih =>
    intro p x
    obtain ⟨h1, h2⟩ := ih (some a) x
    simp only [compL]
    split
    · rename_i hp
      refine ⟨fun h => by simp [h1 h], fun h => ?_⟩
      rcases List.mem_cons.1 h with rfl | h
      · exact .inl hp
      · rcases h2 h with h | h
        · simp only [Option.some.injEq] at h; subst h; exact .inl hp
        · exact .inr h
    · rename_i hp
      refine ⟨fun h => ?_, fun h => ?_⟩
      · rcases List.mem_cons.1 h with rfl | h
        · simp
        · simp [h1 h]
      · rcases List.mem_cons.1 h with rfl | h
        · right; simp
        · rcases h2 h with h | h
          · simp only [Option.some.injEq] at h; subst h; right; simp
          · right; simp [h]

abbrev Rising (l : List K) : Prop := l.Pairwise (fun a b => ltK a b = true)
theorem leK_iff (a b : K) : leK a b = true ↔ ltK b a = false := by unfold leK; simp
theorem lt_of_le_ne {a b : K} (h : leK a b = true) (hne : a ≠ b) : ltK a b = true := by
  cases hc : ltK a b with
  | true => rfl
  | false => exact absurd (ltK_eq hc ((leK_iff a b).1 h)) hne
theorem compL_rising (l : List K) : ∀ (p : Option K), l.Pairwise (fun a b => leK a b = true) → (∀ q, p = some q → ∀ x ∈ l, leK q x = true) → Rising (compL p l) ∧ ∀ q, p = some q → ∀ x ∈ compL p l, ltK q x = true := by
  induction l with
  | nil => intro p _ _; exact ⟨List.Pairwise.nil, by simp [compL]⟩
  | cons a r ih =>
    intro p hp hq
    obtain ⟨ha, hr⟩ := List.pairwise_cons.1 hp
    obtain ⟨h1, h2⟩ := ih (some a) hr (fun q hq x hx => by simp only [Option.some.injEq] at hq; subst hq; exact ha x hx)
    simp only [compL]
    split
    · rename_i hpa
      refine ⟨h1, fun q hq' x hx => ?_⟩
      rw [hpa] at hq'
      exact h2 q hq' x hx
    · rename_i hpa
      refine ⟨List.pairwise_cons.2 ⟨fun x hx => h2 a rfl x hx, h1⟩, fun q hq' x hx => ?_⟩
      have hqa : ltK q a = true := lt_of_le_ne (hq q hq' a (by simp)) (fun e => hpa (by rw [hq', e]))
      rcases List.mem_cons.1 hx with rfl | hx
      · exact hqa
      · exact swoK.trans _ _ _ hqa (h2 a rfl x hx)

/-- The keys of a list, rising, each once. -/
def KS (l : List K) : List K := compL none (l.mergeSort leK)
theorem sorted_le (l : List K) : (l.mergeSort leK).Pairwise (fun a b => leK a b = true) := by
  refine List.pairwise_mergeSort (le := leK) ?_ ?_ l
  · intro a b c h1 h2
    rw [leK_iff] at *
    exact swoK.ntrans _ _ _ h2 h1
  · intro a b
    unfold leK
    cases h : ltK b a with
    | false => rfl
    | true => rw [Sort.SWO.asymm swoK h]; rfl
theorem KS_rising (l : List K) : Rising (KS l) := (compL_rising _ none (sorted_le l) (by simp)).1
theorem KS_mem (l : List K) (x : K) : x ∈ KS l ↔ x ∈ l := by
  have h := compL_mem (l.mergeSort leK) none x
  have hm := (List.mergeSort_perm l leK).mem_iff (a := x)
  constructor
  · intro hx; exact hm.1 (h.1 hx)
  · intro hx
    rcases h.2 (hm.2 hx) with h | h
    · cases h
    · exact h
theorem KS_len (l : List K) : (KS l).length ≤ l.length := by
  have := compL_len (l.mergeSort leK) none
  rw [List.length_mergeSort] at this
  exact this
theorem rising_nodup {l : List K} (h : Rising l) : l.Nodup := h.imp (fun hab e => by subst e; rw [swoK.irrefl] at hab; cases hab)
/-- Two rising lists of the same keys are the same. -/
theorem rising_ext {a b : List K} (ha : Rising a) (hb : Rising b) (h : ∀ x, x ∈ a ↔ x ∈ b) : a = b := by
  have hp : a.Perm b := (List.perm_ext_iff_of_nodup (rising_nodup ha) (rising_nodup hb)).2 h
  refine List.Perm.eq_of_pairwise (le := fun x y => ltK x y = true) ?_ ha hb hp
  intro x y _ _ h1 h2
  rw [Sort.SWO.asymm swoK h1] at h2
  cases h2
end Go.Proofs.Ytpjcfnnnciknmaa
