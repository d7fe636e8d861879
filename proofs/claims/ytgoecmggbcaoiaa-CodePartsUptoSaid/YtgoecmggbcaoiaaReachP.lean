/- What a run could come to: in plain words, and the search. -/
import Derived.Test.YtgoecmggbcaoiaaWalkP
set_option linter.unusedVariables false
set_option linter.unusedSimpArgs false
namespace Go.Proofs.Ytgoecmggbcaoiaa

def goesP (op : Int) : Bool := op != 0 && (op != 22 && op != 25)

/-- What a run could come to, by numbers of instructions. -/
inductive Re (l : List Ins) : Nat → Prop where
  | zero : 0 < l.length → Re l 0
  | next {i : Nat} {x : Ins} : Re l i → l[i]? = some x → goesP x.op = true → i + 1 < l.length → Re l (i + 1)
  | jump {i k : Nat} {x y : Ins} : Re l i → l[i]? = some x → jumpP x.op = true → l[k]? = some y → y.at_ = x.imm → Re l k

theorem Re.lt {l : List Ins} {i : Nat} (h : Re l i) : i < l.length := by
  cases h with
  | zero h => exact h
  | next _ _ _ h => exact h
  | jump _ _ _ h _ => exact (List.getElem?_eq_some_iff.1 h).1

def Succ (l : List Ins) (x : Ins) (i k : Nat) : Prop := (goesP x.op = true ∧ k = i + 1) ∨ (jumpP x.op = true ∧ ∃ y, l[k]? = some y ∧ y.at_ = x.imm)
theorem Re.step {l : List Ins} {i k : Nat} {x : Ins} (h : Re l i) (hx : l[i]? = some x) (hs : Succ l x i k) (hk : k < l.length) : Re l k := by
  rcases hs with ⟨h1, rfl⟩ | ⟨h1, y, h2, h3⟩
  · exact h.next hx h1 hk
  · exact h.jump hx h1 h2 h3

def Rises (l : List Ins) : Prop := l.Pairwise (fun a b => a.at_ < b.at_)
theorem rises_inj {l : List Ins} (h : Rises l) {i j : Nat} {x y : Ins} (hx : l[i]? = some x) (hy : l[j]? = some y) (he : x.at_ = y.at_) : i = j := by
  obtain ⟨hi, rfl⟩ := List.getElem?_eq_some_iff.1 hx
  obtain ⟨hj, rfl⟩ := List.getElem?_eq_some_iff.1 hy
  rcases Nat.lt_trichotomy i j with h' | h' | h'
  · have := List.pairwise_iff_getElem.1 h i j hi hj h'
    omega
  · exact h'
  · have := List.pairwise_iff_getElem.1 h j i hj hi h'
    omega
theorem walk_rise {bs : List Int} {at_ : Int} (h0 : 0 ≤ at_) : Rises (walkA bs at_).1 := by
  refine walk_ind' (bs := bs) (fun at_ r => Rises r.1) (fun _ _ _ => List.Pairwise.nil) (fun _ _ _ _ => List.Pairwise.nil) ?_ h0
  intro a ha hl h1 ih
  have h3 := oneP_next h1
  refine List.Pairwise.cons (fun y hy => ?_) ih
  have := walk_mem (bs := bs) (at_ := (oneP bs a).2.1) (by omega) y hy
  rw [(one_eq h1).2.2.2.2.2] at this ⊢
  show a < y.at_
  have h4 : a < (a + szP (bs.getD a.toNat 0)) := by
    have := (one_eq h1).2.2.1
    have := szP_le (bs.getD a.toNat 0)
    omega
  have h5 : a + szP (bs.getD a.toNat 0) ≤ y.at_ := this.1
  omega

/-- The search's state. -/
structure DInv (l : List Ins) (seen : List Bool) (todo : List Nat) : Prop where
  len : seen.length = l.length
  hs : ∀ i, seen[i]? = some true → Re l i
  ht : ∀ i ∈ todo, i ≤ l.length ∧ (i < l.length → Re l i)
  hc : ∀ i x k, seen[i]? = some true → l[i]? = some x → Succ l x i k → k < l.length → seen[k]? = some true ∨ k ∈ todo
  h0 : seen[0]? = some true ∨ 0 ∈ todo

section
variable {l : List Ins} {seen : List Bool} {todo : List Nat} {i k : Nat} {x : Ins}
theorem DInv.init (h : 0 < l.length) : DInv l (List.replicate l.length false) [0] := by
  refine ⟨by simp, ?_, ?_, ?_, .inr (by simp)⟩
  · intro i hi
    rw [List.getElem?_replicate] at hi
    split at hi <;> simp at hi
  · intro i hi
    simp at hi
    subst hi
    exact ⟨by omega, fun _ => .zero h⟩
  · intro i x k hi
    rw [List.getElem?_replicate] at hi
    split at hi <;> simp at hi
theorem DInv.skip (hl : 0 < l.length) (h : DInv l seen (todo ++ [i])) (hi : l.length ≤ i ∨ seen[i]? = some true) : DInv l seen todo := by
  refine ⟨h.len, h.hs, fun j hj => h.ht j (by simp [hj]), fun j x k a b c d => ?_, ?_⟩
  · rcases h.hc j x k a b c d with h1 | h1
    · exact .inl h1
    · rcases List.mem_append.1 h1 with h1 | h1
      · exact .inr h1
      · simp at h1
        subst h1
        rcases hi with hi | hi
        · omega
        · exact .inl hi
  · rcases h.h0 with h1 | h1
    · exact .inl h1
    · rcases List.mem_append.1 h1 with h1 | h1
      · exact .inr h1
      · simp at h1
        subst h1
        rcases hi with hi | hi
        · omega
        · exact .inl hi
theorem DInv.visit (hr : Rises l) (h : DInv l seen (todo ++ [i])) (hx : l[i]? = some x) {B : List Nat} (hB : jumpP x.op = true → ∃ y k, B = [k] ∧ l[k]? = some y ∧ y.at_ = x.imm) (hB0 : jumpP x.op = false → B = []) :
    DInv l (seen.set i true) (todo ++ (if goesP x.op = true then [i + 1] else []) ++ B) := by
  have hlt := (List.getElem?_eq_some_iff.1 hx).1
  have hRi := (h.ht i (by simp)).2 hlt
  have hset : ∀ j, (seen.set i true)[j]? = some true ↔ j = i ∨ seen[j]? = some true := by
    intro j
    rw [List.getElem?_set]
    by_cases hj : i = j
    · subst hj
      simp [h.len, hlt]
    · rw [if_neg hj]
      constructor
      · exact .inr
      · rintro (h' | h')
        · exact absurd h'.symm hj
        · exact h'
  refine ⟨by simp [h.len], ?_, ?_, ?_, ?_⟩
  · intro j hj
    rcases (hset j).1 hj with rfl | hj
    · exact hRi
    · exact h.hs j hj
  · intro j hj
    rcases List.mem_append.1 hj with hj | hj
    · rcases List.mem_append.1 hj with hj | hj
      · exact h.ht j (by simp [hj])
      · split at hj
        · rename_i hg
          simp at hj
          subst hj
          exact ⟨by omega, fun hk => hRi.next hx hg hk⟩
        · cases hj
    · cases hJ : jumpP x.op with
      | false => rw [hB0 hJ] at hj; cases hj
      | true =>
        obtain ⟨y, k, rfl, hk, hy⟩ := hB hJ
        simp at hj
        subst hj
        exact ⟨by have := (List.getElem?_eq_some_iff.1 hk).1; omega, fun _ => hRi.jump hx hJ hk hy⟩
  · intro j z k hj hz hsu hk
    rw [hset]
    rcases (hset j).1 hj with rfl | hj
    · rw [hx] at hz
      cases hz
      rcases hsu with ⟨h1, rfl⟩ | ⟨h1, y, h2, h3⟩
      · right
        rw [if_pos h1]
        simp
      · obtain ⟨y', k', rfl, hk', hy'⟩ := hB h1
        have : k = k' := rises_inj hr h2 hk' (by omega)
        subst this
        right
        simp
    · rcases h.hc j z k hj hz hsu hk with h1 | h1
      · exact .inl (.inr h1)
      · rcases List.mem_append.1 h1 with h1 | h1
        · right; simp [h1]
        · simp at h1
          exact .inl (.inl h1)
  · rw [hset]
    rcases h.h0 with h1 | h1
    · exact .inl (.inr h1)
    · rcases List.mem_append.1 h1 with h1 | h1
      · right; simp [h1]
      · simp at h1
        exact .inl (.inl h1)
theorem DInv.fin (h : DInv l seen []) (hl : 0 < l.length) (i : Nat) : seen[i]? = some true ↔ Re l i := by
  refine ⟨h.hs i, fun hi => ?_⟩
  induction hi with
  | zero _ => exact h.h0.elim id (fun h => by cases h)
  | next h1 h2 h3 h4 ih => exact (h.hc _ _ _ ih h2 (.inl ⟨h3, rfl⟩) h4).elim id (fun h => by cases h)
  | jump h1 h2 h3 h4 h5 ih => exact (h.hc _ _ _ ih h2 (.inr ⟨h3, _, h4, h5⟩) (List.getElem?_eq_some_iff.1 h4).1).elim id (fun h => by cases h)
end

def outP (l : List Ins) (seen : List Bool) : List Int := ((l.zip seen).filter (·.2)).map (·.1.at_)
/-- What Reach answers. -/
def IsReach (bs : List Int) (out : List Int) : Prop :=
  if (decP bs).2 ≠ 0 ∨ (decP bs).1.length = 0 then out = []
  else ∃ seen : List Bool, seen.length = (decP bs).1.length ∧ (∀ i, seen[i]? = some true ↔ Re (decP bs).1 i) ∧ out = outP (decP bs).1 seen
theorem seen_uniq {l : List Ins} {s t : List Bool} (h1 : s.length = l.length) (h2 : t.length = l.length) (hs : ∀ i, s[i]? = some true ↔ Re l i) (ht : ∀ i, t[i]? = some true ↔ Re l i) : s = t := by
  refine List.ext_getElem (by omega) fun i a b => ?_
  have h := (hs i).trans (ht i).symm
  rw [List.getElem?_eq_getElem a, List.getElem?_eq_getElem b] at h
  simp only [Option.some.injEq] at h
  cases hsi : s[i] <;> cases hti : t[i] <;> simp [hsi, hti] at h ⊢
theorem IsReach.uniq {bs out out2 : List Int} (h : IsReach bs out) (h2 : IsReach bs out2) : out = out2 := by
  unfold IsReach at h h2
  split at h
  · rename_i hc
    rw [if_pos hc] at h2
    rw [h, h2]
  · rename_i hc
    rw [if_neg hc] at h2
    obtain ⟨s, a, b, rfl⟩ := h
    obtain ⟨t, a', b', rfl⟩ := h2
    rw [seen_uniq a a' b b']
end Go.Proofs.Ytgoecmggbcaoiaa
