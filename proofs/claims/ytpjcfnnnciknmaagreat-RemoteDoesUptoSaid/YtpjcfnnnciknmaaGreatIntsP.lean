/- Numbers rising, each once: plain facts. -/
import Derived.KernelRfl
set_option linter.unusedVariables false
set_option linter.unusedSimpArgs false
namespace Go.Proofs.YtpjcfnnnciknmaaGreat

/-- out: the numbers of l, rising, each once. -/
def IsRis (l out : List Int) : Prop := out.Pairwise (· < ·) ∧ ∀ x, x ∈ out ↔ x ∈ l
theorem IsRis.uniq {l a b : List Int} (ha : IsRis l a) (hb : IsRis l b) : a = b := by
  have hna : a.Nodup := ha.1.imp (fun h => by omega)
  have hnb : b.Nodup := hb.1.imp (fun h => by omega)
  have hp : a.Perm b := (List.perm_ext_iff_of_nodup hna hnb).2 fun x => (ha.2 x).trans (hb.2 x).symm
  exact List.Perm.eq_of_pairwise (le := fun x y => x < y) (fun x y _ _ h1 h2 => by omega) ha.1 hb.1 hp
theorem IsRis.nil : IsRis [] [] := ⟨List.Pairwise.nil, fun x => Iff.rfl⟩
theorem IsRis.perm {l l' out : List Int} (h : IsRis l out) (hp : l.Perm l') : IsRis l' out := ⟨h.1, fun x => (h.2 x).trans hp.mem_iff⟩
theorem nodup_len : ∀ {a l : List Int}, a.Nodup → (∀ x ∈ a, x ∈ l) → a.length ≤ l.length
  | [], _, _, _ => by simp
  | x :: r, l, hn, h => by
    obtain ⟨h1, h2⟩ := List.nodup_cons.1 hn
    have hx := h x (by simp)
    have := nodup_len (a := r) (l := l.erase x) h2 (fun y hy => (List.mem_erase_of_ne (fun e => by subst e; exact h1 hy)).2 (h y (by simp [hy])))
    rw [List.length_erase_of_mem hx] at this
    have hpos : 0 < l.length := List.length_pos_of_mem hx
    simp only [List.length_cons]
    omega
theorem IsRis.len {l out : List Int} (h : IsRis l out) : out.length ≤ l.length := by
  have hn : out.Nodup := h.1.imp (fun h => by omega)
  exact nodup_len hn (fun x hx => (h.2 x).1 hx)
/-- One more: where it belongs. -/
theorem IsRis.ins {l out : List Int} {x : Int} {k : Nat} (h : IsRis l out) (hk : k ≤ out.length) (hlow : ∀ y ∈ out.take k, y < x) (hne : out[k]? ≠ some x) (hge : ∀ y, out[k]? = some y → x ≤ y) : IsRis (l ++ [x]) (out.take k ++ [x] ++ out.drop k) := by
  have hhi : ∀ y ∈ out.drop k, x < y := by
    intro y hy
    rcases Nat.lt_or_ge k out.length with h' | h'
    · have hd : out.drop k = out[k] :: out.drop (k + 1) := List.drop_eq_getElem_cons h'
      have hk0 : x ≤ out[k] := hge _ (List.getElem?_eq_getElem h')
      have hk1 : out[k] ≠ x := fun e => hne (by rw [List.getElem?_eq_getElem h', e])
      have hpw : (out.drop k).Pairwise (· < ·) := List.Pairwise.sublist (List.drop_sublist _ _) h.1
      rw [hd] at hy hpw
      rcases List.mem_cons.1 hy with rfl | hy
      · omega
      · have := (List.pairwise_cons.1 hpw).1 y hy
        omega
    · rw [List.drop_eq_nil_of_le h'] at hy
      cases hy
  refine ⟨?_, fun y => ?_⟩
  · rw [List.append_assoc]
    refine List.pairwise_append.2 ⟨List.Pairwise.sublist (List.take_sublist _ _) h.1, ?_, ?_⟩
    · exact List.pairwise_cons.2 ⟨hhi, List.Pairwise.sublist (List.drop_sublist _ _) h.1⟩
    · intro a ha b hb
      have := hlow a ha
      rcases List.mem_cons.1 hb with rfl | hb
      · exact this
      · have := hhi b hb
        omega
  · have hm : y ∈ out ↔ y ∈ out.take k ∨ y ∈ out.drop k := by
      conv => lhs; rw [← List.take_append_drop k out]
      exact List.mem_append
    simp only [List.mem_append, List.mem_singleton]
    rw [← h.2 y, hm]
    constructor
    · rintro ((h1 | h1) | h1)
      · exact .inl (.inl h1)
      · exact .inr h1
      · exact .inl (.inr h1)
    · rintro ((h1 | h1) | h1)
      · exact .inl (.inl h1)
      · exact .inr h1
      · exact .inl (.inr h1)
theorem IsRis.same {l out : List Int} {x : Int} (h : IsRis l out) (hx : x ∈ out) : IsRis (l ++ [x]) out := by
  refine ⟨h.1, fun y => ?_⟩
  rw [h.2 y, List.mem_append, List.mem_singleton]
  constructor
  · exact .inl
  · rintro (h1 | rfl)
    · exact h1
    · exact (h.2 _).1 hx

/-- Neighbours that are the same, once; p: what stood ahead. -/
def compN : Option Int → List Int → List Int
  | _, [] => []
  | p, x :: r => if p = some x then compN (some x) r else x :: compN (some x) r
def lastN : Option Int → List Int → Option Int
  | p, [] => p
  | _, x :: r => lastN (some x) r
theorem compN_snoc (l : List Int) (x : Int) : ∀ p, compN p (l ++ [x]) = compN p l ++ (if lastN p l = some x then [] else [x]) := by
  induction l with
  | nil =>
    intro p
    by_cases h : p = some x <;> simp [compN, lastN, h]
  | cons a r ih =>
    intro p
    by_cases h : p = some a <;> simp [compN, lastN, h, ih] <;> rfl
theorem lastN_snoc (l : List Int) (x : Int) : ∀ p, lastN p (l ++ [x]) = some x := by
  induction l with
  | nil => intro p; rfl
  | cons a r ih => intro p; exact ih _
theorem lastN_take {l : List Int} {i : Nat} {x : Int} (h : l[i]? = some x) : lastN none (l.take (i + 1)) = some x := by
  rw [List.take_add_one, h]
  exact lastN_snoc _ _ _
theorem compN_step {l : List Int} {i : Nat} {x y : Int} (hx : l[i]? = some x) (hy : l[i + 1]? = some y) : compN none (l.take (i + 2)) = compN none (l.take (i + 1)) ++ (if x = y then [] else [y]) := by
  rw [List.take_add_one (i := i + 1), hy, Option.toList_some, compN_snoc, lastN_take hx]
  simp
theorem compN_len (l : List Int) : ∀ p, (compN p l).length ≤ l.length := by
  induction l with
  | nil => intro p; simp [compN]
  | cons a r ih => intro p; have := ih (some a); simp only [compN]; split <;> simp <;> omega
theorem compN_mem (l : List Int) : ∀ (p : Option Int) (x : Int), (x ∈ compN p l → x ∈ l) ∧ (x ∈ l → p = some x ∨ x ∈ compN p l) := by
  induction l with
  | nil => intro p x; simp [compN]
  | cons a r ih =>
    intro p x
    obtain ⟨h1, h2⟩ := ih (some a) x
    simp only [compN]
    split
    · rename_i hp
      refine ⟨fun h => by simp [h1 h], fun h => ?_⟩
      rcases List.mem_cons.1 h with rfl | h
      · exact .inl hp
      · rcases h2 h with h | h
        · simp only [Option.some.injEq] at h; subst h; exact .inl hp
        · exact .inr h
    · rename_i hp
      refine ⟨fun h => ?_, fun h => ?_⟩
      · rcases List.mem_cons.1 h with rfl | h
        · simp
        · simp [h1 h]
      · rcases List.mem_cons.1 h with rfl | h
        · right; simp
        · rcases h2 h with h | h
          · simp only [Option.some.injEq] at h; subst h; right; simp
          · right; simp [h]
theorem compN_rising (l : List Int) : ∀ (p : Option Int), l.Pairwise (· ≤ ·) → (∀ q, p = some q → ∀ x ∈ l, q ≤ x) → (compN p l).Pairwise (· < ·) ∧ ∀ q, p = some q → ∀ x ∈ compN p l, q < x := by
  induction l with
  | nil => intro p _ _; exact ⟨List.Pairwise.nil, by simp [compN]⟩
  | cons a r ih =>
    intro p hp hq
    obtain ⟨ha, hr⟩ := List.pairwise_cons.1 hp
    obtain ⟨h1, h2⟩ := ih (some a) hr (fun q hq x hx => by simp only [Option.some.injEq] at hq; subst hq; exact ha x hx)
    simp only [compN]
    split
    · rename_i hpa
      refine ⟨h1, fun q hq' x hx => ?_⟩
      rw [hpa] at hq'
      exact h2 q hq' x hx
    · rename_i hpa
      refine ⟨List.pairwise_cons.2 ⟨fun x hx => h2 a rfl x hx, h1⟩, fun q hq' x hx => ?_⟩
      have h3 := hq q hq' a (by simp)
      have h4 : q ≠ a := fun e => hpa (by rw [hq', e])
      rcases List.mem_cons.1 hx with rfl | hx
      · omega
      · have := h2 a rfl x hx
        omega
theorem comp_ris {l s : List Int} (hp : s.Perm l) (hs : s.Pairwise (· ≤ ·)) : IsRis l (compN none s) := by
  refine ⟨(compN_rising s none hs (by simp)).1, fun x => ?_⟩
  have h := compN_mem s none x
  rw [← hp.mem_iff]
  exact ⟨h.1, fun hx => (h.2 hx).elim (fun h => by cases h) id⟩
end Go.Proofs.YtpjcfnnnciknmaaGreat
