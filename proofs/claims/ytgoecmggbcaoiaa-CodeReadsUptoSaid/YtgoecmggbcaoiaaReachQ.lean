/- What can be reached is closed, in plain words. -/
import Derived.Test.YtgoecmggbcaoiaaReachP
set_option linter.unusedVariables false
set_option linter.unusedSimpArgs false
namespace Go.Proofs.Ytgoecmggbcaoiaa

section
variable {bs : List Int} {at_ : Int} {x : Ins} {i : Nat}
theorem walk_head (h0 : 0 ≤ at_) (h1 : at_ < bs.length) (he : (walkA bs at_).2 = 0) : ∃ r, (walkA bs at_).1 = insP bs at_ :: r := by
  by_cases h : (oneP bs at_).2.2 = 0
  · rw [walkA_ok h1 h0 h, (one_eq h).2.2.2.2.2]
    exact ⟨_, rfl⟩
  · rw [walkA_bad h1 h0 h] at he
    exact absurd he h
theorem walk_next (h0 : 0 ≤ at_) : (walkA bs at_).2 = 0 → ∀ (i : Nat) (x : Ins), (walkA bs at_).1[i]? = some x → x.at_ + szP x.op < bs.length → ∃ y, (walkA bs at_).1[i + 1]? = some y ∧ y.at_ = x.at_ + szP x.op := by
  refine walk_ind' (bs := bs) (fun at_ r => r.2 = 0 → ∀ (i : Nat) (x : Ins), r.1[i]? = some x → x.at_ + szP x.op < bs.length → ∃ y, r.1[i + 1]? = some y ∧ y.at_ = x.at_ + szP x.op) ?_ ?_ ?_ h0
  · intro a _ _ _ i x hx
    simp at hx
  · intro a _ _ _ _ i x hx
    simp at hx
  · intro a ha hl h1 ih he i x hx hlt
    have hn := oneP_next h1
    cases i with
    | zero =>
      have hq := (one_eq h1).2.2.2.2.2
      simp only [List.getElem?_cons_zero, Option.some.injEq] at hx
      subst hx
      rw [hq] at hlt ⊢
      have hlt : a + szP (bs.getD a.toNat 0) < bs.length := hlt
      rw [hq] at he
      obtain ⟨r, hr⟩ := walk_head (bs := bs) (at_ := a + szP (bs.getD a.toNat 0)) (by rw [hq] at hn; have := hn.1; simp only at this; omega) hlt he
      simp only
      rw [hr]
      exact ⟨insP bs (a + szP (bs.getD a.toNat 0)), rfl, rfl⟩
    | succ i =>
      simp only [List.getElem?_cons_succ] at hx ⊢
      exact ih he i x hx hlt
end

section
variable {l : List Ins} {seen : List Bool} {k : Int}
theorem mem_out (hs : seen.length = l.length) : k ∈ outP l seen ↔ ∃ (i : Nat) (x : Ins), l[i]? = some x ∧ seen[i]? = some true ∧ x.at_ = k := by
  unfold outP
  simp only [List.mem_map, List.mem_filter]
  constructor
  · rintro ⟨⟨x, b⟩, ⟨hm, hb⟩, rfl⟩
    obtain ⟨i, hi⟩ := List.mem_iff_getElem?.1 hm
    rw [List.getElem?_zip_eq_some] at hi
    simp only at hb
    subst hb
    exact ⟨i, x, hi.1, hi.2, rfl⟩
  · rintro ⟨i, x, h1, h2, rfl⟩
    refine ⟨(x, true), ⟨List.mem_iff_getElem?.2 ⟨i, ?_⟩, rfl⟩, rfl⟩
    rw [List.getElem?_zip_eq_some]
    exact ⟨h1, h2⟩
theorem out_rise (hs : seen.length = l.length) (hr : Rises l) : (outP l seen).Pairwise (· < ·) := by
  unfold outP
  rw [List.pairwise_map]
  refine List.Pairwise.filter _ ?_
  have h1 : ((l.zip seen).map Prod.fst).Pairwise (fun a b => a.at_ < b.at_) := by
    rw [List.map_fst_zip (by omega)]
    exact hr
  exact (List.pairwise_map (f := Prod.fst) (R := fun a b : Ins => a.at_ < b.at_)).1 h1

/-- What the statement asks of what can be reached. -/
structure Closed13 (bs : List Int) (l : List Ins) (out : List Int) : Prop where
  first : out[0]? = some 0
  next : ∀ x ∈ l, x.at_ ∈ out → goesP x.op = true → x.at_ + szP x.op < bs.length → x.at_ + szP x.op ∈ out
  jump : ∀ x ∈ l, x.at_ ∈ out → jumpP x.op = true → x.imm ∈ out
  rise : out.Pairwise (· < ·)
  mem : ∀ k ∈ out, beginsP l k = true
theorem closed_of {bs : List Int} {out : List Int} (hu : ∀ x ∈ bs, 0 ≤ x ∧ x ≤ 255) (he : (decP bs).2 = 0) (hne : (decP bs).1.length ≠ 0) (h : IsReach bs out) (hris : Rises (decP bs).1) (hw : (walkP bs).2 = 0) (hwe : (decP bs).1 = (walkP bs).1)
    (hj : ∀ x ∈ (decP bs).1, jumpP x.op = true → ∃ (k : Nat) (y : Ins), (decP bs).1[k]? = some y ∧ y.at_ = x.imm) : Closed13 bs (decP bs).1 out := by
  unfold IsReach at h
  rw [if_neg (by omega)] at h
  obtain ⟨seen, hs, hre, rfl⟩ := h
  have hfirst : ∃ x, (decP bs).1[0]? = some x ∧ x.at_ = 0 := by
    rw [hwe] at hne ⊢
    have hpos : (0 : Int) < bs.length := by
      rcases Nat.eq_zero_or_pos bs.length with h | h
      · exfalso
        apply hne
        show (walkA bs 0).1.length = 0
        rw [walkA_end (by omega)]
        rfl
      · omega
    obtain ⟨r, hr⟩ := walk_head (bs := bs) (at_ := 0) (by omega) hpos hw
    refine ⟨insP bs 0, ?_, rfl⟩
    show (walkA bs 0).1[0]? = _
    rw [hr]
    rfl
  have hpos : 0 < (decP bs).1.length := by omega
  refine ⟨?_, ?_, ?_, out_rise hs hris, ?_⟩
  · obtain ⟨x, hx, hx0⟩ := hfirst
    have h0 : seen[0]? = some true := (hre 0).2 (.zero hpos)
    unfold outP
    cases hl : (decP bs).1 with
    | nil => rw [hl] at hpos; simp at hpos
    | cons y r => cases hsn : seen with
      | nil => rw [hsn] at h0; simp at h0
      | cons b s =>
        rw [hl] at hx
        rw [hsn] at h0
        simp at hx h0
        subst hx h0
        simp [hx0]
  · intro x hx hxo hg hlt
    obtain ⟨i, x', h1, h2, h3⟩ := (mem_out hs).1 hxo
    obtain ⟨j, hj'⟩ := List.mem_iff_getElem?.1 hx
    have : i = j := rises_inj hris h1 hj' h3
    subst this
    rw [h1] at hj'
    cases hj'
    have hri := (hre i).1 h2
    obtain ⟨y, hy, hya⟩ := walk_next (bs := bs) (at_ := 0) (by omega) hw i x (by rw [hwe] at h1; exact h1) hlt
    have hy : (decP bs).1[i + 1]? = some y := by rw [hwe]; exact hy
    refine (mem_out hs).2 ⟨i + 1, y, hy, (hre _).2 (hri.next h1 hg (List.getElem?_eq_some_iff.1 hy).1), hya⟩
  · intro x hx hxo hjx
    obtain ⟨i, x', h1, h2, h3⟩ := (mem_out hs).1 hxo
    obtain ⟨j, hj'⟩ := List.mem_iff_getElem?.1 hx
    have : i = j := rises_inj hris h1 hj' h3
    subst this
    rw [h1] at hj'
    cases hj'
    obtain ⟨k, y, hk, hky⟩ := hj x hx hjx
    exact (mem_out hs).2 ⟨k, y, hk, (hre _).2 (((hre i).1 h2).jump h1 hjx hk hky), hky⟩
  · intro k hk
    obtain ⟨i, x, h1, _, h3⟩ := (mem_out hs).1 hk
    unfold beginsP
    rw [List.any_eq_true]
    exact ⟨x, List.mem_of_getElem? h1, by simpa using h3⟩
end
end Go.Proofs.Ytgoecmggbcaoiaa
