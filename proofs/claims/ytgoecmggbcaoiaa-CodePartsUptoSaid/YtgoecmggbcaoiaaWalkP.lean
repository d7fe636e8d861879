/- The walk through bytes: what is in it, how it goes on. -/
import Derived.Test.YtgoecmggbcaoiaaCodeP
set_option linter.unusedVariables false
set_option linter.unusedSimpArgs false
namespace Go.Proofs.Ytgoecmggbcaoiaa

section
variable {bs : List Int} {at_ : Int}
/-- What holds at each step of the walk holds of it. -/
theorem walk_ind (C : Int → List Ins × Int → Prop) (hend : ∀ at_ : Int, 0 ≤ at_ → (bs.length : Int) ≤ at_ → C at_ ([], 0)) (hbad : ∀ at_ : Int, 0 ≤ at_ → at_ < bs.length → (oneP bs at_).2.2 ≠ 0 → C at_ ([], (oneP bs at_).2.2))
    (hok : ∀ at_ : Int, 0 ≤ at_ → at_ < bs.length → (oneP bs at_).2.2 = 0 → C (oneP bs at_).2.1 (walkA bs (oneP bs at_).2.1) → C at_ ((oneP bs at_).1 :: (walkA bs (oneP bs at_).2.1).1, (walkA bs (oneP bs at_).2.1).2)) :
    ∀ (n : Nat) (at_ : Int), 0 ≤ at_ → ((bs.length : Int) - at_).toNat ≤ n → C at_ (walkA bs at_) := by
  intro n
  induction n with
  | zero =>
    intro at_ h0 hn
    rw [walkA_end (by omega)]
    exact hend _ h0 (by omega)
  | succ n ih =>
    intro at_ h0 hn
    by_cases h1 : (bs.length : Int) ≤ at_
    · rw [walkA_end h1]
      exact hend _ h0 h1
    · by_cases h2 : (oneP bs at_).2.2 = 0
      · rw [walkA_ok (by omega) h0 h2]
        have h3 := oneP_next h2
        exact hok _ h0 (by omega) h2 (ih _ (by omega) (by omega))
      · rw [walkA_bad (by omega) h0 h2]
        exact hbad _ h0 (by omega) h2
theorem walk_ind' (C : Int → List Ins × Int → Prop) (hend : ∀ at_ : Int, 0 ≤ at_ → (bs.length : Int) ≤ at_ → C at_ ([], 0)) (hbad : ∀ at_ : Int, 0 ≤ at_ → at_ < bs.length → (oneP bs at_).2.2 ≠ 0 → C at_ ([], (oneP bs at_).2.2))
    (hok : ∀ at_ : Int, 0 ≤ at_ → at_ < bs.length → (oneP bs at_).2.2 = 0 → C (oneP bs at_).2.1 (walkA bs (oneP bs at_).2.1) → C at_ ((oneP bs at_).1 :: (walkA bs (oneP bs at_).2.1).1, (walkA bs (oneP bs at_).2.1).2))
    (h0 : 0 ≤ at_) : C at_ (walkA bs at_) := walk_ind C hend hbad hok _ at_ h0 (Nat.le_refl _)

theorem one_eq (h : (oneP bs at_).2.2 = 0) : 0 ≤ at_ ∧ at_ < bs.length ∧ szP (bs.getD at_.toNat 0) ≠ 0 ∧ szP (bs.getD at_.toNat 0) ≤ bs.length - at_ ∧ idxP (insP bs at_) = 0 ∧ oneP bs at_ = (insP bs at_, at_ + szP (bs.getD at_.toNat 0), 0) :=
  (oneP_cases (bs := bs) (at_ := at_)).elim (fun h' => absurd h h') id

/-- Each instruction is the one at its address. -/
theorem walk_mem (h0 : 0 ≤ at_) : ∀ x ∈ (walkA bs at_).1, at_ ≤ x.at_ ∧ x.at_ < bs.length ∧ (oneP bs x.at_).2.2 = 0 ∧ x = insP bs x.at_ :=
  walk_ind' (bs := bs) (fun at_ r => ∀ x ∈ r.1, at_ ≤ x.at_ ∧ x.at_ < bs.length ∧ (oneP bs x.at_).2.2 = 0 ∧ x = insP bs x.at_) (by simp) (by simp) (by
    intro a ha hl h1 ih x hx
    have he := (one_eq h1).2.2.2.2.2
    rcases List.mem_cons.1 hx with rfl | hx
    · rw [he]
      exact ⟨Int.le_refl _, hl, h1, rfl⟩
    · have h2 := ih x hx
      have h3 := oneP_next h1
      exact ⟨by omega, h2.2⟩) h0
theorem walk_len (h0 : 0 ≤ at_) (h1 : at_ ≤ bs.length) : ((walkA bs at_).1.length : Int) ≤ bs.length - at_ :=
  walk_ind' (bs := bs) (fun at_ r => at_ ≤ bs.length → (r.1.length : Int) ≤ bs.length - at_) (by intro a _ _ h; simp; omega) (by intro a _ _ _ h; simp; omega) (by
    intro a ha hl h1 ih h
    have h3 := oneP_next h1
    have := ih h3.2.1
    simp only [List.length_cons]
    omega) h0 h1
theorem walk_err (h0 : 0 ≤ at_) : (walkA bs at_).2 ≠ 0 → (walkA bs at_).2 = 130 ∨ (walkA bs at_).2 = 132 := by
  exact walk_ind' (bs := bs) (fun at_ r => r.2 ≠ 0 → r.2 = 130 ∨ r.2 = 132) (by simp) (by
      intro a ha hl h1 _
      show (oneP bs a).2.2 = 130 ∨ (oneP bs a).2.2 = 132
      unfold oneP at h1 ⊢
      repeat' split
      all_goals first | (left; rfl) | (right; rfl) | skip
      rename_i g1 g2 g3
      rw [if_neg g1, if_neg g2, if_neg g3] at h1
      exact absurd rfl h1) (by
      intro a ha hl h1 ih h
      exact ih h) h0
theorem byte_ok' (hu : ∀ x ∈ bs, 0 ≤ x ∧ x ≤ 255) (i : Nat) : 0 ≤ bs.getD i 0 ∧ bs.getD i 0 ≤ 255 := by
  unfold List.getD
  cases h : bs[i]? with
  | none => simp
  | some x => exact hu x (List.mem_of_getElem? h)
theorem imm_rng (hu : ∀ x ∈ bs, 0 ≤ x ∧ x ≤ 255) : -32768 ≤ (insP bs at_).imm ∧ (insP bs at_).imm ≤ 65535 := by
  show -32768 ≤ immP bs (bs.getD at_.toNat 0) at_ ∧ immP bs (bs.getD at_.toNat 0) at_ ≤ 65535
  unfold immP
  have h1 := byte_ok' hu (kI_ (bs.getD at_.toNat 0) at_)
  have h2 := byte_ok' hu (kI_ (bs.getD at_.toNat 0) at_ + 1)
  simp only
  repeat' split
  all_goals omega
end
end Go.Proofs.Ytgoecmggbcaoiaa
