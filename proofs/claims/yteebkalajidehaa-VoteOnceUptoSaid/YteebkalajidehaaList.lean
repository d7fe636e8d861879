/- The voters told, one by one: the iterator, the reference's list, and that they tell the same. -/
import Derived.Test.YteebkalajidehaaNew
import Derived.Test.YteebkalajidehaaIter
set_option linter.unusedVariables false
set_option linter.unusedSimpArgs false
set_option maxRecDepth 100000

namespace Go.Proofs.Yteebkalajidehaa
open Go hiding Expr
open Go.RowKit Tr

def votersFrom : Nat → List Bool → List Int
  | _, [] => []
  | k, b :: r => if b then (k : Int) :: votersFrom (k + 1) r else votersFrom (k + 1) r
def voters (l : List Bool) : List Int := votersFrom 0 l
def vints (l : List Int) : List Value := l.map (Value.int .i64)

theorem voters_step (l : List Bool) (h : l.length ≤ 5) : ∀ i : Fin 5, i.val < l.length → voters (l.take (i.val + 1)) = voters (l.take i.val) ++ (if l[i.val]?.getD false then [(i.val : Int)] else []) :=
  all5 (Q := fun l => ∀ i : Fin 5, i.val < l.length → voters (l.take (i.val + 1)) = voters (l.take i.val) ++ (if l[i.val]?.getD false then [(i.val : Int)] else [])) (by decide) (by decide) (by decide) (by decide) (by decide) (by decide +kernel) l h
theorem voters_get (l : List Bool) (h : l.length ≤ 5) : ∀ i : Fin 5, l[i.val]?.getD false = true → (voters l)[(voters (l.take i.val)).length]? = some (i.val : Int) :=
  all5 (Q := fun l => ∀ i : Fin 5, l[i.val]?.getD false = true → (voters l)[(voters (l.take i.val)).length]? = some (i.val : Int)) (by decide) (by decide) (by decide) (by decide) (by decide) (by decide +kernel) l h
theorem votersFrom_len (l : List Bool) : ∀ k, (votersFrom k l).length ≤ l.length := by
  induction l with
  | nil => intro k; simp [votersFrom]
  | cons b r ih => intro k; have := ih (k + 1); simp only [votersFrom]; split <;> simp <;> omega
theorem voters_len (l : List Bool) : (voters l).length ≤ l.length := votersFrom_len l 0

section
variable {w w' : World} {b b2 : Nat} {s : VS}

theorem rlist_c (h : RefAt w b b2 s) (hs : s.Ok) : Calls Try.prog 33 #[.pointer (some ⟨b, 0, none⟩)] w fun e w' =>
    ∃ v, e = .returned v ∧ Tr.Own w' 3 1 v (voters s.votes).length (vints (voters s.votes)) ∧ Fr [] w w' := by
  apply c33
  have hl5 := VS.len5 hs
  have hb := h.lt
  refine s_loop (fun vs W => ∃ (i : Nat) (v : Value), vs = [v, .int .i64 i] ∧ i ≤ s.votes.length ∧ Tr.Own W 3 1 v (voters (s.votes.take i)).length (vints (voters (s.votes.take i))) ∧ Fr [] w W ∧ ∀ k, v.ownBlock = some k → w.heap.size ≤ k)
    (fun vs _ => s.votes.length - (intOf (vs.getD 1 undef)).toNat) ⟨0, _, rfl, by omega, Tr.Own.nil w 3 1, Fr.refl _ _, fun k hk => by cases hk⟩ ?_
  rintro _ j W ⟨i, v, rfl, hi, hown, hfr, hnew⟩
  obtain ⟨o, c, rfl⟩ := hown.slice
  obtain ⟨⟨cap, ho⟩, ⟨rest, hv⟩, hbb⟩ := h.fr hfr (by simp) (by simp)
  refine s_asS (s_asI (s_ldS ho rfl (s_ite (fun g1 => ?_) (fun g1 => ?_))))
  · simp only [decide_eq_true_eq] at g1
    have hi' : i < s.votes.length := by omega
    have hw : IntKind.wrap .i64 ((i : Int) + 1) = ((i + 1 : Nat) : Int) := by rw [wrap64 (by omega) (by omega)]; rfl
    have hst := voters_step s.votes hl5 ⟨i, by omega⟩ hi'
    simp only at hst
    refine s_ldS ho rfl (s_req ⟨by omega, g1⟩ (s_sm ?_))
    have hcell : (bv s.votes ++ rest)[0 + ((i : Int)).toNat * 1]? = some (Value.bool s.votes[i]) := by
      rw [List.getElem?_append_left (by simp [bv]; omega)]
      simp [bv, hi']
    refine s_ldB hv hcell (s_ite (fun g2 => ?_) (fun g2 => ?_))
    · refine s_new fun r w1 hr hz hf1 hc => ?_
      have hown1 := hown.fr hf1 (by simp)
      refine s_app elem71 hown1 (m := 1) (news := [.int .i64 i]) rfl hc.reads (by simp; rfl) (by have := voters_len (s.votes.take i); simp at this; omega) (by have := voters_len (s.votes.take i); simp at this; omega) ?_
      intro v' w2 hown2 hf2 hblk hnil
      obtain ⟨o', c', rfl⟩ := hown2.slice
      refine s_asS (s_next ⟨rfl, rfl⟩ ?_)
      simp only [if_true]
      have hg : (s.votes[i]?.getD false) = true := by simpa [hi'] using g2
      rw [hg] at hst
      refine ⟨⟨i + 1, _, by rw [hw], by omega, ?_, ?_, ?_⟩, ?_⟩
      · rw [hst]; simpa [vints] using hown2
      · refine (hfr.trans hf1).trans' hf2 (fun x hx => .inr ?_)
        simp at hx
        exact hnew x hx
      · intro k hk
        rcases hblk with hblk | hblk
        · rw [hblk] at hk; exact hnew k hk
        · rw [hblk] at hk; have := (hfr.trans hf1).size; cases hk; exact this
      · rw [hw]; simp [intOf]; omega
    · refine s_next ⟨rfl, rfl⟩ ?_
      simp only [if_true]
      have hg : (s.votes[i]?.getD false) = false := by simpa [hi'] using g2
      rw [hg] at hst
      refine ⟨⟨i + 1, _, by rw [hw], by omega, ?_, hfr, hnew⟩, ?_⟩
      · rw [hst]; simpa [vints] using hown
      · rw [hw]; simp [intOf]; omega
  · simp only [decide_eq_false_iff_not] at g1
    have hi' : i = s.votes.length := by omega
    subst hi'
    rw [List.take_length] at hown ⊢
    exact s_ret ⟨_, rfl, hown, hfr⟩
end
end Go.Proofs.Yteebkalajidehaa
