/- The iterator over the voters, and that it tells what a list does. -/
import Derived.Test.YteebkalajidehaaList
set_option linter.unusedVariables false
set_option linter.unusedSimpArgs false
set_option maxRecDepth 100000

namespace Go.Proofs.Yteebkalajidehaa
open Go hiding Expr
open Go.RowKit Tr

def told (l : List Int) : List (List Value) := l.map fun x => [Value.int .i64 x]

section
variable {w w' : World} {b b2 p : Nat} {s : VS}

theorem seq_c (hs : s.Ok) : Seq Try.prog 34 [.pointer (some ⟨p, 0, none⟩)] (fun W => Cells W b 57 (pv s) ∧ Cells W p 24 [.pointer (some ⟨b, 0, none⟩)]) (told (voters s.votes)) := by
  intro l w I S hh hK h0 hY
  apply c34
  have hl5 := VS.len5 hs
  have hn := hs.len
  have hn1 := hs.n1
  obtain ⟨h, hp⟩ := hK 0 w h0
  refine s_ldP hp rfl (s_call (none_c h hs) ?_)
  rintro _ _ ⟨rfl, rfl⟩
  refine ⟨_, rfl, s_asB (s_false rfl (s_ldP hp rfl (s_sm (s_ldI h rfl ?_))))⟩
  refine s_loop (fun vs W => ∃ i : Nat, vs = [.int .i64 i] ∧ i ≤ s.votes.length ∧ I (voters (s.votes.take i)).length W)
    (fun vs _ => s.votes.length - (intOf (vs.getD 0 undef)).toNat) ⟨0, rfl, by omega, h0⟩ ?_
  rintro _ j W ⟨i, rfl, hi, hI⟩
  obtain ⟨h, hp⟩ := hK _ W hI
  refine s_asI (s_ite (fun g1 => ?_) (fun g1 => ?_))
  · simp only [decide_eq_true_eq] at g1
    have hi' : i < s.votes.length := by omega
    have hw : IntKind.wrap .i64 ((i : Int) + 1) = ((i + 1 : Nat) : Int) := by rw [wrap64 (by omega) (by omega)]; rfl
    have hst := voters_step s.votes hl5 ⟨i, by omega⟩ hi'
    have hget := bits_get s.votes hl5 ⟨i, by omega⟩
    have hvg := voters_get s.votes hl5 ⟨i, by omega⟩
    simp only at hst hget hvg
    refine s_ldP hp rfl (s_sm (s_ldI h rfl (s_req (by omega) (s_ite (fun g2 => ?_) (fun g2 => ?_)))))
    · rw [hget] at g2
      rw [g2] at hst
      refine (hY _ W _ hI (by simp only [told, List.getElem?_map, hvg g2]; rfl)).mono ?_
      rintro _ W' ⟨v, rfl, ⟨rfl, hI'⟩ | ⟨rfl, hS⟩⟩
      · refine ⟨_, rfl, s_asB (s_false rfl (s_next ⟨rfl, rfl⟩ ?_))⟩
        simp only [if_true]
        refine ⟨⟨i + 1, by rw [hw], by omega, ?_⟩, ?_⟩
        · rw [hst]; simpa using hI'
        · rw [hw]; simp [intOf]; omega
      · exact ⟨_, rfl, s_asB (s_true rfl (s_ret ⟨⟨_, rfl⟩, .inr hS⟩))⟩
    · rw [hget] at g2
      rw [g2] at hst
      refine s_next ⟨rfl, rfl⟩ ?_
      simp only [if_true]
      refine ⟨⟨i + 1, by rw [hw], by omega, ?_⟩, ?_⟩
      · rw [hst]; simpa using hI
      · rw [hw]; simp [intOf]; omega
  · simp only [decide_eq_false_iff_not] at g1
    have hi' : i = s.votes.length := by omega
    subst hi'
    rw [List.take_length] at hI
    exact s_ret ⟨⟨_, rfl⟩, .inl (by simpa [told] using hI)⟩

/-- A sequence tells what a slice holds. -/
theorem tells_c {K : World → Prop} {xs : List Int} (hseq : Seq Try.prog 34 [.pointer (some ⟨p, 0, none⟩)] K (told xs)) (hK : ∀ W, Fr [] w W → K W)
    {o : Option Addr} {n c : Nat} (hown : Tr.Own w 3 1 (.slice o n c) xs.length (vints xs)) (hn : n = xs.length) (hmax : xs.length ≤ 5) {stop : Int} (hst : stop = 0 ∨ stop = 1) :
    Calls Try.prog 21 #[.func (.func 34) #[] #[.pointer (some ⟨p, 0, none⟩)], .slice o n c, .int .i64 stop] w fun e w' => e = .returned (.bool true) ∧ Fr [] w w' := by
  apply c21
  subst hn
  refine s_new fun n6 w1 hr6 hz6 hf6 h6 => ?_
  refine s_new fun n7 w2 hr7 hz7 hf7 h7 => ?_
  refine s_new fun n8 w3 hr8 hz8 hf8 h8 => ?_
  refine s_new fun n9 w4 hr9 hz9 hf9 h9 => ?_
  refine s_st h9 (by simp) rfl fun w5 hz10 hf10 h9 => ?_
  have h6 := (((hf7.trans hf8).trans hf9).nil.trans hf10).cells h6 (by simp; omega)
  have h7 := ((hf8.trans hf9).nil.trans hf10).cells h7 (by simp; omega)
  have h8 := (hf9.nil.trans hf10).cells h8 (by simp; omega)
  have hf : Fr [] w w5 := (((hf6.trans hf7).trans hf8).trans hf9).trans' hf10 (fun x hx => by simp at hx; exact .inr (by omega))
  have hown5 := hown.fr hf (by simp)
  have hlt : ∀ k, (Value.slice o xs.length c).ownBlock = some k → k < w.heap.size := by
    intro k hk
    rcases hown.shape with ⟨hv, _⟩ | ⟨g, cap, hv, hg, _⟩
    · rw [hv] at hk; cases hk
    · rw [hv] at hk; cases hk; exact hg
  have hGw : ∀ {W : World}, Fr [n8, n9] w5 W → Fr [] w W := fun h => hf.trans' h (fun x hx => by simp at hx; exact .inr (by omega))
  have hkeep : ∀ {W : World}, Fr [n8, n9] w5 W → Cells W n6 71 [.slice o xs.length c] ∧ Cells W n7 3 [.int .i64 stop] ∧ Tr.Own W 3 1 (.slice o xs.length c) xs.length (vints xs) := fun h =>
    ⟨h.cells h6 (by simp; omega), h.cells h7 (by simp; omega), hown5.fr h (fun k hk => by have := hlt k hk; simp; omega)⟩
  refine s_rf hseq
    (fun i W => i ≤ xs.length ∧ (stop = 1 → i = 0) ∧ Cells W n9 3 [.int .i64 i] ∧ ∃ x, Cells W n8 4 [.bool x])
    (fun W => Cells W n8 4 [.bool true])
    [n8, n9] (by simp; omega) ?_ ?_ ?_ ⟨by omega, fun _ => rfl, h9, false, h8⟩ ?_ ?_ ?_
  · rintro i W W' F ⟨a, b, d, x, e⟩ hfF ha
    exact ⟨a, b, ha.cells hfF d, x, ha.cells hfF e⟩
  · rintro W W' F b hfF ha
    exact ha.cells hfF b
  · rintro i W _ hW
    exact hK _ (hGw hW)
  · rintro l rec i W ks hl hs hp hi ⟨h1, h2, h4, x, h5⟩ hW hloop
    obtain ⟨k6, k7, hk⟩ := hkeep hW
    have hilt : i < xs.length := by
      have := (List.getElem?_eq_some_iff.1 hi).1
      simpa [told] using this
    obtain rfl : ks = [.int .i64 xs[i]] := by
      simp only [told, List.getElem?_map, List.getElem?_eq_getElem hilt, Option.map_some, Option.some.injEq] at hi
      exact hi.symm
    have hll : W.heap.size ≥ w5.heap.size := hW.size
    refine s_req rfl (s_asI (s_beg hloop hs fun W1 z1 f1 hl1 => ?_))
    have h4 := f1.cells h4 (by simp; omega)
    have h5 := f1.cells h5 (by simp; omega)
    have k6 := f1.cells k6 (by simp; omega)
    have k7 := f1.cells k7 (by simp; omega)
    have hk := hk.fr f1 (fun k hkk => by have := hlt k hkk; simp; omega)
    have hn1 : ¬ stop = 1 ∨ i = 0 := by omega
    have hw : IntKind.wrap .i64 ((i : Int) + 1) = ((i + 1 : Nat) : Int) := by rw [wrap64 (by omega) (by omega)]; rfl
    refine s_ldI h4 rfl (s_ldS k6 rfl (s_false (by simp; omega) (s_ldS k6 rfl (s_ldI h4 rfl (s_req (by omega) ?_)))))
    have hx : (vints xs)[i]? = some (.int .i64 xs[i]) := by simp [vints, hilt]
    obtain ⟨g, rfl, hgl, hgc⟩ := hk.at hx
    refine s_sm (s_loadI (n := xs[i]) (by have := hgc i _ hx; simpa using this) (s_false (by simp) (s_ldI h4 rfl ?_)))
    refine s_st h4 (by simp) rfl fun W2 z2 f2 h4 => ?_
    have h5 := f2.cells h5 (by simp; omega)
    have k7 := f2.cells k7 (by simp; omega)
    have hl2 := hl1.fr f2 (by simp; omega)
    refine s_ldI h4 rfl (s_ldI k7 rfl (s_ite (fun g1 => ?_) (fun g1 => ?_)))
    · refine s_st h5 (by simp) rfl fun W3 z3 f3 h5 => ?_
      have hl3 := hl2.fr f3 (by simp; omega)
      refine s_stop hl3 _ fun W4 z4 f4 hl4 => s_next trivial ?_
      simp only [if_true]
      refine .inr ⟨rfl, f4.cells h5 (by simp; omega), ?_, hl4⟩
      refine (((f1.mono ?_).trans' f2 ?_).trans' f3 ?_).trans' f4 ?_ <;> (intro x hx; simp at hx; subst hx; simp)
    · refine s_cont hl2 hs hp fun W4 z4 f4 hl4 => s_next trivial ?_
      simp only [if_true]
      refine .inl ⟨rfl, ⟨by omega, ?_, ?_, x, f4.cells h5 (by simp; omega)⟩, ?_, hl4⟩
      · intro h
        rw [hw] at g1
        have := h2 h
        subst this h
        simp at g1
      · have := f4.cells h4 (by simp; omega)
        rw [hw] at this
        simpa using this
      · refine ((f1.mono ?_).trans' f2 ?_).trans' f4 ?_ <;> (intro x hx; simp at hx; subst hx; simp)
  · rintro D W ⟨h1, h2, h4, x, h5⟩ hW hD hDw
    obtain ⟨k6, k7, hk⟩ := hkeep hW
    refine s_ldI h4 rfl (s_ldS k6 rfl (s_st h5 (by simp) rfl fun W1 z1 f1 h5 => ?_))
    refine s_col (hD.fr f1 (by simp; omega)) fun W2 z2 f2 => s_ldB (f2.cells h5 (by simp; omega)) rfl (s_ret ⟨by simp [told], ?_⟩)
    refine ((hGw hW).trans' f1 ?_).trans' f2 ?_ <;> (intro x hx; simp at hx; subst hx; exact .inr (by omega))
  · rintro D W h1 hW hD hDw
    refine s_col hD fun W2 z2 f2 => s_ldB (f2.cells h1 (by simp; omega)) rfl (s_ret ⟨rfl, ?_⟩)
    exact (hGw hW).trans' f2 (fun x hx => by simp at hx; exact .inr (by omega))
end
end Go.Proofs.Yteebkalajidehaa
