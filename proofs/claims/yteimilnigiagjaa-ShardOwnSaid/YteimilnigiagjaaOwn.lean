/- ShardOwn: what is handed in is left as it is; the walk. -/
import Derived.Test.YteimilnigiagjaaLists
import Derived.Test.YteimilnigiagjaaSplit
import Derived.Test.YteimilnigiagjaaWrite
set_option linter.unusedVariables false
set_option linter.unusedSimpArgs false
set_option maxRecDepth 100000
set_option maxHeartbeats 1000000
namespace Go.Proofs.Yteimilnigiagjaa
open Go hiding Expr
open Go.RowKit Tr

/-- Lists of so many keys each, each in a block of its own or nowhere; whatever they hold. -/
def Some' (M : Nat) (F : Nat → Nat) (vs : List Value) (cs : List Hp) : Prop :=
  cs.length = M ∧ ∀ p, p < M → ∃ v c ys, vs[p]? = some v ∧ cs[p]? = some c ∧ OwnC 23 2 v (F p) ys c
theorem Lists.some {M : Nat} {F : Nat → List K} {vs : List Value} {cs : List Hp} (h : Lists M F vs cs) : Some' M (fun p => (F p).length) vs cs :=
  ⟨h.2.1, fun p hp => let ⟨v, c, a, b, d⟩ := h.2.2 p hp; ⟨v, c, _, a, b, d⟩⟩

section
variable {w : World} {o ok : Option Addr} {l : List PR} {lk : List K}
theorem own_c {n cap nk ck : Nat} (hk : KeysAt w ok lk) (hnk : nk = lk.length) (hszk : lk.length * 16 ≤ 140737488355328) (h : PairsAt w o l) (hin : ∀ p ∈ l, InK p.k) (hn : n = l.length) (hsz : l.length * 24 ≤ 140737488355328) :
    Calls Try.prog 8 #[.slice ok nk ck, .slice o n cap] w fun e w' => e = .returned (.bool true) ∧ Fr [] w w' := by
  subst hnk hn
  apply c8
  refine h_new (Has.init w) fun n6 u H => ?_
  refine h_appAll elemK (by decide) H (by repeat (first | exact cut_head | exact cut_all | apply cut_tail | apply cut_app)) (OwnC.zero _ _ _) (kr2 lk) (kr_one lk) (hk.fr0 H.base) (by rw [List.length_map]) (by omega) (by omega) ?_
  intro v7 c7 u ho7 H
  rw [Nat.zero_add, List.nil_append] at ho7
  obtain ⟨o8, n10, rfl⟩ := ho7.slice
  refine s_asS (h_new H fun n11 u H => ?_)
  refine h_appAll elemPr (by decide) H (by repeat (first | exact cut_head | exact cut_all | apply cut_tail | apply cut_app)) (OwnC.zero _ _ _) (pr3 l) (pr_one l) (h.fr0 H.base) (by rw [List.length_map]) (by omega) (by omega) ?_
  intro v12 c12 u ho12 H
  rw [Nat.zero_add, List.nil_append] at ho12
  obtain ⟨o13, n15, rfl⟩ := ho12.slice
  refine s_asS (s_call (keys_c (hk.fr0 H.base) rfl hszk) ?_)
  rintro _ u ⟨v1, c1, rfl, ho1, H1⟩
  have H := H.join H1
  obtain ⟨o17, n19, rfl⟩ := ho1.slice
  refine ⟨_, rfl, s_asS (s_call (pairs_c (h.fr0 H.base) hin rfl hsz) ?_)⟩
  rintro _ u ⟨out, v2, c2, hP, rfl, ho2, H2⟩
  have H := H.join H2
  obtain ⟨o21, n23, rfl⟩ := ho2.slice
  have hKl := KS_len lk
  have hPl := hP.len
  refine ⟨_, rfl, s_asS ?_⟩
  refine s_loop (fun xs W => ∃ (i : Nat) (ys : List Value) (c : Hp), xs = [.int .i64 i] ∧ i ≤ (KS lk).length ∧ OwnC 23 2 (.slice o17 (KS lk).length n19) (KS lk).length ys c ∧ Has w W (c ++ (c2 ++ (c12 ++ c7))))
    (fun xs _ => (KS lk).length - (intOf (xs.getD 0 undef)).toNat) ⟨0, _, c1, rfl, by omega, ho1, H.sub (by repeat (first | exact sb_refl | exact sb_nil | refine sb_cons (by repeat (first | exact pick_head | apply pick_tail | apply pick_app)) ?_ | refine sb_app (by repeat (first | exact cut_head | exact cut_all | apply cut_tail | apply cut_app)) ?_ | exact sb_one (by repeat (first | exact cut_head | exact cut_all | apply cut_tail | apply cut_app))))⟩ ?_
  rintro _ j W ⟨i, ys, c, rfl, hi, ho1, H⟩
  refine s_asI (s_ite (fun g1 => ?_) (fun g1 => ?_))
  · simp only [decide_eq_true_eq] at g1
    have hlt : i < (KS lk).length := by omega
    obtain ⟨g, cap', sp, hv, _⟩ := ho1.pos (by omega)
    cases hv
    have hyl := ho1.len
    refine s_req ⟨by omega, g1⟩ (s_sm (h_stC H (by repeat (first | exact cut_head | exact cut_all | apply cut_tail | apply cut_app)) ho1 (by rw [Int.toNat_natCast]; omega) rfl fun c' u ho1 H => s_next (by first | exact ⟨rfl, rfl⟩ | trivial) ?_))
    simp (config := { decide := true }) only [if_true, if_false]
    exact ⟨⟨i + 1, _, c', by rw [w_succ (by omega)], by omega, ho1, H⟩, by rw [w_succ (by omega)]; simp [intOf] <;> omega⟩
  clear g1 hi
  refine s_loop (fun xs W => ∃ (i : Nat) (ys : List Value) (c : Hp), xs = [.int .i64 i] ∧ i ≤ out.length ∧ OwnC 51 3 (.slice o21 out.length n23) out.length ys c ∧ Has w W (c ++ (c12 ++ c7)))
    (fun xs _ => out.length - (intOf (xs.getD 0 undef)).toNat) ⟨0, _, c2, rfl, by omega, ho2, H.sub (by repeat (first | exact sb_refl | exact sb_nil | refine sb_cons (by repeat (first | exact pick_head | apply pick_tail | apply pick_app)) ?_ | refine sb_app (by repeat (first | exact cut_head | exact cut_all | apply cut_tail | apply cut_app)) ?_ | exact sb_one (by repeat (first | exact cut_head | exact cut_all | apply cut_tail | apply cut_app))))⟩ ?_
  rintro _ j W ⟨i, ys, c, rfl, hi, ho2, H⟩
  refine s_asI (s_ite (fun g1 => ?_) (fun g1 => ?_))
  · simp only [decide_eq_true_eq] at g1
    have hlt : i < out.length := by omega
    obtain ⟨g, cap', sp, hv, _⟩ := ho2.pos (by omega)
    cases hv
    have hyl := ho2.len
    refine s_req ⟨by omega, g1⟩ (s_sm (h_stC H (by repeat (first | exact cut_head | exact cut_all | apply cut_tail | apply cut_app)) ho2 (by rw [Int.toNat_natCast]; omega) rfl fun c' u ho2 H => s_next (by first | exact ⟨rfl, rfl⟩ | trivial) ?_))
    simp (config := { decide := true }) only [if_true, if_false]
    exact ⟨⟨i + 1, _, c', by rw [w_succ (by omega)], by omega, ho2, H⟩, by rw [w_succ (by omega)]; simp [intOf] <;> omega⟩
  clear g1 hi
  refine s_call (split_c 3 (hk.fr0 H.base) rfl hszk) ?_
  rintro _ u ⟨g, vs, cs, rfl, hL, Hs⟩
  have H := H.join Hs
  have hM : (manyI 3).toNat = 3 := by decide
  rw [hM] at hL ⊢
  have hL2 := hL.some
  have hvl := hL.1
  refine ⟨_, rfl, s_asS ?_⟩
  refine s_loop (fun xs W => ∃ (p : Nat) (cs : List Hp), xs = [.int .i64 p] ∧ p ≤ 3 ∧ Some' 3 (fun p => (FP 3 (KS lk) p).length) vs cs ∧ Has w W (cl g 35 vs :: (cs.flatten ++ (c12 ++ c7))))
    (fun xs _ => 3 - (intOf (xs.getD 0 undef)).toNat) ⟨0, cs, rfl, by omega, hL2, H.sub (by repeat (first | exact sb_refl | exact sb_nil | refine sb_cons (by repeat (first | exact pick_head | apply pick_tail | apply pick_app)) ?_ | refine sb_app (by repeat (first | exact cut_head | exact cut_all | apply cut_tail | apply cut_app)) ?_ | exact sb_one (by repeat (first | exact cut_head | exact cut_all | apply cut_tail | apply cut_app))))⟩ ?_
  rintro _ j W ⟨p, cs, rfl, hp, hL2, H⟩
  refine s_asI (s_ite (fun g1 => ?_) (fun g1 => ?_))
  · simp only [decide_eq_true_eq] at g1
    have hpM : p < 3 := by omega
    obtain ⟨v, c, ys, hv, hc, hoc⟩ := hL2.2 p hpM
    obtain ⟨ov, capv, rfl⟩ := hoc.slice
    have hcell : vs[0 + Int.toNat (p : Int) * 1]? = some (.slice ov (FP 3 (KS lk) p).length capv) := by rw [Int.toNat_natCast, Nat.zero_add, Nat.mul_one]; exact hv
    refine s_req ⟨by omega, g1⟩ (s_sm (h_ldS H (by repeat (first | exact pick_head | apply pick_tail | apply pick_app)) hcell ?_))
    have hfl := FP_len 3 (KS lk) p
    have H := H.pullc (cut_tail (cut_app' (cut_flat hc)) : Cut c (cl g 35 vs :: (cs.flatten ++ (c12 ++ c7))) (cl g 35 vs :: ((cs.set p []).flatten ++ (c12 ++ c7))))
    refine s_loop (fun xs W => ∃ (i : Nat) (ys : List Value) (c : Hp), xs = [.int .i64 i] ∧ i ≤ (FP 3 (KS lk) p).length ∧ OwnC 23 2 (.slice ov (FP 3 (KS lk) p).length capv) (FP 3 (KS lk) p).length ys c ∧ Has w W (c ++ (cl g 35 vs :: ((cs.set p []).flatten ++ (c12 ++ c7)))))
      (fun xs _ => (FP 3 (KS lk) p).length - (intOf (xs.getD 0 undef)).toNat) ⟨0, _, c, rfl, by omega, hoc, H⟩ ?_
    rintro _ j2 W2 ⟨i, ys, c', rfl, hi, hoc', H⟩
    refine s_asI (s_ite (fun g2 => ?_) (fun g2 => ?_))
    · simp only [decide_eq_true_eq] at g2
      have hlt : i < (FP 3 (KS lk) p).length := by omega
      obtain ⟨g', cap', sp, hv', _⟩ := hoc'.pos (by omega)
      cases hv'
      have hyl := hoc'.len
      refine s_req ⟨by omega, g2⟩ (s_sm (h_stC H (by repeat (first | exact cut_head | exact cut_all | apply cut_tail | apply cut_app)) hoc' (by rw [Int.toNat_natCast]; omega) rfl fun c2' u hoc' H => s_next (by first | exact ⟨rfl, rfl⟩ | trivial) ?_))
      simp (config := { decide := true }) only [if_true, if_false]
      exact ⟨⟨i + 1, _, c2', by rw [w_succ (by omega)], by omega, hoc', H⟩, by rw [w_succ (by omega)]; simp [intOf] <;> omega⟩
    · refine s_next (by first | exact ⟨rfl, rfl⟩ | trivial) ?_
      simp (config := { decide := true }) only [if_true, if_false]
      have hpl : p < cs.length := by rw [hL2.1]; exact hpM
      refine ⟨⟨p + 1, cs.set p c', by rw [w_succ (by omega)], by omega, ⟨by rw [List.length_set]; exact hL2.1, fun q hq => ?_⟩, ?_⟩, by rw [w_succ (by omega)]; simp [intOf] <;> omega⟩
      · by_cases hqp : q = p
        · subst hqp
          exact ⟨_, _, _, hv, by rw [List.getElem?_set, if_pos rfl, if_pos hpl], hoc'⟩
        · obtain ⟨v2, c2', ys2, e1, e2, e3⟩ := hL2.2 q hq
          exact ⟨v2, c2', ys2, e1, by rw [List.getElem?_set, if_neg (by omega)]; exact e2, e3⟩
      · have hpm := flat_put (cs := cs) (p := p) hpl c'
        have H2 : Has w W2 (cl g 35 vs :: ((c' ++ (cs.set p []).flatten) ++ (c12 ++ c7))) := H.sub (by
          rw [List.append_assoc]
          exact (by repeat (first | exact sb_refl | exact sb_nil | refine sb_cons (by repeat (first | exact pick_head | apply pick_tail | apply pick_app)) ?_ | refine sb_app (by repeat (first | exact cut_head | exact cut_all | apply cut_tail | apply cut_app)) ?_ | exact sb_one (by repeat (first | exact cut_head | exact cut_all | apply cut_tail | apply cut_app)))))
        exact H2.perm (List.Perm.cons _ (List.Perm.append_right _ hpm))
  · refine s_call live_c ?_
    rintro _ u ⟨rfl, f⟩
    have H := H.fr0 f
    refine ⟨_, rfl, s_asB (s_true rfl ?_)⟩
    refine s_call (same_keys_c (hk.fr0 H.base) (keysAt_own (l := lk) ho7 H (by repeat (first | exact cut_head | exact cut_all | apply cut_tail | apply cut_app))) rfl rfl (by omega)) ?_
    rintro _ u ⟨rfl, f⟩
    have H := H.fr0 f
    refine ⟨_, rfl, s_asB (s_true (by simp) ?_)⟩
    refine s_call (same_pairs_c (h.fr0 H.base) (pairsAt_own (l := l) ho12 H (by repeat (first | exact cut_head | exact cut_all | apply cut_tail | apply cut_app))) rfl rfl (by omega)) ?_
    rintro _ u ⟨rfl, f⟩
    have H := H.fr0 f
    exact ⟨_, rfl, s_asB (s_ret ⟨by simp, H.base⟩)⟩
end
end Go.Proofs.Yteimilnigiagjaa
