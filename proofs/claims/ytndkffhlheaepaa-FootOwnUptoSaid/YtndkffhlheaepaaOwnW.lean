/- FootOwn: what is handed in is left as it is; the walk. -/
import Derived.Test.YtndkffhlheaepaaSame
import Derived.Test.YtndkffhlheaepaaTreesL
set_option linter.unusedVariables false
set_option linter.unusedSimpArgs false
set_option maxRecDepth 100000
set_option maxHeartbeats 4000000
namespace Go.Proofs.Ytndkffhlheaepaa
open Go hiding Expr
open Go.RowKit Tr

/-- Eight lists of so many keys; whatever they hold. -/
def SomeF (f : Fs) (F : Nat → List K) (cs : List Hp) : Prop := cs.length = 8 ∧ ∀ p, p < 8 → ∃ c ys, cs[p]? = some c ∧ OwnC 50 2 (.slice (f.o p) (F p).length (f.c p)) (F p).length ys c
theorem FsOk.some {f : Fs} {F : Nat → List K} {cs : List Hp} (h : FsOk f F cs) : SomeF f F cs := ⟨h.1, fun p hp => let ⟨c, a, b⟩ := h.2 p hp; ⟨c, _, a, b⟩⟩
theorem SomeF.set {f : Fs} {F : Nat → List K} {cs : List Hp} (h : SomeF f F cs) {p : Nat} {c : Hp} {ys : List Value} (hp : p < 8) (ho : OwnC 50 2 (.slice (f.o p) (F p).length (f.c p)) (F p).length ys c) : SomeF f F (cs.set p c) := by
  refine ⟨by rw [List.length_set]; exact h.1, fun q hq => ?_⟩
  by_cases hqp : q = p
  · subst hqp
    exact ⟨_, _, by rw [List.getElem?_set, if_pos rfl, if_pos (by rw [h.1]; exact hp)], ho⟩
  · obtain ⟨c2', ys2, e2, e3⟩ := h.2 q hq
    exact ⟨c2', ys2, by rw [List.getElem?_set, if_neg (by omega)]; exact e2, e3⟩

section
variable {w : World}
theorem fown_c {x : TX} (h : TxAt w x) (hx : TxOk x) : Calls Try.prog 6 #[.agg ⟨txr x⟩] w fun en w' => en = .returned (.bool true) ∧ Fr [] w w' := by
  have hsz := hx.sz
  have hll := locksOf_len x
  apply c6
  refine h_new (Has.init w) fun n14 u H => h_drew H fun u H => h_ldS H (by repeat (first | exact pick_head | apply pick_tail | apply pick_app)) rfl (h_ldS H (by repeat (first | exact pick_head | apply pick_tail | apply pick_app)) rfl ?_)
  have H : Has w u [cl n14 39 (txr x)] := H
  refine s_call (clone_c (h.rd.fr0 H.base) rfl (by omega)) ?_
  rintro _ u ⟨v1, k1, rfl, ho1, H1⟩
  have H := H.join H1
  obtain ⟨q1, d1, rfl⟩ := ho1.slice
  refine ⟨_, rfl, s_asS ?_⟩
  refine s_chk (by repeat (first | exact c_nil | refine hc_cons H (by repeat (first | exact pick_head | apply pick_tail | apply pick_app)) rfl ?_)) ?_
  refine s_call (clone_c (h.wr.fr0 H.base) rfl (by omega)) ?_
  rintro _ u ⟨v2, k2, rfl, ho2, H2⟩
  have H := H.join H2
  obtain ⟨q2, d2, rfl⟩ := ho2.slice
  refine ⟨_, rfl, s_asS ?_⟩
  refine s_chk (by repeat (first | exact c_nil | refine hc_cons H (by repeat (first | exact pick_head | apply pick_tail | apply pick_app)) rfl ?_)) ?_
  iterate 2 refine h_ldI H (by repeat (first | exact pick_head | apply pick_tail | apply pick_app)) rfl ?_
  iterate 4 refine h_ldS H (by repeat (first | exact pick_head | apply pick_tail | apply pick_app)) rfl ?_
  refine s_call (of_c (h.fr0 H.base) hx 2) ?_
  rintro _ u ⟨l, c, rfl, ⟨f, g, o1, o2, c1, c2, cr, cw, cp, ca, rfl, rfl, hfo, hgo, -, -⟩, Hc⟩
  have H := H.join Hc
  have hF : ∀ p, (FP 2 (KS x.rd) p).length ≤ x.rd.length := fun p => by have := FP_len 2 (KS x.rd) p; have := KS_len x.rd; omega
  have hG : ∀ p, (FP 2 (KS x.wr) p).length ≤ x.wr.length := fun p => by have := FP_len 2 (KS x.wr) p; have := KS_len x.wr; omega
  refine ⟨_, rfl, s_asA (s_req rfl ?_)⟩
  unfold footAll at *
  generalize FP 2 (KS x.rd) = F at *
  generalize FP 2 (KS x.wr) = G at *
  rw [foot_lits]
  iterate 18 refine s_asS ?_
  refine h_new H fun n99 u H => ?_
  iterate 18 (refine h_st H (by repeat (first | exact pick_head | apply pick_tail | apply pick_app)) (bst _ _ rfl) rfl fun u H => ?_; simp only [List.set_cons_zero, List.set_cons_succ] at H)
  have H : Has w u (cl n99 45 (footL f F ++ footL g G ++ [.slice o1 (partsOf 2 x).length c1, .slice o2 (activeOf 2 x).length c2]) :: (cr.flatten ++ (cw.flatten ++ (k2 ++ (k1 ++ [cl n14 39 (txr x)]))))) := by
    rw [foot_lits]
    simp only [List.append_assoc] at H
    exact H.sub (by repeat (first | exact sb_refl | exact sb_nil | refine sb_cons (by repeat (first | exact pick_head | apply pick_tail | apply pick_app)) ?_ | refine sb_app (by repeat (first | exact cut_head | exact cut_all | apply cut_tail | apply cut_app)) ?_ | exact sb_one (by repeat (first | exact cut_head | exact cut_all | apply cut_tail | apply cut_app))))
  generalize hL : footL f F ++ footL g G ++ [.slice o1 (partsOf 2 x).length c1, .slice o2 (activeOf 2 x).length c2] = L at *
  have hget : ∀ i : Nat, i < 8 → L[0 + Int.toNat (i : Int) * 1]? = some (.slice (f.o i) (F i).length (f.c i)) := by
    intro i hi
    rw [← hL, Int.toNat_natCast, Nat.zero_add, Nat.mul_one, List.append_assoc, List.getElem?_append_left (by rw [footL_len]; exact hi), footL_get hi]
  have hget8 : ∀ i : Nat, i < 8 → L[8 + Int.toNat (i : Int) * 1]? = some (.slice (g.o i) (G i).length (g.c i)) := by
    intro i hi
    rw [← hL, Int.toNat_natCast, Nat.mul_one, List.append_assoc, List.getElem?_append_right (by rw [footL_len]; omega), footL_len, show 8 + i - 8 = i by omega, List.getElem?_append_left (by rw [footL_len]; exact hi), footL_get hi]
  clear hL
  have hfs := hfo.some
  have hgs := hgo.some
  clear hfo hgo
  refine s_loop (fun xs W => ∃ (p : Nat) (cr cw : List Hp), xs = [.int .i64 p] ∧ p ≤ 8 ∧ SomeF f F cr ∧ SomeF g G cw ∧ Has w W (cl n99 45 L :: (cr.flatten ++ (cw.flatten ++ (k2 ++ (k1 ++ [cl n14 39 (txr x)]))))))
    (fun xs _ => 8 - (intOf (xs.getD 0 undef)).toNat) ⟨0, cr, cw, rfl, by omega, hfs, hgs, H⟩ ?_
  clear H hfs hgs
  rintro _ j W ⟨p, cr, cw, rfl, hp, hfs, hgs, H⟩
  refine s_asI (s_ite (fun g1 => ?_) (fun g1 => ?_))
  · have g1 : (p : Int) < 8 := by simpa using g1
    have hp8 : p < 8 := by omega
    have hFp := hF p
    have hGp := hG p
    refine s_req ⟨by omega, g1⟩ (h_ldS H (by repeat (first | exact pick_head | apply pick_tail | apply pick_app)) (hget p hp8) ?_)
    obtain ⟨c, ys, hc, hoc⟩ := hfs.2 p hp8
    have H := H.pullc (cut_tail (cut_app' (cut_flat hc)) : Cut c (cl n99 45 L :: (cr.flatten ++ (cw.flatten ++ (k2 ++ (k1 ++ [cl n14 39 (txr x)]))))) (cl n99 45 L :: ((cr.set p []).flatten ++ (cw.flatten ++ (k2 ++ (k1 ++ [cl n14 39 (txr x)]))))))
    refine s_loop (fun xs W => ∃ (i : Nat) (ys : List Value) (c : Hp), xs = [.int .i64 i] ∧ i ≤ (F p).length ∧ OwnC 50 2 (.slice (f.o p) (F p).length (f.c p)) (F p).length ys c ∧ Has w W (c ++ (cl n99 45 L :: ((cr.set p []).flatten ++ (cw.flatten ++ (k2 ++ (k1 ++ [cl n14 39 (txr x)])))))))
      (fun xs _ => (F p).length - (intOf (xs.getD 0 undef)).toNat) ⟨0, _, c, rfl, by omega, hoc, H⟩ ?_
    clear H hoc
    rintro _ j2 W2 ⟨i, ys, c', rfl, hi, hoc', H⟩
    refine s_asI (s_ite (fun g2 => ?_) (fun g2 => ?_))
    · simp only [decide_eq_true_eq] at g2
      have hlt : i < (F p).length := by omega
      obtain ⟨g', cap', sp, hv', _⟩ := hoc'.pos (by omega)
      have hyl := hoc'.len
      refine s_req ⟨by omega, g1⟩ (h_ldS H (by repeat (first | exact pick_head | apply pick_tail | apply pick_app)) (hget p hp8) (s_req ⟨by omega, g2⟩ ⟨g', 0, (Value.slice.inj hv').1, ?_⟩))
      rw [hv'] at hoc'
      refine h_stC H (by repeat (first | exact cut_head | exact cut_all | apply cut_tail | apply cut_app)) hoc' (by rw [Int.toNat_natCast]; omega) rfl fun c2' u hoc' H => s_next (by first | exact ⟨rfl, rfl⟩ | trivial) ?_
      rw [← hv'] at hoc'
      simp (config := { decide := true }) only [if_true, if_false]
      exact ⟨⟨i + 1, _, c2', by rw [w_succ (by omega)], by omega, hoc', H⟩, by rw [w_succ (by omega)]; simp [intOf] <;> omega⟩
    · have hpl : p < cr.length := by rw [hfs.1]; exact hp8
      have hpm := flat_put (cs := cr) (p := p) hpl c'
      have hfs := hfs.set hp8 hoc'
      have H : Has w W2 (cl n99 45 L :: ((c' ++ (cr.set p []).flatten) ++ (cw.flatten ++ (k2 ++ (k1 ++ [cl n14 39 (txr x)]))))) := H.sub (by
        rw [List.append_assoc]
        exact (by repeat (first | exact sb_refl | exact sb_nil | refine sb_cons (by repeat (first | exact pick_head | apply pick_tail | apply pick_app)) ?_ | refine sb_app (by repeat (first | exact cut_head | exact cut_all | apply cut_tail | apply cut_app)) ?_ | exact sb_one (by repeat (first | exact cut_head | exact cut_all | apply cut_tail | apply cut_app)))))
      have H := H.perm (List.Perm.cons _ (List.Perm.append_right _ hpm))
      generalize cr.set p c' = cr at *
      clear hpm hpl hc hoc' hi g2
      refine s_req ⟨by omega, g1⟩ (h_ldS H (by repeat (first | exact pick_head | apply pick_tail | apply pick_app)) (hget8 p hp8) ?_)
      obtain ⟨c, ys, hc, hoc⟩ := hgs.2 p hp8
      have H := H.pullc (cut_tail (cut_app (cut_app' (cut_flat hc))) : Cut c (cl n99 45 L :: (cr.flatten ++ (cw.flatten ++ (k2 ++ (k1 ++ [cl n14 39 (txr x)]))))) (cl n99 45 L :: (cr.flatten ++ ((cw.set p []).flatten ++ (k2 ++ (k1 ++ [cl n14 39 (txr x)]))))))
      refine s_loop (fun xs W => ∃ (i : Nat) (ys : List Value) (c : Hp), xs = [.int .i64 i] ∧ i ≤ (G p).length ∧ OwnC 50 2 (.slice (g.o p) (G p).length (g.c p)) (G p).length ys c ∧ Has w W (c ++ (cl n99 45 L :: (cr.flatten ++ ((cw.set p []).flatten ++ (k2 ++ (k1 ++ [cl n14 39 (txr x)])))))))
        (fun xs _ => (G p).length - (intOf (xs.getD 0 undef)).toNat) ⟨0, _, c, rfl, by omega, hoc, H⟩ ?_
      clear H hoc
      rintro _ j2 W3 ⟨i, ys, c', rfl, hi, hoc', H⟩
      refine s_asI (s_ite (fun g2 => ?_) (fun g2 => ?_))
      · simp only [decide_eq_true_eq] at g2
        have hlt : i < (G p).length := by omega
        obtain ⟨g', cap', sp, hv', _⟩ := hoc'.pos (by omega)
        have hyl := hoc'.len
        refine s_req ⟨by omega, g1⟩ (h_ldS H (by repeat (first | exact pick_head | apply pick_tail | apply pick_app)) (hget8 p hp8) (s_req ⟨by omega, g2⟩ ⟨g', 0, (Value.slice.inj hv').1, ?_⟩))
        rw [hv'] at hoc'
        refine h_stC H (by repeat (first | exact cut_head | exact cut_all | apply cut_tail | apply cut_app)) hoc' (by rw [Int.toNat_natCast]; omega) rfl fun c2' u hoc' H => s_next (by first | exact ⟨rfl, rfl⟩ | trivial) ?_
        rw [← hv'] at hoc'
        simp (config := { decide := true }) only [if_true, if_false]
        exact ⟨⟨i + 1, _, c2', by rw [w_succ (by omega)], by omega, hoc', H⟩, by rw [w_succ (by omega)]; simp [intOf] <;> omega⟩
      · have hpl : p < cw.length := by rw [hgs.1]; exact hp8
        have hpm := flat_put (cs := cw) (p := p) hpl c'
        have hgs := hgs.set hp8 hoc'
        have H : Has w W3 (cl n99 45 L :: (cr.flatten ++ ((c' ++ (cw.set p []).flatten) ++ (k2 ++ (k1 ++ [cl n14 39 (txr x)]))))) := H.sub (by
          rw [List.append_assoc]
          exact (by repeat (first | exact sb_refl | exact sb_nil | refine sb_cons (by repeat (first | exact pick_head | apply pick_tail | apply pick_app)) ?_ | refine sb_app (by repeat (first | exact cut_head | exact cut_all | apply cut_tail | apply cut_app)) ?_ | exact sb_one (by repeat (first | exact cut_head | exact cut_all | apply cut_tail | apply cut_app)))))
        have H := H.perm (List.Perm.cons _ (List.Perm.append_left _ (List.Perm.append_right _ hpm)))
        refine s_next (by first | exact ⟨rfl, rfl⟩ | trivial) ?_
        simp (config := { decide := true }) only [if_true, if_false]
        exact ⟨⟨p + 1, cr, cw.set p c', by rw [w_succ (by omega)], by omega, hfs, hgs, H⟩, by rw [w_succ (by omega)]; simp [intOf] <;> omega⟩
  · have H : Has w W (k2 ++ (k1 ++ [cl n14 39 (txr x)])) := H.sub (by repeat (first | exact sb_refl | exact sb_nil | refine sb_cons (by repeat (first | exact pick_head | apply pick_tail | apply pick_app)) ?_ | refine sb_app (by repeat (first | exact cut_head | exact cut_all | apply cut_tail | apply cut_app)) ?_ | exact sb_one (by repeat (first | exact cut_head | exact cut_all | apply cut_tail | apply cut_app))))
    clear hfs hgs hget hget8 hF hG
    refine h_drew H fun u H => ?_
    iterate 2 refine h_ldI H (by repeat (first | exact pick_head | apply pick_tail | apply pick_app)) rfl ?_
    iterate 4 refine h_ldS H (by repeat (first | exact pick_head | apply pick_tail | apply pick_app)) rfl ?_
    iterate 2 refine h_ldI H (by repeat (first | exact pick_head | apply pick_tail | apply pick_app)) rfl ?_
    iterate 4 refine h_ldS H (by repeat (first | exact pick_head | apply pick_tail | apply pick_app)) rfl ?_
    refine s_call (locks_c (h.fr0 H.base) hx) ?_
    rintro _ u ⟨v3, c3, rfl, ho3, Hc3⟩
    have H := H.join Hc3
    obtain ⟨o3, cap3, rfl⟩ := ho3.slice
    refine ⟨_, rfl, s_asS ?_⟩
    refine s_chk (by repeat (first | exact c_nil | refine hc_cons H (by repeat (first | exact pick_head | apply pick_tail | apply pick_app)) rfl ?_)) ?_
    refine s_call (at_c (h.fr0 H.base) hx 0 1) ?_
    rintro _ u ⟨v4, c4, rfl, ho4, Hc4⟩
    have H := H.join Hc4
    obtain ⟨o4, cap4, rfl⟩ := ho4.slice
    have hatl : (atOf x 0 1).length ≤ (locksOf x).length := List.length_filter_le _ _
    refine ⟨_, rfl, s_asS ?_⟩
    refine s_chk (by repeat (first | exact c_nil | refine hc_cons H (by repeat (first | exact pick_head | apply pick_tail | apply pick_app)) rfl ?_)) ?_
    (refine h_new H fun n161 u H => ?_)
    refine s_chk (by repeat (first | exact c_nil | refine hc_cons H (by repeat (first | exact pick_head | apply pick_tail | apply pick_app)) rfl ?_)) ?_
    generalize hn3 : (locksOf x).length = m3 at *
    generalize hn4 : (atOf x 0 1).length = m4 at *
    refine s_loop (fun xs W => ∃ (p : Nat) (y3 y4 : List Value) (c3 c4 : Hp), xs = [.int .i64 p] ∧ p ≤ 2 ∧ OwnC 52 3 (.slice o3 m3 cap3) m3 y3 c3 ∧ OwnC 52 3 (.slice o4 m4 cap4) m4 y4 c4 ∧
        Has w W (cl n161 48 [.slice o3 m3 cap3, .slice o4 m4 cap4] :: (c4 ++ (c3 ++ (k2 ++ (k1 ++ [cl n14 39 (txr x)]))))))
      (fun xs _ => 2 - (intOf (xs.getD 0 undef)).toNat) ⟨0, _, _, c3, c4, rfl, by omega, ho3, ho4, H⟩ ?_
    clear H ho3 ho4
    rintro _ j2 W2 ⟨p, y3, y4, c3, c4, rfl, hp2, ho3, ho4, H⟩
    refine s_asI (s_ite (fun g2 => ?_) (fun g2 => ?_))
    · have g2 : (p : Int) < 2 := by simpa using g2
      refine s_req ⟨by omega, g2⟩ (s_sm ?_)
      rcases (show p = 0 ∨ p = 1 by omega) with rfl | rfl
      · refine h_ldS H (by repeat (first | exact pick_head | apply pick_tail | apply pick_app)) rfl ?_
        refine s_loop (fun xs W => ∃ (i : Nat) (y3 : List Value) (c3 : Hp), xs = [.int .i64 i] ∧ i ≤ m3 ∧ OwnC 52 3 (.slice o3 m3 cap3) m3 y3 c3 ∧ Has w W (cl n161 48 [.slice o3 m3 cap3, .slice o4 m4 cap4] :: (c4 ++ (c3 ++ (k2 ++ (k1 ++ [cl n14 39 (txr x)]))))))
          (fun xs _ => m3 - (intOf (xs.getD 0 undef)).toNat) ⟨0, _, c3, rfl, by omega, ho3, H⟩ ?_
        clear H ho3
        rintro _ j3 W3 ⟨i, y3, c3, rfl, hi, ho3, H⟩
        refine s_asI (s_ite (fun g3 => ?_) (fun g3 => s_next (by first | exact ⟨rfl, rfl⟩ | trivial) ?_))
        · simp only [decide_eq_true_eq] at g3
          obtain ⟨g', cap', sp, hv', _⟩ := ho3.pos (by omega)
          have hyl := ho3.len
          refine s_req ⟨by omega, g3⟩ ⟨g', 0, (Value.slice.inj hv').1, ?_⟩
          rw [hv'] at ho3
          refine h_stC H (by repeat (first | exact cut_head | exact cut_all | apply cut_tail | apply cut_app)) ho3 (by rw [Int.toNat_natCast]; omega) rfl fun c2' u ho3 H => s_next (by first | exact ⟨rfl, rfl⟩ | trivial) ?_
          rw [← hv'] at ho3
          simp (config := { decide := true }) only [if_true, if_false]
          exact ⟨⟨i + 1, _, c2', by rw [w_succ (by omega)], by omega, ho3, H.sub (by repeat (first | exact sb_refl | exact sb_nil | refine sb_cons (by repeat (first | exact pick_head | apply pick_tail | apply pick_app)) ?_ | refine sb_app (by repeat (first | exact cut_head | exact cut_all | apply cut_tail | apply cut_app)) ?_ | exact sb_one (by repeat (first | exact cut_head | exact cut_all | apply cut_tail | apply cut_app))))⟩, by rw [w_succ (by omega)]; simp [intOf] <;> omega⟩
        · simp (config := { decide := true }) only [if_true, if_false]
          exact ⟨⟨1, y3, y4, c3, c4, rfl, by omega, ho3, ho4, H⟩, by decide⟩
      · refine h_ldS H (by repeat (first | exact pick_head | apply pick_tail | apply pick_app)) rfl ?_
        refine s_loop (fun xs W => ∃ (i : Nat) (y4 : List Value) (c4 : Hp), xs = [.int .i64 i] ∧ i ≤ m4 ∧ OwnC 52 3 (.slice o4 m4 cap4) m4 y4 c4 ∧ Has w W (cl n161 48 [.slice o3 m3 cap3, .slice o4 m4 cap4] :: (c4 ++ (c3 ++ (k2 ++ (k1 ++ [cl n14 39 (txr x)]))))))
          (fun xs _ => m4 - (intOf (xs.getD 0 undef)).toNat) ⟨0, _, c4, rfl, by omega, ho4, H⟩ ?_
        clear H ho4
        rintro _ j3 W3 ⟨i, y4, c4, rfl, hi, ho4, H⟩
        refine s_asI (s_ite (fun g3 => ?_) (fun g3 => s_next (by first | exact ⟨rfl, rfl⟩ | trivial) ?_))
        · simp only [decide_eq_true_eq] at g3
          obtain ⟨g', cap', sp, hv', _⟩ := ho4.pos (by omega)
          have hyl := ho4.len
          refine s_req ⟨by omega, g3⟩ ⟨g', 0, (Value.slice.inj hv').1, ?_⟩
          rw [hv'] at ho4
          refine h_stC H (by repeat (first | exact cut_head | exact cut_all | apply cut_tail | apply cut_app)) ho4 (by rw [Int.toNat_natCast]; omega) rfl fun c2' u ho4 H => s_next (by first | exact ⟨rfl, rfl⟩ | trivial) ?_
          rw [← hv'] at ho4
          simp (config := { decide := true }) only [if_true, if_false]
          exact ⟨⟨i + 1, _, c2', by rw [w_succ (by omega)], by omega, ho4, H.sub (by repeat (first | exact sb_refl | exact sb_nil | refine sb_cons (by repeat (first | exact pick_head | apply pick_tail | apply pick_app)) ?_ | refine sb_app (by repeat (first | exact cut_head | exact cut_all | apply cut_tail | apply cut_app)) ?_ | exact sb_one (by repeat (first | exact cut_head | exact cut_all | apply cut_tail | apply cut_app))))⟩, by rw [w_succ (by omega)]; simp [intOf] <;> omega⟩
        · simp (config := { decide := true }) only [if_true, if_false]
          exact ⟨⟨2, y3, y4, c3, c4, rfl, by omega, ho3, ho4, H⟩, by decide⟩
    · refine s_call live_c ?_
      rintro _ u ⟨rfl, f0⟩
      have H := H.fr0 f0
      refine ⟨_, rfl, s_asB (s_true rfl (h_ldS H (by repeat (first | exact pick_head | apply pick_tail | apply pick_app)) rfl ?_))⟩
      refine s_call (eqK_c (h.rd.fr0 H.base) (keysAt_own (l := x.rd) ho1 H (by repeat (first | exact cut_head | exact cut_all | apply cut_tail | apply cut_app))) rfl rfl (by omega)) ?_
      rintro _ u ⟨rfl, f0⟩
      have H := H.fr0 f0
      refine ⟨_, rfl, s_asB (s_true (decide_eq_true rfl) (h_ldS H (by repeat (first | exact pick_head | apply pick_tail | apply pick_app)) rfl ?_))⟩
      refine s_call (eqK_c (h.wr.fr0 H.base) (keysAt_own (l := x.wr) ho2 H (by repeat (first | exact cut_head | exact cut_all | apply cut_tail | apply cut_app))) rfl rfl (by omega)) ?_
      rintro _ u ⟨rfl, f0⟩
      have H := H.fr0 f0
      exact ⟨_, rfl, s_asB (s_ret ⟨by simp, H.base⟩)⟩
end
end Go.Proofs.Ytndkffhlheaepaa
