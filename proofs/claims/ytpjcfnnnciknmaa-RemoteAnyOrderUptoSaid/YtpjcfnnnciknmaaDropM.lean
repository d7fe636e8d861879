/- A box: Drop, Len. -/
import Derived.Test.YtpjcfnnnciknmaaKnM
import Derived.Test.YtpjcfnnnciknmaaMapD
set_option linter.unusedVariables false
set_option linter.unusedSimpArgs false
set_option maxRecDepth 100000
set_option maxHeartbeats 8000000
namespace Go.Proofs.Ytpjcfnnnciknmaa
open Go hiding Expr
open Go.RowKit Tr

def dropC (F : Fx → Option (List PR)) (t : Ix) : Fx → Option (List PR) := fun k => if k.1 = t then none else F k
def dropB (X : BX) (t : Ix) : BX := ⟨X.parts, upd X.needs t none, dropC X.came t⟩
def known (X : BX) (t : Ix) : Prop := (X.needs t).isSome = true ∨ ∃ n, (X.came (t, n)).isSome = true
section
variable {w0 w : World} {p : Nat} {X : BX} {c m : Hp}
theorem cld_c {k : Fx} {t : Ix} {o : Option Addr} {n cap r : Nat} (h : Cells w r 28 (ixr t)) : Calls Try.prog 35 #[.agg ⟨fxr k⟩, .slice o n cap, .pointer (some ⟨r, 0, none⟩)] w fun e w' => e = .returned (.bool (decide (k.1 = t))) ∧ Fr [] w w' := by
  apply c35
  refine h_new (Has.init w) fun n8 u H => h_ldI H (b := n8) (by repeat (first | exact pick_head | apply pick_tail | apply pick_app)) rfl (h_ldI H (b := n8) (by repeat (first | exact pick_head | apply pick_tail | apply pick_app)) rfl ?_)
  have h := H.base.cells h (by simp)
  refine s_ldI h rfl (s_ldI h rfl (s_ret ⟨?_, H.base⟩))
  congr 2
  rw [Bool.eq_iff_iff, decide_eq_true_iff]
  simp only [Bool.and_true, Bool.and_eq_true, beq_iff_eq]
  exact ⟨fun h => Ix.ext' h.1 h.2, fun h => by rw [h]; exact ⟨rfl, rfl⟩⟩

theorem delf_c {bc n4 : Nat} {oc : Obj} {cc : Hp} {F : Fx → Option (List PR)} {t : Ix} (hc : MC' oc cc F) (H : Has w0 w ((bc, oc) :: cl n4 28 (ixr t) :: (cc ++ m))) :
    Calls Try.prog 34 #[.map (some bc), .func (.func 35) #[] #[.pointer (some ⟨n4, 0, none⟩)]] w fun e w' =>
      (∃ v, e = .returned v) ∧ ∃ oc' cc', MC' oc' cc' (dropC F t) ∧ Has w0 w' ((bc, oc') :: cl n4 28 (ixr t) :: (cc' ++ m)) := by
  have hc0 := hc
  obtain ⟨D, cs, hcs, hM, hE⟩ := hc
  have hD : ∀ k, (F k).isSome = true → k ∈ D.map (·.1) := fun k hk => by
    obtain ⟨s, hs⟩ := hE.all k (by simp) hk
    exact List.mem_map.2 ⟨_, hs, rfl⟩
  apply c34
  refine h_range H (b := bc) (o := oc) (by repeat (first | exact pick_head | apply pick_tail | apply pick_app)) hM mapC fun r u i hL H => ?_
  refine s_asP (s_sm (s_req rfl ?_))
  refine s_loop (fun vs W => ∃ (L : List (Fx × SP)) (o i : Obj) (c : Hp) (F' : Fx → Option (List PR)), vs = [] ∧ LeftO bc kfF vS o i L ∧ (L.map (·.1)).Nodup ∧ (∀ k ∈ L.map (·.1), ∃ l, keyOf Try.prog 68 (kfF k) = some l) ∧ MC' o c F' ∧
      (∀ k, F' k = if k.1 = t ∧ k ∉ L.map (·.1) then none else F k) ∧ Has w0 W ((r, i) :: (bc, o) :: cl n4 28 (ixr t) :: (c ++ m))) (fun _ W => leftN W bc r)
    ⟨D, oc, i, cc, F, rfl, hL, hE.keys, ?_, hc0, ?_, H⟩ ?_
  · intro k hk
    obtain ⟨q, hq, rfl⟩ := List.mem_map.1 hk
    exact hM.keys q hq
  · intro k
    split
    · rename_i h
      cases hk : F k with
      | none => rfl
      | some b => exact absurd (hD k (by rw [hk]; rfl)) h.2
    · rfl
  clear H hL hM hE hc0 hD hcs
  rintro _ j W ⟨L, o, i, c, F', rfl, hL, hnd, hkeys, hc, hF, H⟩
  refine h_next H (b := bc) (o := o) (r := r) (i := i) (by repeat (first | exact pick_head | apply pick_tail | apply pick_app)) (by repeat (first | exact pick_head | apply pick_tail | apply pick_app)) hL (fun hnil => ?_) ?_
  · subst hnil
    refine s_asU (s_true rfl (s_req rfl (s_false rfl (s_ret ⟨⟨_, rfl⟩, o, c, hc.congr fun k => ?_, H.sub (by repeat (first | exact sb_refl | exact sb_nil | refine sb_cons (by repeat (first | exact pick_head | apply pick_tail | apply pick_app)) ?_ | refine sb_app (by repeat (first | exact cut_head | exact cut_all | apply cut_tail | apply cut_app)) ?_ | exact sb_one (by repeat (first | exact cut_head | exact cut_all | apply cut_tail | apply cut_app))))⟩))))
    rw [hF]
    simp [dropC]
  · intro q L' w2 i' hperm hL' hlast H2
    have hlen2 := hL.num (H.get (e := (bc, o)) (by repeat (first | exact pick_head | apply pick_tail | apply pick_app))) (H.get (e := (r, i)) (by repeat (first | exact pick_head | apply pick_tail | apply pick_app)))
    have hlen' : L.length = L'.length + 1 := by have := hperm.length_eq; simpa using this
    have hp1 := hperm.map (fun p : Fx × SP => p.1)
    have hnd' : (q.1 :: L'.map (·.1)).Nodup := hp1.nodup_iff.1 hnd
    obtain ⟨hq1, hq2⟩ := List.nodup_cons.1 hnd'
    obtain ⟨lk, hlk⟩ := hkeys q.1 (hp1.mem_iff.2 (by simp))
    have hkeys' : ∀ k ∈ L'.map (·.1), ∃ l, keyOf Try.prog 68 (kfF k) = some l := fun k hk => hkeys k (hp1.mem_iff.2 (by simp only [List.map_cons, List.mem_cons]; exact .inr hk))
    have H := H2
    clear H2
    refine s_asU (s_false rfl (s_req ⟨rfl, rfl⟩ (s_asA (s_req rfl (s_asI (s_asI (s_asI (s_asS (s_true rfl (h_entry H (b := bc) (o := o) (r := r) (i := i') (by repeat (first | exact pick_head | apply pick_tail | apply pick_app)) (by repeat (first | exact pick_head | apply pick_tail | apply pick_app)) hlast (s_asU (s_req rfl (s_asA (s_req rfl (s_asI (s_asI (s_asI (s_asS ?_))))))))))))))))))
    (refine h_new H fun n31 u H => ?_)
    iterate 3 refine h_st H (b := n31) (by repeat (first | exact pick_head | apply pick_tail | apply pick_app)) (by first | (simp; done) | exact Nat.le_of_ble_eq_true rfl) rfl fun u H => ?_
    refine h_ldI H (b := n31) (by repeat (first | exact pick_head | apply pick_tail | apply pick_app)) rfl (h_ldI H (b := n31) (by repeat (first | exact pick_head | apply pick_tail | apply pick_app)) rfl (h_ldI H (b := n31) (by repeat (first | exact pick_head | apply pick_tail | apply pick_app)) rfl ?_))
    refine s_call (cld_c (k := q.1) (t := t) (H.cells (b := n4) (by repeat (first | exact pick_head | apply pick_tail | apply pick_app)))) ?_
    rintro _ u ⟨rfl, f⟩
    have H := H.fr0 f
    refine ⟨_, rfl, s_asB (s_ite (fun g => ?_) (fun g => ?_))⟩
    · have g : q.1.1 = t := by simpa using g
      refine h_ldI H (b := n31) (by repeat (first | exact pick_head | apply pick_tail | apply pick_app)) rfl (h_ldI H (b := n31) (by repeat (first | exact pick_head | apply pick_tail | apply pick_app)) rfl (h_ldI H (b := n31) (by repeat (first | exact pick_head | apply pick_tail | apply pick_app)) rfl ?_))
      have hdel : ∃ (qq : Option SP) (c2 : Hp), MX Try.prog 68 kfF vS OwnP o c2 F' q.1 qq ∧ Has w0 u ((r, i') :: (bc, o) :: cl n4 28 (ixr t) :: (c2 ++ m)) := by
        cases hq : F' q.1 with
        | none => exact ⟨none, c, hc.openN hq, H.sub (by repeat (first | exact sb_refl | exact sb_nil | refine sb_cons (by repeat (first | exact pick_head | apply pick_tail | apply pick_app)) ?_ | refine sb_app (by repeat (first | exact cut_head | exact cut_all | apply cut_tail | apply cut_app)) ?_ | exact sb_one (by repeat (first | exact cut_head | exact cut_all | apply cut_tail | apply cut_app))))⟩
        | some l0 =>
          obtain ⟨s, c1, c2, hcut, _, hx⟩ := hc.openS (a := q.1) hq
          have H1 : Has w0 u (c ++ ((r, i') :: (bc, o) :: cl n4 28 (ixr t) :: m)) := H.sub (by repeat (first | exact sb_refl | exact sb_nil | refine sb_cons (by repeat (first | exact pick_head | apply pick_tail | apply pick_app)) ?_ | refine sb_app (by repeat (first | exact cut_head | exact cut_all | apply cut_tail | apply cut_app)) ?_ | exact sb_one (by repeat (first | exact cut_head | exact cut_all | apply cut_tail | apply cut_app))))
          exact ⟨some s, c2, hx, (perm_cut hcut H1).sub (by repeat (first | exact sb_refl | exact sb_nil | refine sb_cons (by repeat (first | exact pick_head | apply pick_tail | apply pick_app)) ?_ | refine sb_app (by repeat (first | exact cut_head | exact cut_all | apply cut_tail | apply cut_app)) ?_ | exact sb_one (by repeat (first | exact cut_head | exact cut_all | apply cut_tail | apply cut_app))))⟩
      obtain ⟨qq, c2, hx, H⟩ := hdel
      refine f_deleteL (p := q) H (bk := bc) (o := o) (by repeat (first | exact pick_head | apply pick_tail | apply pick_app)) hx hL' hlast keyedF mapC (fun x => kfF_inj) hlk fun o' u2 hx' hL2 H => (s_next (by first | exact ⟨rfl, rfl⟩ | trivial) ?_)
      simp (config := { decide := true }) only [if_true, if_false]
      have hmf : MC' o' c2 (upd F' q.1 none) := hx'.closeN
      refine ⟨⟨L', o', i', c2, _, trivial, hL2, hq2, hkeys', hmf, fun k => ?_, H.sub (by repeat (first | exact sb_refl | exact sb_nil | refine sb_cons (by repeat (first | exact pick_head | apply pick_tail | apply pick_app)) ?_ | refine sb_app (by repeat (first | exact cut_head | exact cut_all | apply cut_tail | apply cut_app)) ?_ | exact sb_one (by repeat (first | exact cut_head | exact cut_all | apply cut_tail | apply cut_app))))⟩, ?_⟩
      · unfold upd
        by_cases hk : q.1 = k
        · subst hk
          rw [if_pos rfl, if_pos ⟨g, hq1⟩]
        · rw [if_neg hk, hF]
          have : k ∈ L.map (·.1) ↔ k ∈ L'.map (·.1) := by
            rw [hp1.mem_iff]
            simp only [List.map_cons, List.mem_cons]
            exact ⟨fun h => h.elim (fun h => absurd h.symm hk) id, .inr⟩
          simp only [this]
      · rw [hL2.num (H.get (e := (bc, o')) (by repeat (first | exact pick_head | apply pick_tail | apply pick_app))) (H.get (e := (r, i')) (by repeat (first | exact pick_head | apply pick_tail | apply pick_app))), hlen2]
        omega
    · have g : ¬ q.1.1 = t := by simpa using g
      refine s_next (by first | exact ⟨rfl, rfl⟩ | trivial) ?_
      simp (config := { decide := true }) only [if_true, if_false]
      refine ⟨⟨L', o, i', c, F', trivial, hL', hq2, hkeys', hc, fun k => ?_, H.sub (by repeat (first | exact sb_refl | exact sb_nil | refine sb_cons (by repeat (first | exact pick_head | apply pick_tail | apply pick_app)) ?_ | refine sb_app (by repeat (first | exact cut_head | exact cut_all | apply cut_tail | apply cut_app)) ?_ | exact sb_one (by repeat (first | exact cut_head | exact cut_all | apply cut_tail | apply cut_app))))⟩, ?_⟩
      · rw [hF]
        by_cases hk : q.1 = k
        · subst hk
          rw [if_neg (fun h => g h.1), if_neg (fun h => g h.1)]
        · have : k ∈ L.map (·.1) ↔ k ∈ L'.map (·.1) := by
            rw [hp1.mem_iff]
            simp only [List.map_cons, List.mem_cons]
            exact ⟨fun h => h.elim (fun h => absurd h.symm hk) id, .inr⟩
          simp only [this]
      · rw [hL'.num (H.get (e := (bc, o)) (by repeat (first | exact pick_head | apply pick_tail | apply pick_app))) (H.get (e := (r, i')) (by repeat (first | exact pick_head | apply pick_tail | apply pick_app))), hlen2]
        omega

theorem dropB_ok {t : Ix} (h : BxOk X) : BxOk (dropB X t) := by
  refine ⟨h.p0, h.p1, fun t' l' hl' => ?_, fun k l hl => ?_⟩
  · have hl' : upd X.needs t none t' = some l' := hl'
    unfold upd at hl'
    split at hl'
    · cases hl'
    · exact h.needs t' l' hl'
  · have hl : dropC X.came t k = some l := hl
    unfold dropC at hl
    split at hl
    · cases hl
    · exact h.came k l hl
theorem drop_c (H : Has w0 w (c ++ m)) (hB : BoxAt p X c) (hz : Ids.BxN X) {t : Ix} (ht : InI t) : Calls Try.prog 17 #[.pointer (some ⟨p, 0, none⟩), .agg ⟨ixr t⟩] w fun e w' =>
    ((¬ known X t) ∧ e = .returned (.int .i64 4) ∧ Has w0 w' (c ++ m)) ∨
    (known X t ∧ e = .returned (.int .i64 0) ∧ ∃ c', BoxAt p (dropB X t) c' ∧ Has w0 w' (c' ++ m)) := by
  have hB0 := hB
  obtain ⟨bn, bc, on, oc, cn, cc, rfl, hn, hc, hok⟩ := hB
  obtain ⟨ln, hln⟩ := keyOfI ht
  apply c17
  refine h_new H fun n4 u H => ?_
  refine s_call (none_c (boxW_of H (cut_tail cut_head) hB0)) ?_
  rintro _ _ ⟨rfl, rfl⟩
  refine ⟨_, rfl, s_asB (s_false rfl (h_drew H fun u H => h_ldI H (b := n4) (by repeat (first | exact pick_head | apply pick_tail | apply pick_app)) rfl (h_ldI H (b := n4) (by repeat (first | exact pick_head | apply pick_tail | apply pick_app)) rfl ?_)))⟩
  refine s_call (Ids.known_c (boxW_of H (cut_tail cut_head) hB0) hz) ?_
  rintro _ u ⟨l, v, c2, hkn, rfl, ho, H2, hlsz⟩
  have H := H.join H2
  obtain ⟨o9, cap9, rfl⟩ := ho.slice
  refine ⟨_, rfl, s_asS (s_chk (hc_cons H (b := n4) (by repeat (first | exact pick_head | apply pick_tail | apply pick_app)) rfl (hc_cons H (b := n4) (by repeat (first | exact pick_head | apply pick_tail | apply pick_app)) rfl c_nil)) ?_)⟩
  refine s_call (Ids.cont_c (Ids.keysAt_own ho H (by repeat (first | exact cut_head | exact cut_all | apply cut_tail | apply cut_app))) rfl (by omega) t) ?_
  rintro _ u ⟨rfl, f⟩
  have H := H.fr0 f
  refine ⟨_, rfl, s_asB (s_chk c_nil (s_ite (fun g => ?_) (fun g => ?_)))⟩
  · have g : ¬ t ∈ l := by simpa using g
    refine s_ret (.inl ⟨fun h => g ((hkn.2 t).2 h), rfl, H.sub (by repeat (first | exact sb_refl | exact sb_nil | refine sb_cons (by repeat (first | exact pick_head | apply pick_tail | apply pick_app)) ?_ | refine sb_app (by repeat (first | exact cut_head | exact cut_all | apply cut_tail | apply cut_app)) ?_ | exact sb_one (by repeat (first | exact cut_head | exact cut_all | apply cut_tail | apply cut_app))))⟩)
  · have g : t ∈ l := by simpa using g
    have hk : known X t := (hkn.2 t).1 g
    have H : Has w0 u (cl n4 28 (ixr t) :: cl p 57 (remC X bn bc) :: (bn, on) :: (bc, oc) :: (cn ++ (cc ++ m))) := by
      simp only [List.cons_append, List.append_assoc] at H
      exact H.sub (by repeat (first | exact sb_refl | exact sb_nil | refine sb_cons (by repeat (first | exact pick_head | apply pick_tail | apply pick_app)) ?_ | refine sb_app (by repeat (first | exact cut_head | exact cut_all | apply cut_tail | apply cut_app)) ?_ | exact sb_one (by repeat (first | exact cut_head | exact cut_all | apply cut_tail | apply cut_app))))
    refine h_drew H fun u H => h_ldM H (b := p) (by repeat (first | exact pick_head | apply pick_tail | apply pick_app)) rfl (h_ldI H (b := n4) (by repeat (first | exact pick_head | apply pick_tail | apply pick_app)) rfl (h_ldI H (b := n4) (by repeat (first | exact pick_head | apply pick_tail | apply pick_app)) rfl ?_))
    have hdel : ∃ (q : Option SP) (cn2 : Hp), MX Try.prog 28 kfI vS OwnN on cn2 X.needs t q ∧ Has w0 u (cl n4 28 (ixr t) :: cl p 57 (remC X bn bc) :: (bn, on) :: (bc, oc) :: (cn2 ++ (cc ++ m))) := by
      cases hq : X.needs t with
      | none => exact ⟨none, cn, hn.openN hq, H⟩
      | some l0 =>
        obtain ⟨s, c1, cn2, hcut, _, hx⟩ := hn.openS (a := t) hq
        have H1 : Has w0 u (cn ++ (cl n4 28 (ixr t) :: cl p 57 (remC X bn bc) :: (bn, on) :: (bc, oc) :: (cc ++ m))) := H.sub (by repeat (first | exact sb_refl | exact sb_nil | refine sb_cons (by repeat (first | exact pick_head | apply pick_tail | apply pick_app)) ?_ | refine sb_app (by repeat (first | exact cut_head | exact cut_all | apply cut_tail | apply cut_app)) ?_ | exact sb_one (by repeat (first | exact cut_head | exact cut_all | apply cut_tail | apply cut_app))))
        exact ⟨some s, cn2, hx, (perm_cut hcut H1).sub (by repeat (first | exact sb_refl | exact sb_nil | refine sb_cons (by repeat (first | exact pick_head | apply pick_tail | apply pick_app)) ?_ | refine sb_app (by repeat (first | exact cut_head | exact cut_all | apply cut_tail | apply cut_app)) ?_ | exact sb_one (by repeat (first | exact cut_head | exact cut_all | apply cut_tail | apply cut_app))))⟩
    obtain ⟨q, cn2, hx, H⟩ := hdel
    refine f_delete H (bk := bn) (o := on) (a := t) (kf := kfI) (vf := vS) (by repeat (first | exact pick_head | apply pick_tail | apply pick_app)) hx keyedI mapN (fun x => kfI_inj) hln fun on' u2 hx' H => ?_
    have hmf : MN' on' cn2 (upd X.needs t none) := hx'.closeN
    refine s_chk c_nil (h_ldM H (b := p) (by repeat (first | exact pick_head | apply pick_tail | apply pick_app)) rfl ?_)
    have H1 : Has w0 u2 ((bc, oc) :: cl n4 28 (ixr t) :: (cc ++ (cl p 57 (remC X bn bc) :: (bn, on') :: (cn2 ++ m)))) := H.sub (by repeat (first | exact sb_refl | exact sb_nil | refine sb_cons (by repeat (first | exact pick_head | apply pick_tail | apply pick_app)) ?_ | refine sb_app (by repeat (first | exact cut_head | exact cut_all | apply cut_tail | apply cut_app)) ?_ | exact sb_one (by repeat (first | exact cut_head | exact cut_all | apply cut_tail | apply cut_app))))
    refine s_call (delf_c hc H1) ?_
    rintro _ u3 ⟨⟨v, rfl⟩, oc', cc', hmc, H3⟩
    refine ⟨_, rfl, s_ret (.inr ⟨hk, rfl, _, ⟨bn, bc, on', oc', cn2, cc', rfl, hmf, hmc, dropB_ok hok⟩, ?_⟩)⟩
    have e : (cl p 57 (remC (dropB X t) bn bc) :: (bn, on') :: (bc, oc') :: (cn2 ++ cc')) ++ m = cl p 57 (remC X bn bc) :: (bn, on') :: (bc, oc') :: (cn2 ++ (cc' ++ m)) := by
      simp only [List.cons_append, List.append_assoc]
      rfl
    rw [e]
    exact H3.sub (by repeat (first | exact sb_refl | exact sb_nil | refine sb_cons (by repeat (first | exact pick_head | apply pick_tail | apply pick_app)) ?_ | refine sb_app (by repeat (first | exact cut_head | exact cut_all | apply cut_tail | apply cut_app)) ?_ | exact sb_one (by repeat (first | exact cut_head | exact cut_all | apply cut_tail | apply cut_app))))

theorem lenB_c (h : BoxW w p X) (hz : Ids.BxN X) : Calls Try.prog 18 #[.pointer (some ⟨p, 0, none⟩)] w fun e w' => ∃ l, Ids.KnOf X l ∧ e = .returned (.int .i64 l.length) ∧ Fr [] w w' := by
  apply c18
  refine s_call (none_c h) ?_
  rintro _ _ ⟨rfl, rfl⟩
  refine ⟨_, rfl, s_asB (s_false rfl (s_call (Ids.known_c h hz) ?_))⟩
  rintro _ u ⟨l, v, c2, hkn, rfl, ho, H2, hlsz⟩
  obtain ⟨o9, cap9, rfl⟩ := ho.slice
  exact ⟨_, rfl, s_asS (s_ret ⟨l, hkn, rfl, H2.base⟩)⟩
end
end Go.Proofs.Ytpjcfnnnciknmaa
