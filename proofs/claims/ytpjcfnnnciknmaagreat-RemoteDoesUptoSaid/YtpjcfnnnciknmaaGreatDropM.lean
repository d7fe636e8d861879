/- A box: Drop, Len. -/
import Derived.Test.YtpjcfnnnciknmaaGreatKnM
import Derived.Test.YtpjcfnnnciknmaaGreatMapD
set_option linter.unusedVariables false
set_option linter.unusedSimpArgs false
set_option maxRecDepth 100000
set_option maxHeartbeats 8000000
namespace Go.Proofs.YtpjcfnnnciknmaaGreat
open Go hiding Expr
open Go.RowKit Tr

def dropC (F : Fx → Option (List PR)) (t : Ix) : Fx → Option (List PR) := fun k => if k.1 = t then none else F k
def dropB (X : BX) (t : Ix) : BX := ⟨X.parts, upd X.needs t none, dropC X.came t⟩
def known (X : BX) (t : Ix) : Prop := (X.needs t).isSome = true ∨ ∃ n, (X.came (t, n)).isSome = true
section
variable {w0 w : World} {p : Nat} {X : BX} {c m : Hp}
theorem cld_c {k : Fx} {t : Ix} {o : Option Addr} {n cap r : Nat} (h : Cells w r 32 (ixr t)) : Calls Tryz.prog 42 #[.agg ⟨fxr k⟩, .slice o n cap, .pointer (some ⟨r, 0, none⟩)] w fun e w' => e = .returned (.bool (decide (k.1 = t))) ∧ Fr [] w w' := by
  apply c42
  refine h_new (Has.init w) fun n8 u H => h_ldI H (b := n8) (by repeat (first | exact pick_head | apply pick_tail | apply pick_app)) rfl (h_ldI H (b := n8) (by repeat (first | exact pick_head | apply pick_tail | apply pick_app)) rfl ?_)
  have h := H.base.cells h (by simp)
  refine s_ldI h rfl (s_ldI h rfl (s_ret ⟨?_, H.base⟩))
  congr 2
  rw [Bool.eq_iff_iff, decide_eq_true_iff]
  simp only [Bool.and_true, Bool.and_eq_true, beq_iff_eq]
  exact ⟨fun h => Ix.ext' h.1 h.2, fun h => by rw [h]; exact ⟨rfl, rfl⟩⟩

theorem delf_c {bc n4 : Nat} {oc : Obj} {cc : Hp} {F : Fx → Option (List PR)} {t : Ix} (hc : MC' oc cc F) (H : Has w0 w ((bc, oc) :: cl n4 32 (ixr t) :: (cc ++ m))) :
    Calls Tryz.prog 41 #[.map (some bc), .func (.func 42) #[] #[.pointer (some ⟨n4, 0, none⟩)]] w fun e w' =>
      (∃ v, e = .returned v) ∧ ∃ oc' cc' d, MC' oc' cc' (dropC F t) ∧ (cc' ++ d).Perm cc ∧ Has w0 w' ((bc, oc') :: cl n4 32 (ixr t) :: (cc' ++ (d ++ m))) := by
  have hc0 := hc
  obtain ⟨D, cs, hcs, hM, hE⟩ := hc
  have hD : ∀ k, (F k).isSome = true → k ∈ D.map (·.1) := fun k hk => by
    obtain ⟨s, hs⟩ := hE.all k (by simp) hk
    exact List.mem_map.2 ⟨_, hs, rfl⟩
  apply c41
  refine h_range H (b := bc) (o := oc) (by repeat (first | exact pick_head | apply pick_tail | apply pick_app)) hM mapC fun r u i hL H => ?_
  refine s_asP (s_sm (s_req rfl ?_))
  refine s_loop (fun vs W => ∃ (L : List (Fx × SP)) (o i : Obj) (c d : Hp) (F' : Fx → Option (List PR)), vs = [] ∧ LeftO bc kfF vS o i L ∧ (L.map (·.1)).Nodup ∧ (∀ k ∈ L.map (·.1), ∃ l, keyOf Tryz.prog 72 (kfF k) = some l) ∧ MC' o c F' ∧ (c ++ d).Perm cc ∧
      (∀ k, F' k = if k.1 = t ∧ k ∉ L.map (·.1) then none else F k) ∧ Has w0 W ((r, i) :: (bc, o) :: cl n4 32 (ixr t) :: (c ++ (d ++ m)))) (fun _ W => leftN W bc r)
    ⟨D, oc, i, cc, [], F, rfl, hL, hE.keys, ?_, hc0, by simp, ?_, H⟩ ?_
  · intro k hk
    obtain ⟨q, hq, rfl⟩ := List.mem_map.1 hk
    exact hM.keys q hq
  · intro k
    split
    · rename_i h
      cases hk : F k with
      | none => rfl
      | some b => exact absurd (hD k (by rw [hk]; rfl)) h.2
    · rfl
  clear H hL hM hE hc0 hD
  rintro _ j W ⟨L, o, i, c, d, F', rfl, hL, hnd, hkeys, hc, hd, hF, H⟩
  refine h_next H (b := bc) (o := o) (r := r) (i := i) (by repeat (first | exact pick_head | apply pick_tail | apply pick_app)) (by repeat (first | exact pick_head | apply pick_tail | apply pick_app)) hL (fun hnil => ?_) ?_
  · subst hnil
    refine s_asU (s_true rfl (s_req rfl (s_false rfl (s_ret ⟨⟨_, rfl⟩, o, c, d, hc.congr fun k => ?_, hd, H.sub (by repeat (first | exact sb_refl | exact sb_nil | refine sb_cons (by repeat (first | exact pick_head | apply pick_tail | apply pick_app)) ?_ | refine sb_app (by repeat (first | exact cut_head | exact cut_all | apply cut_tail | apply cut_app)) ?_ | exact sb_one (by repeat (first | exact cut_head | exact cut_all | apply cut_tail | apply cut_app))))⟩))))
    rw [hF]
    simp [dropC]
  · intro q L' w2 i' hperm hL' hlast H2
    have hlen2 := hL.num (H.get (e := (bc, o)) (by repeat (first | exact pick_head | apply pick_tail | apply pick_app))) (H.get (e := (r, i)) (by repeat (first | exact pick_head | apply pick_tail | apply pick_app)))
    have hlen' : L.length = L'.length + 1 := by have := hperm.length_eq; simpa using this
    have hp1 := hperm.map (fun p : Fx × SP => p.1)
    have hnd' : (q.1 :: L'.map (·.1)).Nodup := hp1.nodup_iff.1 hnd
    obtain ⟨hq1, hq2⟩ := List.nodup_cons.1 hnd'
    obtain ⟨lk, hlk⟩ := hkeys q.1 (hp1.mem_iff.2 (by simp))
    have hkeys' : ∀ k ∈ L'.map (·.1), ∃ l, keyOf Tryz.prog 72 (kfF k) = some l := fun k hk => hkeys k (hp1.mem_iff.2 (by simp only [List.map_cons, List.mem_cons]; exact .inr hk))
    have H := H2
    clear H2
    refine s_asU (s_false rfl (s_req ⟨rfl, rfl⟩ (s_asA (s_req rfl (s_asI (s_asI (s_asI (s_asS (s_true rfl (h_entry H (b := bc) (o := o) (r := r) (i := i') (by repeat (first | exact pick_head | apply pick_tail | apply pick_app)) (by repeat (first | exact pick_head | apply pick_tail | apply pick_app)) hlast (s_asU (s_req rfl (s_asA (s_req rfl (s_asI (s_asI (s_asI (s_asS ?_))))))))))))))))))
    (refine h_new H fun n31 u H => ?_)
    iterate 3 refine h_st H (b := n31) (by repeat (first | exact pick_head | apply pick_tail | apply pick_app)) (by first | (simp; done) | exact Nat.le_of_ble_eq_true rfl) rfl fun u H => ?_
    refine h_ldI H (b := n31) (by repeat (first | exact pick_head | apply pick_tail | apply pick_app)) rfl (h_ldI H (b := n31) (by repeat (first | exact pick_head | apply pick_tail | apply pick_app)) rfl (h_ldI H (b := n31) (by repeat (first | exact pick_head | apply pick_tail | apply pick_app)) rfl ?_))
    refine s_call (cld_c (k := q.1) (t := t) (H.cells (b := n4) (by repeat (first | exact pick_head | apply pick_tail | apply pick_app)))) ?_
    rintro _ u ⟨rfl, f⟩
    have H := H.fr0 f
    refine ⟨_, rfl, s_asB (s_ite (fun g => ?_) (fun g => ?_))⟩
    · have g : q.1.1 = t := by simpa using g
      refine h_ldI H (b := n31) (by repeat (first | exact pick_head | apply pick_tail | apply pick_app)) rfl (h_ldI H (b := n31) (by repeat (first | exact pick_head | apply pick_tail | apply pick_app)) rfl (h_ldI H (b := n31) (by repeat (first | exact pick_head | apply pick_tail | apply pick_app)) rfl ?_))
      have hdel : ∃ (qq : Option SP) (c2 d2 : Hp), MX Tryz.prog 72 kfF vS OwnP o c2 F' q.1 qq ∧ (c2 ++ d2).Perm cc ∧ Has w0 u ((r, i') :: (bc, o) :: cl n4 32 (ixr t) :: (c2 ++ (d2 ++ m))) := by
        cases hq : F' q.1 with
        | none => exact ⟨none, c, d, hc.openN hq, hd, H.sub (by repeat (first | exact sb_refl | exact sb_nil | refine sb_cons (by repeat (first | exact pick_head | apply pick_tail | apply pick_app)) ?_ | refine sb_app (by repeat (first | exact cut_head | exact cut_all | apply cut_tail | apply cut_app)) ?_ | exact sb_one (by repeat (first | exact cut_head | exact cut_all | apply cut_tail | apply cut_app))))⟩
        | some l0 =>
          obtain ⟨s, c1, c2, hcut, _, hx⟩ := hc.openS (a := q.1) hq
          have hcut' : (c2 ++ c1).Perm c := List.perm_append_comm.trans (List.Perm.symm hcut)
          have H1 : Has w0 u (c ++ ((r, i') :: (bc, o) :: cl n4 32 (ixr t) :: (d ++ m))) := H.sub (by repeat (first | exact sb_refl | exact sb_nil | refine sb_cons (by repeat (first | exact pick_head | apply pick_tail | apply pick_app)) ?_ | refine sb_app (by repeat (first | exact cut_head | exact cut_all | apply cut_tail | apply cut_app)) ?_ | exact sb_one (by repeat (first | exact cut_head | exact cut_all | apply cut_tail | apply cut_app))))
          have H2 := H1.perm (hcut'.symm.append_right _)
          rw [List.append_assoc] at H2
          refine ⟨some s, c2, c1 ++ d, hx, ?_, ?_⟩
          · rw [← List.append_assoc]
            exact (hcut'.append_right d).trans hd
          · rw [List.append_assoc]
            exact H2.sub (by repeat (first | exact sb_refl | exact sb_nil | refine sb_cons (by repeat (first | exact pick_head | apply pick_tail | apply pick_app)) ?_ | refine sb_app (by repeat (first | exact cut_head | exact cut_all | apply cut_tail | apply cut_app)) ?_ | exact sb_one (by repeat (first | exact cut_head | exact cut_all | apply cut_tail | apply cut_app))))
      obtain ⟨qq, c2, d2, hx, hd2, H⟩ := hdel
      refine f_deleteL (p := q) H (bk := bc) (o := o) (by repeat (first | exact pick_head | apply pick_tail | apply pick_app)) hx hL' hlast keyedF mapC (fun x => kfF_inj) hlk fun o' u2 hx' hL2 H => (s_next (by first | exact ⟨rfl, rfl⟩ | trivial) ?_)
      simp (config := { decide := true }) only [if_true, if_false]
      have hmf : MC' o' c2 (upd F' q.1 none) := hx'.closeN
      refine ⟨⟨L', o', i', c2, d2, _, trivial, hL2, hq2, hkeys', hmf, hd2, fun k => ?_, H.sub (by repeat (first | exact sb_refl | exact sb_nil | refine sb_cons (by repeat (first | exact pick_head | apply pick_tail | apply pick_app)) ?_ | refine sb_app (by repeat (first | exact cut_head | exact cut_all | apply cut_tail | apply cut_app)) ?_ | exact sb_one (by repeat (first | exact cut_head | exact cut_all | apply cut_tail | apply cut_app))))⟩, ?_⟩
      · unfold upd
        by_cases hk : q.1 = k
        · subst hk
          rw [if_pos rfl, if_pos ⟨g, hq1⟩]
        · rw [if_neg hk, hF]
          have : k ∈ L.map (·.1) ↔ k ∈ L'.map (·.1) := by
            rw [hp1.mem_iff]
            simp only [List.map_cons, List.mem_cons]
            exact ⟨fun h => h.elim (fun h => absurd h.symm hk) id, .inr⟩
          simp only [this]
      · rw [hL2.num (H.get (e := (bc, o')) (by repeat (first | exact pick_head | apply pick_tail | apply pick_app))) (H.get (e := (r, i')) (by repeat (first | exact pick_head | apply pick_tail | apply pick_app))), hlen2]
        omega
    · have g : ¬ q.1.1 = t := by simpa using g
      refine s_next (by first | exact ⟨rfl, rfl⟩ | trivial) ?_
      simp (config := { decide := true }) only [if_true, if_false]
      refine ⟨⟨L', o, i', c, d, F', trivial, hL', hq2, hkeys', hc, hd, fun k => ?_, H.sub (by repeat (first | exact sb_refl | exact sb_nil | refine sb_cons (by repeat (first | exact pick_head | apply pick_tail | apply pick_app)) ?_ | refine sb_app (by repeat (first | exact cut_head | exact cut_all | apply cut_tail | apply cut_app)) ?_ | exact sb_one (by repeat (first | exact cut_head | exact cut_all | apply cut_tail | apply cut_app))))⟩, ?_⟩
      · rw [hF]
        by_cases hk : q.1 = k
        · subst hk
          rw [if_neg (fun h => g h.1), if_neg (fun h => g h.1)]
        · have : k ∈ L.map (·.1) ↔ k ∈ L'.map (·.1) := by
            rw [hp1.mem_iff]
            simp only [List.map_cons, List.mem_cons]
            exact ⟨fun h => h.elim (fun h => absurd h.symm hk) id, .inr⟩
          simp only [this]
      · rw [hL'.num (H.get (e := (bc, o)) (by repeat (first | exact pick_head | apply pick_tail | apply pick_app))) (H.get (e := (r, i')) (by repeat (first | exact pick_head | apply pick_tail | apply pick_app))), hlen2]
        omega

theorem dropB_ok {t : Ix} (h : BxOk X) : BxOk (dropB X t) := by
  refine ⟨h.p0, h.p1, fun t' l' hl' => ?_, fun k l hl => ?_⟩
  · have hl' : upd X.needs t none t' = some l' := hl'
    unfold upd at hl'
    split at hl'
    · cases hl'
    · exact h.needs t' l' hl'
  · have hl : dropC X.came t k = some l := hl
    unfold dropC at hl
    split at hl
    · cases hl
    · exact h.came k l hl
theorem drop_k {h l1 : Hp} (H : Has w0 w (h ++ (l1 ++ m))) (hB : BoxK p X h l1) (hz : Ids.BxN X) {t : Ix} (ht : InI t) : Calls Tryz.prog 14 #[.pointer (some ⟨p, 0, none⟩), .agg ⟨ixr t⟩] w fun e w' =>
    ((¬ known X t) ∧ e = .returned (.int .i64 4) ∧ Has w0 w' (h ++ (l1 ++ m))) ∨
    (known X t ∧ e = .returned (.int .i64 0) ∧ ∃ h' l' d, BoxK p (dropB X t) h' l' ∧ Keeps l1 l' d ∧ Has w0 w' (h' ++ (l' ++ (d ++ m)))) := by
  have hB0 := hB.at
  obtain ⟨bn, bc, on, oc, cn, cc, rfl, rfl, hn, hc, hok⟩ := hB
  have H : Has w0 w ((cl p 44 (remC X bn bc) :: (bn, on) :: (bc, oc) :: (cn ++ cc)) ++ m) := by
    simp only [List.cons_append, List.append_assoc, List.nil_append] at H ⊢
    exact H
  have hB0 : BoxAt p X (cl p 44 (remC X bn bc) :: (bn, on) :: (bc, oc) :: (cn ++ cc)) := hB0
  obtain ⟨ln, hln⟩ := keyOfI ht
  apply c14
  refine h_new H fun n4 u H => ?_
  refine s_call (none_c (boxW_of H (cut_tail cut_head) hB0)) ?_
  rintro _ _ ⟨rfl, rfl⟩
  refine ⟨_, rfl, s_asB (s_false rfl (h_drew H fun u H => h_ldI H (b := n4) (by repeat (first | exact pick_head | apply pick_tail | apply pick_app)) rfl (h_ldI H (b := n4) (by repeat (first | exact pick_head | apply pick_tail | apply pick_app)) rfl ?_)))⟩
  refine s_call (Ids.known_c (boxW_of H (cut_tail cut_head) hB0) hz) ?_
  rintro _ u ⟨l, v, c2, hkn, rfl, ho, H2, hlsz⟩
  have H := H.join H2
  obtain ⟨o9, cap9, rfl⟩ := ho.slice
  refine ⟨_, rfl, s_asS (s_chk (hc_cons H (b := n4) (by repeat (first | exact pick_head | apply pick_tail | apply pick_app)) rfl (hc_cons H (b := n4) (by repeat (first | exact pick_head | apply pick_tail | apply pick_app)) rfl c_nil)) ?_)⟩
  refine s_call (Ids.cont_c (Ids.keysAt_own ho H (by repeat (first | exact cut_head | exact cut_all | apply cut_tail | apply cut_app))) rfl (by omega) t) ?_
  rintro _ u ⟨rfl, f⟩
  have H := H.fr0 f
  refine ⟨_, rfl, s_asB (s_chk c_nil (s_ite (fun g => ?_) (fun g => ?_)))⟩
  · have g : ¬ t ∈ l := by simpa using g
    simp only [List.cons_append, List.append_assoc] at H
    exact s_ret (.inl ⟨fun h => g ((hkn.2 t).2 h), rfl, by simp only [List.cons_append, List.append_assoc, List.nil_append]; exact H.sub (by repeat (first | exact sb_refl | exact sb_nil | refine sb_cons (by repeat (first | exact pick_head | apply pick_tail | apply pick_app)) ?_ | refine sb_app (by repeat (first | exact cut_head | exact cut_all | apply cut_tail | apply cut_app)) ?_ | exact sb_one (by repeat (first | exact cut_head | exact cut_all | apply cut_tail | apply cut_app))))⟩)
  · have g : t ∈ l := by simpa using g
    have hk : known X t := (hkn.2 t).1 g
    have H : Has w0 u (cl n4 32 (ixr t) :: cl p 44 (remC X bn bc) :: (bn, on) :: (bc, oc) :: (cn ++ (cc ++ m))) := by
      simp only [List.cons_append, List.append_assoc] at H
      exact H.sub (by repeat (first | exact sb_refl | exact sb_nil | refine sb_cons (by repeat (first | exact pick_head | apply pick_tail | apply pick_app)) ?_ | refine sb_app (by repeat (first | exact cut_head | exact cut_all | apply cut_tail | apply cut_app)) ?_ | exact sb_one (by repeat (first | exact cut_head | exact cut_all | apply cut_tail | apply cut_app))))
    refine h_drew H fun u H => h_ldM H (b := p) (by repeat (first | exact pick_head | apply pick_tail | apply pick_app)) rfl (h_ldI H (b := n4) (by repeat (first | exact pick_head | apply pick_tail | apply pick_app)) rfl (h_ldI H (b := n4) (by repeat (first | exact pick_head | apply pick_tail | apply pick_app)) rfl ?_))
    have hdel : ∃ (q : Option SP) (cn2 d : Hp), MX Tryz.prog 32 kfI vS OwnN on cn2 X.needs t q ∧ (cn2 ++ d).Perm cn ∧ Has w0 u (cl n4 32 (ixr t) :: cl p 44 (remC X bn bc) :: (bn, on) :: (bc, oc) :: (cn2 ++ (cc ++ (d ++ m)))) := by
      cases hq : X.needs t with
      | none => exact ⟨none, cn, [], hn.openN hq, by simp, H⟩
      | some l0 =>
        obtain ⟨s, c1, cn2, hcut, _, hx⟩ := hn.openS (a := t) hq
        have hcut' : (cn2 ++ c1).Perm cn := List.perm_append_comm.trans (List.Perm.symm hcut)
        have H1 : Has w0 u (cn ++ (cl n4 32 (ixr t) :: cl p 44 (remC X bn bc) :: (bn, on) :: (bc, oc) :: (cc ++ m))) := H.sub (by repeat (first | exact sb_refl | exact sb_nil | refine sb_cons (by repeat (first | exact pick_head | apply pick_tail | apply pick_app)) ?_ | refine sb_app (by repeat (first | exact cut_head | exact cut_all | apply cut_tail | apply cut_app)) ?_ | exact sb_one (by repeat (first | exact cut_head | exact cut_all | apply cut_tail | apply cut_app))))
        have H2 := H1.perm (hcut'.symm.append_right _)
        rw [List.append_assoc] at H2
        exact ⟨some s, cn2, c1, hx, hcut', H2.sub (by repeat (first | exact sb_refl | exact sb_nil | refine sb_cons (by repeat (first | exact pick_head | apply pick_tail | apply pick_app)) ?_ | refine sb_app (by repeat (first | exact cut_head | exact cut_all | apply cut_tail | apply cut_app)) ?_ | exact sb_one (by repeat (first | exact cut_head | exact cut_all | apply cut_tail | apply cut_app))))⟩
    obtain ⟨q, cn2, d, hx, hd, H⟩ := hdel
    refine f_delete H (bk := bn) (o := on) (a := t) (kf := kfI) (vf := vS) (by repeat (first | exact pick_head | apply pick_tail | apply pick_app)) hx keyedI mapN (fun x => kfI_inj) hln fun on' u2 hx' H => ?_
    have hmf : MN' on' cn2 (upd X.needs t none) := hx'.closeN
    refine s_chk c_nil (h_ldM H (b := p) (by repeat (first | exact pick_head | apply pick_tail | apply pick_app)) rfl ?_)
    have H1 : Has w0 u2 ((bc, oc) :: cl n4 32 (ixr t) :: (cc ++ (cl p 44 (remC X bn bc) :: (bn, on') :: (cn2 ++ (d ++ m))))) := H.sub (by repeat (first | exact sb_refl | exact sb_nil | refine sb_cons (by repeat (first | exact pick_head | apply pick_tail | apply pick_app)) ?_ | refine sb_app (by repeat (first | exact cut_head | exact cut_all | apply cut_tail | apply cut_app)) ?_ | exact sb_one (by repeat (first | exact cut_head | exact cut_all | apply cut_tail | apply cut_app))))
    refine s_call (delf_c hc H1) ?_
    rintro _ u3 ⟨⟨v, rfl⟩, oc', cc', d', hmc, hd', H3⟩
    refine ⟨_, rfl, s_ret (.inr ⟨hk, rfl, [cl p 44 (remC X bn bc), (bn, on'), (bc, oc')], cn2 ++ cc', d ++ d', ⟨bn, bc, on', oc', cn2, cc', rfl, rfl, hmf, hmc, dropB_ok hok⟩, ⟨[], ?_⟩, ?_⟩)⟩
    · rw [List.append_nil]
      have e : ((cn2 ++ cc') ++ (d ++ d')).Perm ((cn2 ++ d) ++ (cc' ++ d')) := by
        rw [List.append_assoc, List.append_assoc]
        refine List.Perm.append_left cn2 ?_
        rw [← List.append_assoc, ← List.append_assoc]
        exact List.Perm.append_right d' List.perm_append_comm
      exact e.trans (List.Perm.append hd hd')
    · simp only [List.cons_append, List.append_assoc, List.nil_append]
      exact H3.sub (by repeat (first | exact sb_refl | exact sb_nil | refine sb_cons (by repeat (first | exact pick_head | apply pick_tail | apply pick_app)) ?_ | refine sb_app (by repeat (first | exact cut_head | exact cut_all | apply cut_tail | apply cut_app)) ?_ | exact sb_one (by repeat (first | exact cut_head | exact cut_all | apply cut_tail | apply cut_app))))
theorem drop_c (H : Has w0 w (c ++ m)) (hB : BoxAt p X c) (hz : Ids.BxN X) {t : Ix} (ht : InI t) : Calls Tryz.prog 14 #[.pointer (some ⟨p, 0, none⟩), .agg ⟨ixr t⟩] w fun e w' =>
    ((¬ known X t) ∧ e = .returned (.int .i64 4) ∧ Has w0 w' (c ++ m)) ∨
    (known X t ∧ e = .returned (.int .i64 0) ∧ ∃ c', BoxAt p (dropB X t) c' ∧ Has w0 w' (c' ++ m)) := by
  obtain ⟨h, l1, rfl, hk⟩ := hB.k
  rw [List.append_assoc] at H ⊢
  refine (drop_k H hk hz ht).mono ?_
  rintro e u (h1 | ⟨h1, h2, h', l', d, h3, h4, h5⟩)
  · exact .inl h1
  · refine .inr ⟨h1, h2, h' ++ l', h3.at, ?_⟩
    rw [List.append_assoc]
    exact h5.sub (sb_app cut_head (sb_app cut_head ⟨d, List.perm_append_comm⟩))

theorem lenB_c (h : BoxW w p X) (hz : Ids.BxN X) : Calls Tryz.prog 26 #[.pointer (some ⟨p, 0, none⟩)] w fun e w' => ∃ l, Ids.KnOf X l ∧ e = .returned (.int .i64 l.length) ∧ Fr [] w w' := by
  apply c26
  refine s_call (none_c h) ?_
  rintro _ _ ⟨rfl, rfl⟩
  refine ⟨_, rfl, s_asB (s_false rfl (s_call (Ids.known_c h hz) ?_))⟩
  rintro _ u ⟨l, v, c2, hkn, rfl, ho, H2, hlsz⟩
  obtain ⟨o9, cap9, rfl⟩ := ho.slice
  exact ⟨_, rfl, s_asS (s_ret ⟨l, hkn, rfl, H2.base⟩)⟩
end
end Go.Proofs.YtpjcfnnnciknmaaGreat
