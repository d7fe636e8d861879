/- A box: New, Put, Need, Values. -/
import Derived.Test.YtpjcfnnnciknmaaGreatBoxM
set_option linter.unusedVariables false
set_option linter.unusedSimpArgs false
set_option maxRecDepth 100000
set_option maxHeartbeats 8000000
namespace Go.Proofs.YtpjcfnnnciknmaaGreat
open Go hiding Expr
open Go.RowKit Tr

theorem IsPairs.good {l out : List PR} (h : IsPairs l out) (hin : ∀ p ∈ l, InK p.k) : (∀ p ∈ out, InK p.k) ∧ Rising (out.map (fun p : PR => p.k)) := by
  refine ⟨fun p hp => ?_, h.1⟩
  obtain ⟨k, v⟩ := p
  have h1 := (h.2 k v).1 hp
  have h2 : k ∈ l.map (fun p : PR => p.k) := (lastV_some l k).1 (by rw [h1]; rfl)
  obtain ⟨q, hq, rfl⟩ := List.mem_map.1 h2
  exact hin q hq
def emptyB (n : Int) : BX := ⟨n, fun _ => none, fun _ => none⟩
def cameB (X : BX) (k : Fx) (l : List PR) : BX := { X with came := upd X.came k (some l) }
def needB (X : BX) (t : Ix) (l : List Int) : BX := { X with needs := upd X.needs t (some l) }

/-- A box by its head and the blocks of its lists. -/
def BoxK (p : Nat) (X : BX) (h l : Hp) : Prop := ∃ (bn bc : Nat) (on oc : Obj) (cn cc : Hp), h = [cl p 44 (remC X bn bc), (bn, on), (bc, oc)] ∧ l = cn ++ cc ∧ MN' on cn X.needs ∧ MC' oc cc X.came ∧ BxOk X
theorem BoxK.at {p : Nat} {X : BX} {h l : Hp} (hB : BoxK p X h l) : BoxAt p X (h ++ l) := by
  obtain ⟨bn, bc, on, oc, cn, cc, rfl, rfl, h1, h2, h3⟩ := hB
  exact ⟨bn, bc, on, oc, cn, cc, rfl, h1, h2, h3⟩
theorem BoxAt.k {p : Nat} {X : BX} {c : Hp} (hB : BoxAt p X c) : ∃ h l, c = h ++ l ∧ BoxK p X h l := by
  obtain ⟨bn, bc, on, oc, cn, cc, rfl, h1, h2, h3⟩ := hB
  exact ⟨_, _, rfl, bn, bc, on, oc, cn, cc, rfl, rfl, h1, h2, h3⟩
/-- l' has all that l has, and so has what is kept beside it. -/
def Keeps (l l' d : Hp) : Prop := ∃ r, (l' ++ d).Perm (l ++ r)
theorem Keeps.refl (l : Hp) : Keeps l l [] := ⟨[], by simp⟩
theorem Keeps.has {w0 w : World} {x l l' d m : Hp} (hk : Keeps l l' d) (H : Has w0 w (x ++ (l' ++ (d ++ m)))) : Has w0 w (l ++ m) := by
  obtain ⟨r, hp⟩ := hk
  have H1 := H.right
  rw [← List.append_assoc] at H1
  have H2 : Has w0 w (l ++ r ++ m) := H1.perm (hp.append_right m)
  rw [List.append_assoc] at H2
  exact H2.sub (sb_app cut_head ⟨r, List.perm_append_comm⟩)

section
variable {w0 w : World} {p : Nat} {X : BX} {c m : Hp}
theorem new_c {n : Int} (h0 : 1 ≤ n) (h1 : n ≤ 8) : Calls Tryz.prog 4 #[.int .i64 n] w fun e w' => ∃ p c, e = .returned (.tuple #[.pointer (some ⟨p, 0, none⟩), .int .i64 0]) ∧ BoxAt p (emptyB n) c ∧ Has w w' c := by
  apply c4
  refine s_blk (fun vs W => W = w) ?_ ?_
  · rintro vs j W rfl
    refine h_newMap (Has.init W) fun n3 u H => h_newMap H fun n4 u H => h_new H fun n5 u H => s_ret ⟨n5, _, rfl, ⟨n3, n4, _, _, [], [], rfl, MF.new, MF.new, ⟨h0, h1, by simp [emptyB], by simp [emptyB]⟩⟩, H.sub (by repeat (first | exact sb_refl | exact sb_nil | refine sb_cons (by repeat (first | exact pick_head | apply pick_tail | apply pick_app)) ?_ | refine sb_app (by repeat (first | exact cut_head | exact cut_all | apply cut_tail | apply cut_app)) ?_ | exact sb_one (by repeat (first | exact cut_head | exact cut_all | apply cut_tail | apply cut_app))))⟩
  · refine s_false (by simp; omega) (s_false (by simp; omega) (s_next ⟨rfl, rfl⟩ rfl))

theorem cameB_ok {k : Fx} {l out : List PR} (h : BxOk X) (hp : IsPairs l out) (hin : ∀ q ∈ l, InK q.k) : BxOk (cameB X k out) := by
  refine ⟨h.p0, h.p1, h.needs, fun k' l' hl' => ?_⟩
  have hl' : upd X.came k (some out) k' = some l' := hl'
  unfold upd at hl'
  split at hl'
  · cases hl'
    exact hp.good hin
  · exact h.came k' l' hl'
theorem perm_cut {a b d r : Hp} (h : Cut a b d) (H : Has w0 w (b ++ r)) : Has w0 w (d ++ r) := by
  have h1 : b.Perm (a ++ d) := h
  have H1 : Has w0 w (a ++ d ++ r) := H.perm (h1.append_right r)
  rw [List.append_assoc] at H1
  exact H1.right
theorem cameB_none {X : BX} {k : Fx} {l : List PR} : (cameB X k l).came = upd X.came k (some l) := rfl

def BxSz (X : BX) : Prop := ∀ k l, X.came k = some l → l.length ≤ 5864062014805
theorem put_k {h l1 : Hp} (H : Has w0 w (h ++ (l1 ++ m))) (hB : BoxK p X h l1) (hsz0 : BxSz X) {t : Ix} (ht : InI t) {n : Int} (hn64 : -9223372036854775808 ≤ n ∧ n ≤ 9223372036854775807) {o : Option Addr} {len cap : Nat} {l : List PR} (hl : ∀ u, Has w0 u m → PairsAt u o l) (hin : ∀ q ∈ l, InK q.k) (hlen : len = l.length) (hsz : l.length * 24 ≤ 140737488355328) :
    Calls Tryz.prog 9 #[.pointer (some ⟨p, 0, none⟩), .agg ⟨ixr t⟩, .int .i64 n, .slice o len cap] w fun e w' =>
      ((¬ (0 ≤ n ∧ n < X.parts)) ∧ e = .returned (.tuple #[.bool false, .int .i64 1]) ∧ Has w0 w' (h ++ (l1 ++ m))) ∨
      ((0 ≤ n ∧ n < X.parts) ∧ ∃ out, IsPairs l out ∧ (((∃ l0, X.came (t, n) = some l0 ∧ l0 ≠ out) ∧ e = .returned (.tuple #[.bool false, .int .i64 180]) ∧ Has w0 w' (h ++ (l1 ++ m))) ∨
       ((∀ l0, X.came (t, n) = some l0 → l0 = out) ∧ ∃ h' l' d, e = .returned (.tuple #[.bool (readyB (cameB X (t, n) out) t), .int .i64 0]) ∧ BoxK p (cameB X (t, n) out) h' l' ∧ Keeps l1 l' d ∧ Has w0 w' (h' ++ (l' ++ (d ++ m)))))) := by
  have hB0 := hB.at
  obtain ⟨bn, bc, on, oc, cn, cc, rfl, rfl, hn, hc, hok⟩ := hB
  have H : Has w0 w ((cl p 44 (remC X bn bc) :: (bn, on) :: (bc, oc) :: (cn ++ cc)) ++ m) := by
    simp only [List.cons_append, List.append_assoc, List.nil_append] at H ⊢
    exact H
  have hB0 : BoxAt p X (cl p 44 (remC X bn bc) :: (bn, on) :: (bc, oc) :: (cn ++ cc)) := hB0
  obtain ⟨lf, hlf⟩ := keyOfF (f := (t, n)) ⟨ht, hn64.1, hn64.2⟩
  apply c9
  refine h_new H fun n8 u H => ?_
  refine s_call (none_c (boxW_of H (cut_tail cut_head) hB0)) ?_
  rintro _ _ ⟨rfl, rfl⟩
  refine ⟨_, rfl, s_asB (s_false rfl (s_call (rpart_c (boxW_of H (cut_tail cut_head) hB0)) ?_))⟩
  rintro _ _ ⟨rfl, rfl⟩
  refine ⟨_, rfl, s_asB (s_ite (fun g => ?_) (fun g => ?_))⟩
  · have hv : ¬ (0 ≤ n ∧ n < X.parts) := by simp at g; omega
    simp only [List.cons_append, List.append_assoc] at H
    exact s_ret (.inl ⟨hv, rfl, by simp only [List.cons_append, List.append_assoc, List.nil_append]; exact H.sub (by repeat (first | exact sb_refl | exact sb_nil | refine sb_cons (by repeat (first | exact pick_head | apply pick_tail | apply pick_app)) ?_ | refine sb_app (by repeat (first | exact cut_head | exact cut_all | apply cut_tail | apply cut_app)) ?_ | exact sb_one (by repeat (first | exact cut_head | exact cut_all | apply cut_tail | apply cut_app))))⟩)
  · have hv : 0 ≤ n ∧ n < X.parts := by simpa using g
    simp only [List.cons_append, List.append_assoc] at H
    refine h_drew H fun u H => h_ldI H (b := n8) (by repeat (first | exact pick_head | apply pick_tail | apply pick_app)) rfl (h_ldI H (b := n8) (by repeat (first | exact pick_head | apply pick_tail | apply pick_app)) rfl (s_both ?_ ?_))
    · refine s_call (pairs_c (hl u (H.sub (by repeat (first | exact sb_refl | exact sb_nil | refine sb_cons (by repeat (first | exact pick_head | apply pick_tail | apply pick_app)) ?_ | refine sb_app (by repeat (first | exact cut_head | exact cut_all | apply cut_tail | apply cut_app)) ?_ | exact sb_one (by repeat (first | exact cut_head | exact cut_all | apply cut_tail | apply cut_app)))))) hin hlen hsz) ?_
      rintro _ u ⟨out, v2, c2, hp, rfl, ho2, H2⟩
      have H := H.join H2
      obtain ⟨o2, cap2, rfl⟩ := ho2.slice
      refine ⟨_, rfl, s_asS (s_chk (hc_cons H (b := n8) (by repeat (first | exact pick_head | apply pick_tail | apply pick_app)) rfl (hc_cons H (b := n8) (by repeat (first | exact pick_head | apply pick_tail | apply pick_app)) rfl c_nil)) ?_)⟩
      (refine h_new H fun nf u H => ?_)
      refine s_chk (hc_cons H (b := n8) (by repeat (first | exact pick_head | apply pick_tail | apply pick_app)) rfl (hc_cons H (b := n8) (by repeat (first | exact pick_head | apply pick_tail | apply pick_app)) rfl c_nil)) ?_
      iterate 3 refine h_st H (b := nf) (by repeat (first | exact pick_head | apply pick_tail | apply pick_app)) (by first | (simp; done) | exact Nat.le_of_ble_eq_true rfl) rfl fun u H => ?_
      have H : Has w0 u (c2 ++ (cl nf 72 (fxr (t, n)) :: cl n8 32 (ixr t) :: cl p 44 (remC X bn bc) :: (bn, on) :: (bc, oc) :: (cn ++ (cc ++ m)))) := H.sub (by repeat (first | exact sb_refl | exact sb_nil | refine sb_cons (by repeat (first | exact pick_head | apply pick_tail | apply pick_app)) ?_ | refine sb_app (by repeat (first | exact cut_head | exact cut_all | apply cut_tail | apply cut_app)) ?_ | exact sb_one (by repeat (first | exact cut_head | exact cut_all | apply cut_tail | apply cut_app))))
      refine s_chk c_nil ?_
      refine s_blk (fun vs W => vs = [] ∧ (∀ l0, X.came (t, n) = some l0 → l0 = out) ∧ Has w0 W (c2 ++ (cl nf 72 (fxr (t, n)) :: cl n8 32 (ixr t) :: cl p 44 (remC X bn bc) :: (bn, on) :: (bc, oc) :: (cn ++ (cc ++ m))))) ?_ ?_
      · clear H
        rintro _ j W ⟨rfl, hsame, H⟩
        refine h_drew H fun u H => h_ldM H (b := p) (by repeat (first | exact pick_head | apply pick_tail | apply pick_app)) rfl (h_ldI H (b := nf) (by repeat (first | exact pick_head | apply pick_tail | apply pick_app)) rfl (h_ldI H (b := nf) (by repeat (first | exact pick_head | apply pick_tail | apply pick_app)) rfl (h_ldI H (b := nf) (by repeat (first | exact pick_head | apply pick_tail | apply pick_app)) rfl ?_)))
        have hput : ∃ (q : Option SP) (cc2 d : Hp), MX Tryz.prog 72 kfF vS OwnP oc cc2 X.came (t, n) q ∧ (cc2 ++ d).Perm cc ∧ Has w0 u (c2 ++ (cl nf 72 (fxr (t, n)) :: cl n8 32 (ixr t) :: cl p 44 (remC X bn bc) :: (bn, on) :: (bc, oc) :: (cn ++ (cc2 ++ (d ++ m))))) := by
          cases hq : X.came (t, n) with
          | none => exact ⟨none, cc, [], hc.openN hq, by simp, H⟩
          | some l0 =>
            obtain ⟨s, c1, cc2, hcut, _, hx⟩ := hc.openS (a := (t, n)) hq
            have hcut' : (cc2 ++ c1).Perm cc := List.perm_append_comm.trans (List.Perm.symm hcut)
            have H1 : Has w0 u (cc ++ (c2 ++ (cl nf 72 (fxr (t, n)) :: cl n8 32 (ixr t) :: cl p 44 (remC X bn bc) :: (bn, on) :: (bc, oc) :: (cn ++ m)))) := H.sub (by repeat (first | exact sb_refl | exact sb_nil | refine sb_cons (by repeat (first | exact pick_head | apply pick_tail | apply pick_app)) ?_ | refine sb_app (by repeat (first | exact cut_head | exact cut_all | apply cut_tail | apply cut_app)) ?_ | exact sb_one (by repeat (first | exact cut_head | exact cut_all | apply cut_tail | apply cut_app))))
            have H2 := H1.perm (hcut'.symm.append_right _)
            rw [List.append_assoc] at H2
            exact ⟨some s, cc2, c1, hx, hcut', H2.sub (by repeat (first | exact sb_refl | exact sb_nil | refine sb_cons (by repeat (first | exact pick_head | apply pick_tail | apply pick_app)) ?_ | refine sb_app (by repeat (first | exact cut_head | exact cut_all | apply cut_tail | apply cut_app)) ?_ | exact sb_one (by repeat (first | exact cut_head | exact cut_all | apply cut_tail | apply cut_app))))⟩
        obtain ⟨q, cc2, d, hx, hd, H⟩ := hput
        refine f_put (s := ⟨o2, out.length, cap2⟩) (vf := vS) H (bk := bc) (o := oc) (a := (t, n)) (kf := kfF) (by repeat (first | exact pick_head | apply pick_tail | apply pick_app)) hx keyedF mapC (fun x => kfF_inj) hlf fun oc' u2 hx' H => ?_
        obtain ⟨cc', hperm, hmf⟩ := hx'.close (c1 := c2) (b := out) ⟨rfl, ho2⟩
        refine s_chk c_nil (h_ldI H (b := n8) (by repeat (first | exact pick_head | apply pick_tail | apply pick_app)) rfl (h_ldI H (b := n8) (by repeat (first | exact pick_head | apply pick_tail | apply pick_app)) rfl ?_))
        have H1 : Has w0 u2 (c2 ++ (cc2 ++ (cl p 44 (remC X bn bc) :: (bn, on) :: (bc, oc') :: (cn ++ (d ++ m))))) := H.sub (by repeat (first | exact sb_refl | exact sb_nil | refine sb_cons (by repeat (first | exact pick_head | apply pick_tail | apply pick_app)) ?_ | refine sb_app (by repeat (first | exact cut_head | exact cut_all | apply cut_tail | apply cut_app)) ?_ | exact sb_one (by repeat (first | exact cut_head | exact cut_all | apply cut_tail | apply cut_app))))
        rw [← List.append_assoc] at H1
        have H2 : Has w0 u2 (cc' ++ (cl p 44 (remC X bn bc) :: (bn, on) :: (bc, oc') :: (cn ++ (d ++ m)))) := H1.perm (hperm.append_right _)
        have H3 : Has w0 u2 ((cl p 44 (remC X bn bc) :: (bn, on) :: (bc, oc') :: (cn ++ cc')) ++ (d ++ m)) := by
          simp only [List.cons_append, List.append_assoc]
          exact H2.sub (by repeat (first | exact sb_refl | exact sb_nil | refine sb_cons (by repeat (first | exact pick_head | apply pick_tail | apply pick_app)) ?_ | refine sb_app (by repeat (first | exact cut_head | exact cut_all | apply cut_tail | apply cut_app)) ?_ | exact sb_one (by repeat (first | exact cut_head | exact cut_all | apply cut_tail | apply cut_app))))
        have hB' : BoxAt p (cameB X (t, n) out) (cl p 44 (remC X bn bc) :: (bn, on) :: (bc, oc') :: (cn ++ cc')) := ⟨bn, bc, on, oc', cn, cc', rfl, hn, hmf, cameB_ok hok hp hin⟩
        refine s_call (ready_c (boxW_of H3 cut_head hB') ht) ?_
        rintro _ u3 ⟨rfl, f⟩
        have H4 := H3.fr0 f
        refine ⟨_, rfl, s_asB (s_ret (.inr ⟨hv, out, hp, .inr ⟨hsame, [cl p 44 (remC X bn bc), (bn, on), (bc, oc')], cn ++ cc', d, rfl, ⟨bn, bc, on, oc', cn, cc', rfl, rfl, hn, hmf, cameB_ok hok hp hin⟩, ⟨c2, ?_⟩, ?_⟩⟩))⟩
        · have h1 : (cc' ++ d).Perm (cc ++ c2) := by
            refine (hperm.symm.append_right d).trans ?_
            rw [List.append_assoc]
            exact (List.Perm.append_left c2 hd).trans List.perm_append_comm
          rw [List.append_assoc, List.append_assoc]
          exact List.Perm.append_left cn h1
        · simp only [List.cons_append, List.append_assoc, List.nil_append] at H4 ⊢
          exact H4
      · obtain ⟨s, c3, hx, e1, e2, e3, e4⟩ := open_c (t := (t, n)) hc H (by repeat (first | exact cut_head | exact cut_all | apply cut_tail | apply cut_app))
        refine s_drew fun u4 _ f4 => ?_
        have H := H.fr0 f4
        have e4 := e4.fr0 f4
        refine h_ldM H (b := p) (by repeat (first | exact pick_head | apply pick_tail | apply pick_app)) rfl (h_ldI H (b := nf) (by repeat (first | exact pick_head | apply pick_tail | apply pick_app)) rfl (h_ldI H (b := nf) (by repeat (first | exact pick_head | apply pick_tail | apply pick_app)) rfl (h_ldI H (b := nf) (by repeat (first | exact pick_head | apply pick_tail | apply pick_app)) rfl ?_)))
        refine f_look2 H (bk := bc) (o := oc) (a := (t, n)) (kf := kfF) (by repeat (first | exact pick_head | apply pick_tail | apply pick_app)) hx keyedF mapC (zeroC u4) (fun x => kfF_inj) hlf ?_
        rw [e1, e2]
        unfold vS
        refine s_asU (s_req rfl (s_asS (s_asB (s_chk c_nil ?_))))
        cases hq : X.came (t, n) with
        | none =>
          exact s_false rfl (s_next ⟨rfl, rfl⟩ ⟨rfl, (by intro l0 h; cases h), H.sub (by repeat (first | exact sb_refl | exact sb_nil | refine sb_cons (by repeat (first | exact pick_head | apply pick_tail | apply pick_app)) ?_ | refine sb_app (by repeat (first | exact cut_head | exact cut_all | apply cut_tail | apply cut_app)) ?_ | exact sb_one (by repeat (first | exact cut_head | exact cut_all | apply cut_tail | apply cut_app))))⟩)
        | some l0 =>
          rw [hq] at e3 e4
          refine s_true rfl (s_call (equal_pairs_c (l := l0) (l2 := out) e4 (pairsAt_own ho2 H (by repeat (first | exact cut_head | exact cut_all | apply cut_tail | apply cut_app))) e3 rfl (by have := hsz0 _ _ hq; omega)) ?_)
          rintro _ u5 ⟨rfl, f⟩
          have H := H.fr0 f
          refine ⟨_, rfl, s_asB (s_ite (fun g => ?_) (fun g => ?_))⟩
          · have hne : ¬ l0 = out := by simpa using g
            refine s_ret (.inr ⟨hv, out, hp, .inl ⟨⟨l0, rfl, hne⟩, rfl, ?_⟩⟩)
            simp only [List.cons_append, List.append_assoc, List.nil_append]
            exact H.sub (by repeat (first | exact sb_refl | exact sb_nil | refine sb_cons (by repeat (first | exact pick_head | apply pick_tail | apply pick_app)) ?_ | refine sb_app (by repeat (first | exact cut_head | exact cut_all | apply cut_tail | apply cut_app)) ?_ | exact sb_one (by repeat (first | exact cut_head | exact cut_all | apply cut_tail | apply cut_app))))
          · have he : l0 = out := by simpa using g
            exact s_next ⟨rfl, rfl⟩ ⟨rfl, (by intro l1 h; cases h; exact he), H.sub (by repeat (first | exact sb_refl | exact sb_nil | refine sb_cons (by repeat (first | exact pick_head | apply pick_tail | apply pick_app)) ?_ | refine sb_app (by repeat (first | exact cut_head | exact cut_all | apply cut_tail | apply cut_app)) ?_ | exact sb_one (by repeat (first | exact cut_head | exact cut_all | apply cut_tail | apply cut_app))))⟩
    · (refine h_new H fun nf u H => ?_)
      refine s_chk (hc_cons H (b := n8) (by repeat (first | exact pick_head | apply pick_tail | apply pick_app)) rfl (hc_cons H (b := n8) (by repeat (first | exact pick_head | apply pick_tail | apply pick_app)) rfl c_nil)) ?_
      refine s_call (pairs_c (hl u (H.sub (by repeat (first | exact sb_refl | exact sb_nil | refine sb_cons (by repeat (first | exact pick_head | apply pick_tail | apply pick_app)) ?_ | refine sb_app (by repeat (first | exact cut_head | exact cut_all | apply cut_tail | apply cut_app)) ?_ | exact sb_one (by repeat (first | exact cut_head | exact cut_all | apply cut_tail | apply cut_app)))))) hin hlen hsz) ?_
      rintro _ u ⟨out, v2, c2, hp, rfl, ho2, H2⟩
      have H := H.join H2
      obtain ⟨o2, cap2, rfl⟩ := ho2.slice
      refine ⟨_, rfl, s_asS (s_chk (hc_cons H (b := n8) (by repeat (first | exact pick_head | apply pick_tail | apply pick_app)) rfl (hc_cons H (b := n8) (by repeat (first | exact pick_head | apply pick_tail | apply pick_app)) rfl c_nil)) ?_)⟩
      iterate 3 refine h_st H (b := nf) (by repeat (first | exact pick_head | apply pick_tail | apply pick_app)) (by first | (simp; done) | exact Nat.le_of_ble_eq_true rfl) rfl fun u H => ?_
      have H : Has w0 u (c2 ++ (cl nf 72 (fxr (t, n)) :: cl n8 32 (ixr t) :: cl p 44 (remC X bn bc) :: (bn, on) :: (bc, oc) :: (cn ++ (cc ++ m)))) := H.sub (by repeat (first | exact sb_refl | exact sb_nil | refine sb_cons (by repeat (first | exact pick_head | apply pick_tail | apply pick_app)) ?_ | refine sb_app (by repeat (first | exact cut_head | exact cut_all | apply cut_tail | apply cut_app)) ?_ | exact sb_one (by repeat (first | exact cut_head | exact cut_all | apply cut_tail | apply cut_app))))
      refine s_chk c_nil ?_
      refine s_blk (fun vs W => vs = [] ∧ (∀ l0, X.came (t, n) = some l0 → l0 = out) ∧ Has w0 W (c2 ++ (cl nf 72 (fxr (t, n)) :: cl n8 32 (ixr t) :: cl p 44 (remC X bn bc) :: (bn, on) :: (bc, oc) :: (cn ++ (cc ++ m))))) ?_ ?_
      · clear H
        rintro _ j W ⟨rfl, hsame, H⟩
        refine h_drew H fun u H => h_ldM H (b := p) (by repeat (first | exact pick_head | apply pick_tail | apply pick_app)) rfl (h_ldI H (b := nf) (by repeat (first | exact pick_head | apply pick_tail | apply pick_app)) rfl (h_ldI H (b := nf) (by repeat (first | exact pick_head | apply pick_tail | apply pick_app)) rfl (h_ldI H (b := nf) (by repeat (first | exact pick_head | apply pick_tail | apply pick_app)) rfl ?_)))
        have hput : ∃ (q : Option SP) (cc2 d : Hp), MX Tryz.prog 72 kfF vS OwnP oc cc2 X.came (t, n) q ∧ (cc2 ++ d).Perm cc ∧ Has w0 u (c2 ++ (cl nf 72 (fxr (t, n)) :: cl n8 32 (ixr t) :: cl p 44 (remC X bn bc) :: (bn, on) :: (bc, oc) :: (cn ++ (cc2 ++ (d ++ m))))) := by
          cases hq : X.came (t, n) with
          | none => exact ⟨none, cc, [], hc.openN hq, by simp, H⟩
          | some l0 =>
            obtain ⟨s, c1, cc2, hcut, _, hx⟩ := hc.openS (a := (t, n)) hq
            have hcut' : (cc2 ++ c1).Perm cc := List.perm_append_comm.trans (List.Perm.symm hcut)
            have H1 : Has w0 u (cc ++ (c2 ++ (cl nf 72 (fxr (t, n)) :: cl n8 32 (ixr t) :: cl p 44 (remC X bn bc) :: (bn, on) :: (bc, oc) :: (cn ++ m)))) := H.sub (by repeat (first | exact sb_refl | exact sb_nil | refine sb_cons (by repeat (first | exact pick_head | apply pick_tail | apply pick_app)) ?_ | refine sb_app (by repeat (first | exact cut_head | exact cut_all | apply cut_tail | apply cut_app)) ?_ | exact sb_one (by repeat (first | exact cut_head | exact cut_all | apply cut_tail | apply cut_app))))
            have H2 := H1.perm (hcut'.symm.append_right _)
            rw [List.append_assoc] at H2
            exact ⟨some s, cc2, c1, hx, hcut', H2.sub (by repeat (first | exact sb_refl | exact sb_nil | refine sb_cons (by repeat (first | exact pick_head | apply pick_tail | apply pick_app)) ?_ | refine sb_app (by repeat (first | exact cut_head | exact cut_all | apply cut_tail | apply cut_app)) ?_ | exact sb_one (by repeat (first | exact cut_head | exact cut_all | apply cut_tail | apply cut_app))))⟩
        obtain ⟨q, cc2, d, hx, hd, H⟩ := hput
        refine f_put (s := ⟨o2, out.length, cap2⟩) (vf := vS) H (bk := bc) (o := oc) (a := (t, n)) (kf := kfF) (by repeat (first | exact pick_head | apply pick_tail | apply pick_app)) hx keyedF mapC (fun x => kfF_inj) hlf fun oc' u2 hx' H => ?_
        obtain ⟨cc', hperm, hmf⟩ := hx'.close (c1 := c2) (b := out) ⟨rfl, ho2⟩
        refine s_chk c_nil (h_ldI H (b := n8) (by repeat (first | exact pick_head | apply pick_tail | apply pick_app)) rfl (h_ldI H (b := n8) (by repeat (first | exact pick_head | apply pick_tail | apply pick_app)) rfl ?_))
        have H1 : Has w0 u2 (c2 ++ (cc2 ++ (cl p 44 (remC X bn bc) :: (bn, on) :: (bc, oc') :: (cn ++ (d ++ m))))) := H.sub (by repeat (first | exact sb_refl | exact sb_nil | refine sb_cons (by repeat (first | exact pick_head | apply pick_tail | apply pick_app)) ?_ | refine sb_app (by repeat (first | exact cut_head | exact cut_all | apply cut_tail | apply cut_app)) ?_ | exact sb_one (by repeat (first | exact cut_head | exact cut_all | apply cut_tail | apply cut_app))))
        rw [← List.append_assoc] at H1
        have H2 : Has w0 u2 (cc' ++ (cl p 44 (remC X bn bc) :: (bn, on) :: (bc, oc') :: (cn ++ (d ++ m)))) := H1.perm (hperm.append_right _)
        have H3 : Has w0 u2 ((cl p 44 (remC X bn bc) :: (bn, on) :: (bc, oc') :: (cn ++ cc')) ++ (d ++ m)) := by
          simp only [List.cons_append, List.append_assoc]
          exact H2.sub (by repeat (first | exact sb_refl | exact sb_nil | refine sb_cons (by repeat (first | exact pick_head | apply pick_tail | apply pick_app)) ?_ | refine sb_app (by repeat (first | exact cut_head | exact cut_all | apply cut_tail | apply cut_app)) ?_ | exact sb_one (by repeat (first | exact cut_head | exact cut_all | apply cut_tail | apply cut_app))))
        have hB' : BoxAt p (cameB X (t, n) out) (cl p 44 (remC X bn bc) :: (bn, on) :: (bc, oc') :: (cn ++ cc')) := ⟨bn, bc, on, oc', cn, cc', rfl, hn, hmf, cameB_ok hok hp hin⟩
        refine s_call (ready_c (boxW_of H3 cut_head hB') ht) ?_
        rintro _ u3 ⟨rfl, f⟩
        have H4 := H3.fr0 f
        refine ⟨_, rfl, s_asB (s_ret (.inr ⟨hv, out, hp, .inr ⟨hsame, [cl p 44 (remC X bn bc), (bn, on), (bc, oc')], cn ++ cc', d, rfl, ⟨bn, bc, on, oc', cn, cc', rfl, rfl, hn, hmf, cameB_ok hok hp hin⟩, ⟨c2, ?_⟩, ?_⟩⟩))⟩
        · have h1 : (cc' ++ d).Perm (cc ++ c2) := by
            refine (hperm.symm.append_right d).trans ?_
            rw [List.append_assoc]
            exact (List.Perm.append_left c2 hd).trans List.perm_append_comm
          rw [List.append_assoc, List.append_assoc]
          exact List.Perm.append_left cn h1
        · simp only [List.cons_append, List.append_assoc, List.nil_append] at H4 ⊢
          exact H4
      · obtain ⟨s, c3, hx, e1, e2, e3, e4⟩ := open_c (t := (t, n)) hc H (by repeat (first | exact cut_head | exact cut_all | apply cut_tail | apply cut_app))
        refine s_drew fun u4 _ f4 => ?_
        have H := H.fr0 f4
        have e4 := e4.fr0 f4
        refine h_ldM H (b := p) (by repeat (first | exact pick_head | apply pick_tail | apply pick_app)) rfl (h_ldI H (b := nf) (by repeat (first | exact pick_head | apply pick_tail | apply pick_app)) rfl (h_ldI H (b := nf) (by repeat (first | exact pick_head | apply pick_tail | apply pick_app)) rfl (h_ldI H (b := nf) (by repeat (first | exact pick_head | apply pick_tail | apply pick_app)) rfl ?_)))
        refine f_look2 H (bk := bc) (o := oc) (a := (t, n)) (kf := kfF) (by repeat (first | exact pick_head | apply pick_tail | apply pick_app)) hx keyedF mapC (zeroC u4) (fun x => kfF_inj) hlf ?_
        rw [e1, e2]
        unfold vS
        refine s_asU (s_req rfl (s_asS (s_asB (s_chk c_nil ?_))))
        cases hq : X.came (t, n) with
        | none =>
          exact s_false rfl (s_next ⟨rfl, rfl⟩ ⟨rfl, (by intro l0 h; cases h), H.sub (by repeat (first | exact sb_refl | exact sb_nil | refine sb_cons (by repeat (first | exact pick_head | apply pick_tail | apply pick_app)) ?_ | refine sb_app (by repeat (first | exact cut_head | exact cut_all | apply cut_tail | apply cut_app)) ?_ | exact sb_one (by repeat (first | exact cut_head | exact cut_all | apply cut_tail | apply cut_app))))⟩)
        | some l0 =>
          rw [hq] at e3 e4
          refine s_true rfl (s_call (equal_pairs_c (l := l0) (l2 := out) e4 (pairsAt_own ho2 H (by repeat (first | exact cut_head | exact cut_all | apply cut_tail | apply cut_app))) e3 rfl (by have := hsz0 _ _ hq; omega)) ?_)
          rintro _ u5 ⟨rfl, f⟩
          have H := H.fr0 f
          refine ⟨_, rfl, s_asB (s_ite (fun g => ?_) (fun g => ?_))⟩
          · have hne : ¬ l0 = out := by simpa using g
            refine s_ret (.inr ⟨hv, out, hp, .inl ⟨⟨l0, rfl, hne⟩, rfl, ?_⟩⟩)
            simp only [List.cons_append, List.append_assoc, List.nil_append]
            exact H.sub (by repeat (first | exact sb_refl | exact sb_nil | refine sb_cons (by repeat (first | exact pick_head | apply pick_tail | apply pick_app)) ?_ | refine sb_app (by repeat (first | exact cut_head | exact cut_all | apply cut_tail | apply cut_app)) ?_ | exact sb_one (by repeat (first | exact cut_head | exact cut_all | apply cut_tail | apply cut_app))))
          · have he : l0 = out := by simpa using g
            exact s_next ⟨rfl, rfl⟩ ⟨rfl, (by intro l1 h; cases h; exact he), H.sub (by repeat (first | exact sb_refl | exact sb_nil | refine sb_cons (by repeat (first | exact pick_head | apply pick_tail | apply pick_app)) ?_ | refine sb_app (by repeat (first | exact cut_head | exact cut_all | apply cut_tail | apply cut_app)) ?_ | exact sb_one (by repeat (first | exact cut_head | exact cut_all | apply cut_tail | apply cut_app))))⟩
theorem put_c (H : Has w0 w (c ++ m)) (hB : BoxAt p X c) (hsz0 : BxSz X) {t : Ix} (ht : InI t) {n : Int} (hn64 : -9223372036854775808 ≤ n ∧ n ≤ 9223372036854775807) {o : Option Addr} {len cap : Nat} {l : List PR} (hl : ∀ u, Has w0 u m → PairsAt u o l) (hin : ∀ q ∈ l, InK q.k) (hlen : len = l.length) (hsz : l.length * 24 ≤ 140737488355328) :
    Calls Tryz.prog 9 #[.pointer (some ⟨p, 0, none⟩), .agg ⟨ixr t⟩, .int .i64 n, .slice o len cap] w fun e w' =>
      ((¬ (0 ≤ n ∧ n < X.parts)) ∧ e = .returned (.tuple #[.bool false, .int .i64 1]) ∧ Has w0 w' (c ++ m)) ∨
      ((0 ≤ n ∧ n < X.parts) ∧ ∃ out, IsPairs l out ∧ (((∃ l0, X.came (t, n) = some l0 ∧ l0 ≠ out) ∧ e = .returned (.tuple #[.bool false, .int .i64 180]) ∧ Has w0 w' (c ++ m)) ∨
       ((∀ l0, X.came (t, n) = some l0 → l0 = out) ∧ ∃ c', e = .returned (.tuple #[.bool (readyB (cameB X (t, n) out) t), .int .i64 0]) ∧ BoxAt p (cameB X (t, n) out) c' ∧ Has w0 w' (c' ++ m)))) := by
  obtain ⟨h, l1, rfl, hk⟩ := hB.k
  rw [List.append_assoc] at H ⊢
  refine (put_k H hk hsz0 ht hn64 hl hin hlen hsz).mono ?_
  rintro e u (h1 | ⟨hv, out, hp, (h1 | ⟨h1, h', l', d, h2, h3, h4, h5⟩)⟩)
  · exact .inl h1
  · exact .inr ⟨hv, out, hp, .inl h1⟩
  · refine .inr ⟨hv, out, hp, .inr ⟨h1, h' ++ l', h2, h3.at, ?_⟩⟩
    rw [List.append_assoc]
    exact h5.sub (sb_app cut_head (sb_app cut_head ⟨d, List.perm_append_comm⟩))
end
end Go.Proofs.YtpjcfnnnciknmaaGreat
