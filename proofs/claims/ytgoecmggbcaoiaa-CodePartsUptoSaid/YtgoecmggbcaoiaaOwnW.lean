/- Memory is nobody else's: the walk. -/
import Derived.Test.YtgoecmggbcaoiaaArgsTx
set_option linter.unusedVariables false
set_option linter.unusedSimpArgs false
set_option maxRecDepth 100000
set_option maxHeartbeats 4000000
namespace Go.Proofs.Ytgoecmggbcaoiaa
open Go hiding Expr
open Go.RowKit Tr

section
variable {w w' w0 : World} {m m' c : Hp} {bs : List Int} {o o1 o2 o3 o4 : Option Addr} {cap c1 c2 c3 c4 n : Nat} {t : Tx}

theorem bclone_c (H : Has w0 w m) (hb : ∀ u, Has w0 u m → BytAt u o bs) (hn : n = bs.length) (hl : bs.length ≤ 140737488355328) : Calls Try.prog 24 #[.slice o n cap] w fun e w' =>
    ∃ v c, e = .returned v ∧ OwnC 5 1 v bs.length (byts bs) c ∧ Has w0 w' (c ++ m) := by
  subst hn
  apply c24
  refine s_ite (fun g => s_ret ⟨_, [], rfl, ?_, H⟩) (fun g => ?_)
  · cases o with
    | some a => simp at g
    | none =>
      have : bs = [] := by simpa using RowsAt.none (hb w H)
      subst this
      exact OwnC.nil
  · (refine h_new H fun n3 u H => ?_)
    refine h_appAll elemY (by decide) H (c := [cl n3 5 []]) (m' := m) (cut_one (by repeat (first | exact pick_head | apply pick_tail | apply pick_app))) (OwnC.zero 5 1 n3) (br1 bs) (br_one _) (hb u (H.sub (by repeat (first | exact sb_refl | exact sb_nil | refine sb_cons (by repeat (first | exact pick_head | apply pick_tail | apply pick_app)) ?_ | refine sb_app (by repeat (first | exact cut_head | exact cut_all | apply cut_tail | apply cut_app)) ?_ | exact sb_one (by repeat (first | exact cut_head | exact cut_all | apply cut_tail | apply cut_app)))))) (by simp) (by omega) (by omega) fun v' c' w' ho' H => ?_
    rw [Nat.zero_add] at ho'
    obtain ⟨o3, cap3, rfl⟩ := ho'.slice
    exact s_asS (s_ret ⟨_, c', rfl, ho', H⟩)

theorem own_c (ht : TxOk t) (hc1 : t.code.length ≤ c1) (hv1 : BytAt w o1 t.code) (hv3 : KeyAt w o3 t.rd) (hv4 : KeyAt w o4 t.wr) :
    Calls Try.prog 7 #[.agg ⟨txR t o1 o2 o3 o4 c1 c2 c3 c4⟩] w fun e w' => e = .returned (.bool true) ∧ Fr [] w w' := by
  apply c7
  have H := Has.init w
  (refine h_new H fun n14 u H => ?_)
  have H : Has w u (cl n14 51 (txR t o1 o2 o3 o4 c1 c2 c3 c4) :: []) := H
  refine h_ldS H (by repeat (first | exact pick_head | apply pick_tail | apply pick_app)) rfl ?_
  (refine s_call (bclone_c H (fun u hu => hu.rows hv1) rfl ht.code) ?_; rintro _ u ⟨vw, cw, rfl, how, H⟩; refine ⟨_, rfl, ?_⟩)
  obtain ⟨ow, capw, rfl⟩ := how.slice
  refine s_asS (h_ldS H (by repeat (first | exact pick_head | apply pick_tail | apply pick_app)) rfl ?_)
  (refine s_call (dec_c (bs := t.code) H (fun u hu => hu.rows hv1) ht.u hc1 rfl ht.code) ?_; rintro _ u ⟨vl, cl1, rfl, hol, H⟩; refine ⟨_, rfl, ?_⟩)
  obtain ⟨ol, capl, rfl⟩ := hol.slice
  refine s_asU (s_req rfl (s_asS (s_asI ?_)))
  have hlen : (decP t.code).1.length ≤ 512 := by
    by_cases h : (decP t.code).2 = 0
    · exact (dec_facts ht.u h).2.2.2.1
    · rw [dec_bad h]; simp
  (refine s_call (enc_c (l := (decP t.code).1) H (fun u hu => insAt_own hol hu (by repeat (first | exact cut_head | exact cut_all | apply cut_tail | apply cut_app))) rfl (by omega)) ?_; rintro _ u ⟨vb, cb, rfl, hob, H⟩; refine ⟨_, rfl, ?_⟩)
  obtain ⟨ob, capb, rfl⟩ := hob.slice
  refine s_asU (s_req rfl (s_asS (s_asI ?_)))
  have hblen : (encP (decP t.code).1).1.length ≤ 512 := by
    unfold encP
    repeat' split
    all_goals simp
    omega
  generalize (decP t.code).1.length = nl at *
  generalize (encP (decP t.code).1).1.length = nb at *
  refine s_loop (fun vs W => ∃ (i : Nat) (xs : List Value) (cl1 : Hp), vs = [.int .i64 i] ∧ i ≤ nl ∧ OwnC 40 5 (.slice ol nl capl) nl xs cl1 ∧ Has w W (cb ++ (cl1 ++ (cw ++ [cl n14 51 (txR t o1 o2 o3 o4 c1 c2 c3 c4)]))))
    (fun vs _ => nl - (intOf (vs.getD 0 undef)).toNat) ⟨0, _, cl1, rfl, by omega, hol, H⟩ ?_
  clear H hol
  rintro _ j W ⟨i, xs, cl1, rfl, hi, hol, H⟩
  refine s_asI (s_ite (fun g => ?_) (fun g => ?_))
  · simp only [decide_eq_true_eq] at g
    refine s_req ⟨by omega, by omega⟩ ?_
    obtain ⟨gg, cap', sp, he, _⟩ := hol.pos (by omega)
    cases he
    have hxl := hol.len
    refine s_sm (h_stC (i := i) (f := 1) H (c := cl1) (m' := cb ++ (cw ++ [cl n14 51 (txR t o1 o2 o3 o4 c1 c2 c3 c4)])) (by repeat (first | exact cut_head | exact cut_all | apply cut_tail | apply cut_app)) hol (by omega) rfl fun c' u ho' H => s_next ⟨rfl, rfl⟩ ?_)
    simp only [if_true]
    rw [w_succ (by omega)]
    exact ⟨⟨i + 1, _, c', rfl, by omega, ho', H.sub (by repeat (first | exact sb_refl | exact sb_nil | refine sb_cons (by repeat (first | exact pick_head | apply pick_tail | apply pick_app)) ?_ | refine sb_app (by repeat (first | exact cut_head | exact cut_all | apply cut_tail | apply cut_app)) ?_ | exact sb_one (by repeat (first | exact cut_head | exact cut_all | apply cut_tail | apply cut_app))))⟩, by simp [intOf]; omega⟩
  refine s_loop (fun vs W => ∃ (i : Nat) (xs : List Value) (cb : Hp), vs = [.int .i64 i] ∧ i ≤ nb ∧ OwnC 5 1 (.slice ob nb capb) nb xs cb ∧ Has w W (cb ++ (cw ++ [cl n14 51 (txR t o1 o2 o3 o4 c1 c2 c3 c4)])))
    (fun vs _ => nb - (intOf (vs.getD 0 undef)).toNat) ⟨0, _, cb, rfl, by omega, hob, H.sub (by repeat (first | exact sb_refl | exact sb_nil | refine sb_cons (by repeat (first | exact pick_head | apply pick_tail | apply pick_app)) ?_ | refine sb_app (by repeat (first | exact cut_head | exact cut_all | apply cut_tail | apply cut_app)) ?_ | exact sb_one (by repeat (first | exact cut_head | exact cut_all | apply cut_tail | apply cut_app))))⟩ ?_
  clear H hob
  rintro _ j W ⟨i, xs, cb, rfl, hi, hob, H⟩
  refine s_asI (s_ite (fun g => ?_) (fun g => ?_))
  · simp only [decide_eq_true_eq] at g
    refine s_req ⟨by omega, by omega⟩ ?_
    obtain ⟨gg, cap', sp, he, _⟩ := hob.pos (by omega)
    cases he
    have hxl := hob.len
    refine s_sm (h_stC (i := i) (f := 0) H (c := cb) (m' := cw ++ [cl n14 51 (txR t o1 o2 o3 o4 c1 c2 c3 c4)]) (by repeat (first | exact cut_head | exact cut_all | apply cut_tail | apply cut_app)) hob (by omega) rfl fun c' u ho' H => s_next ⟨rfl, rfl⟩ ?_)
    simp only [if_true]
    rw [w_succ (by omega)]
    exact ⟨⟨i + 1, _, c', rfl, by omega, ho', H.sub (by repeat (first | exact sb_refl | exact sb_nil | refine sb_cons (by repeat (first | exact pick_head | apply pick_tail | apply pick_app)) ?_ | refine sb_app (by repeat (first | exact cut_head | exact cut_all | apply cut_tail | apply cut_app)) ?_ | exact sb_one (by repeat (first | exact cut_head | exact cut_all | apply cut_tail | apply cut_app))))⟩, by simp [intOf]; omega⟩
  have H : Has w W (cw ++ [cl n14 51 (txR t o1 o2 o3 o4 c1 c2 c3 c4)]) := H.sub (by repeat (first | exact sb_refl | exact sb_nil | refine sb_cons (by repeat (first | exact pick_head | apply pick_tail | apply pick_app)) ?_ | refine sb_app (by repeat (first | exact cut_head | exact cut_all | apply cut_tail | apply cut_app)) ?_ | exact sb_one (by repeat (first | exact cut_head | exact cut_all | apply cut_tail | apply cut_app))))
  (repeat (first | refine s_asI ?_ | refine s_asS ?_ | refine s_asP ?_ | refine s_asB ?_ | refine s_asA ?_ | refine s_asT ?_ | refine s_asM ?_ | refine s_asU ?_ | refine s_asC ?_ | refine s_sm ?_ | refine s_req (by first | rfl | exact ⟨rfl, rfl⟩) ?_ | refine h_ldI H (by repeat (first | exact pick_head | apply pick_tail | apply pick_app)) (by first | rfl | (simp; done)) ?_ | refine h_ldB H (by repeat (first | exact pick_head | apply pick_tail | apply pick_app)) (by first | rfl | (simp; done)) ?_ | refine h_ldP H (by repeat (first | exact pick_head | apply pick_tail | apply pick_app)) (by first | rfl | (simp; done)) ?_ | refine h_ldS H (by repeat (first | exact pick_head | apply pick_tail | apply pick_app)) (by first | rfl | (simp; done)) ?_ | refine h_ldM H (by repeat (first | exact pick_head | apply pick_tail | apply pick_app)) (by first | rfl | (simp; done)) ?_ | refine h_ldT H (by repeat (first | exact pick_head | apply pick_tail | apply pick_app)) (by first | rfl | (simp; done)) ?_ | refine h_ldV H (by repeat (first | exact pick_head | apply pick_tail | apply pick_app)) (by first | rfl | (simp; done)) ?_ | (refine h_new H fun _ u H => ?_) | (refine h_st H (by repeat (first | exact pick_head | apply pick_tail | apply pick_app)) (by first | (simp; done) | exact Nat.le_of_ble_eq_true rfl) rfl fun u H => ?_) | (refine h_drew H fun u H => ?_) | refine s_chk c_nil ?_))
  refine s_call (check_c H ht hc1 (fun u hu => hu.rows hv1) (fun u hu => hu.rows hv3) (fun u hu => hu.rows hv4)) ?_
  rintro _ u ⟨⟨n, rfl, hn⟩, H⟩
  refine ⟨_, rfl, s_asI (h_ldS H (by repeat (first | exact pick_head | apply pick_tail | apply pick_app)) rfl ?_)⟩
  (refine s_call (dec_c (bs := t.code) H (fun u hu => hu.rows hv1) ht.u hc1 rfl ht.code) ?_; rintro _ u ⟨va, ca, rfl, hoa, H⟩; refine ⟨_, rfl, ?_⟩)
  obtain ⟨oa, capa, rfl⟩ := hoa.slice
  refine s_asU (s_req rfl (s_asS (s_asI ?_)))
  (refine s_call (rdec_c (bs := t.code) H (fun u hu => bytAt_own how hu (by repeat (first | exact cut_head | exact cut_all | apply cut_tail | apply cut_app))) ht.u rfl ht.code) ?_; rintro _ u ⟨vt, ct, rfl, hot, H⟩; refine ⟨_, rfl, ?_⟩)
  obtain ⟨ot, capt, rfl⟩ := hot.slice
  refine s_asU (s_req rfl (s_asS (s_asI ?_)))
  (refine s_call (live_c H) ?_; rintro _ u ⟨rfl, H⟩; refine ⟨_, rfl, ?_⟩)
  refine s_asB (s_true rfl (h_ldS H (by repeat (first | exact pick_head | apply pick_tail | apply pick_app)) rfl ?_))
  (refine s_call (eqb_c H (H.rows hv1) (bytAt_own how H (by repeat (first | exact cut_head | exact cut_all | apply cut_tail | apply cut_app))) rfl rfl) ?_; rintro _ u ⟨rfl, H⟩; refine ⟨_, rfl, ?_⟩)
  refine s_asB (s_true rfl ?_)
  have hlen : (decP t.code).1.length ≤ 512 := by
    by_cases h : (decP t.code).2 = 0
    · exact (dec_facts ht.u h).2.2.2.1
    · rw [dec_bad h]; simp
  (refine s_call (samei_c (l := (decP t.code).1) H (fun u hu => insAt_own hoa hu (by repeat (first | exact cut_head | exact cut_all | apply cut_tail | apply cut_app))) (fun u hu => insAt_own hot hu (by repeat (first | exact cut_head | exact cut_all | apply cut_tail | apply cut_app))) rfl rfl (by omega)) ?_; rintro _ u ⟨rfl, H⟩; refine ⟨_, rfl, ?_⟩)
  exact s_asB (s_ret ⟨rfl, H.base⟩)
end
end Go.Proofs.Ytgoecmggbcaoiaa
