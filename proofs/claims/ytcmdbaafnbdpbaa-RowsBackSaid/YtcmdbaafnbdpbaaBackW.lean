/- The walk of RowsBack. -/
import Derived.Test.YtcmdbaafnbdpbaaFromW
import Derived.Test.YtcmdbaafnbdpbaaOnce
import Derived.Test.YtcmdbaafnbdpbaaTreesM
set_option linter.unusedVariables false
set_option linter.unusedSimpArgs false
set_option maxRecDepth 100000
set_option maxHeartbeats 4000000
namespace Go.Proofs.Ytcmdbaafnbdpbaa
open Go hiding Expr
open Go.RowKit Tr

section
variable {w : World} {o o2 : Option Addr} {X Y : List OpA} {n cap n2 cap2 : Nat}
theorem back_c (h : OpsAt w o X) (hn : n = X.length) (hmax : X.length < 9223372036854775807) (h2 : OpsAt w o2 Y) (hn2 : n2 = Y.length) (hmax2 : Y.length < 9223372036854775807) :
    Calls Try.prog 7 #[.slice o n cap, .slice o2 n2 cap2] w fun e w' => e = .returned (.bool true) ∧ Fr [] w w' := by
  subst hn hn2
  apply c7
  refine s_call (new_c (Has.init w)) ?_
  rintro _ u ⟨p, c, rfl, hT, H⟩
  refine ⟨_, rfl, s_asP ?_⟩
  refine h_blk (fun vs => vs = [.bool false]) H (s_false rfl (s_call live_c ?_)) ?_
  · rintro _ u ⟨rfl, f⟩
    have H := H.fr0 f
    refine ⟨_, rfl, s_asB (s_false rfl (s_next (by simp) ?_))⟩
    simp only [if_true]
    exact ⟨H, trivial⟩
  rintro _ _ W H rfl
  refine s_asB ?_
  refine s_loop (fun vs W => ∃ (k : Nat) (R : List Rw) (c : Hp), vs = [.int .i64 k] ∧ k ≤ X.length ∧ InvR R ∧ Tab p R c ∧ Has w W (c ++ [])) (fun vs _ => X.length - (intOf (vs.getD 0 undef)).toNat)
    ⟨0, [], c, rfl, by omega, InvR.nil, hT, H⟩ ?_
  clear H hT
  rintro _ j W ⟨k, R, c, rfl, hk, hI, hT, H⟩
  refine s_asI (s_ite (fun g1 => ?_) (fun g1 => ?_))
  · simp only [decide_eq_true_eq] at g1
    have hlt : k < X.length := by omega
    obtain ⟨x, hx⟩ : ∃ x, X[k]? = some x := ⟨_, List.getElem?_eq_getElem hlt⟩
    obtain ⟨g, off, he, ⟨p0, p1, p2, p3, p4, p5, p6, p7, p8⟩, hok⟩ := (h.fr0 H.base).get hx
    have hxv : ValsAt w x.o x.vals := (h.2 x (List.mem_of_getElem? hx)).2.2.2.1
    refine s_req ⟨by omega, g1⟩ ⟨g, off, he, (s_loadI p0 (s_loadI p1 (s_loadB p2 (s_loadB p3 (s_loadI p4 (s_loadS p5 (s_loadI p6 (s_loadI p7 (s_loadI p8 ?_)))))))))⟩
    (refine h_new H fun n27 u H => ?_)
    iterate 9 refine h_st H (by repeat (first | exact pick_head | apply pick_tail | apply pick_app)) (by first | (simp; done) | exact Nat.le_of_ble_eq_true rfl) rfl fun u H => ?_
    have H : Has w u (c ++ [cl n27 32 (opr x)]) := H.sub (by repeat (first | exact sb_refl | exact sb_nil | refine sb_cons (by repeat (first | exact pick_head | apply pick_tail | apply pick_app)) ?_ | refine sb_app (by repeat (first | exact cut_head | exact cut_all | apply cut_tail | apply cut_app)) ?_ | exact sb_one (by repeat (first | exact cut_head | exact cut_all | apply cut_tail | apply cut_app))))
    refine h_ldI H (by repeat (first | exact pick_head | apply pick_tail | apply pick_app)) rfl (h_ldI H (by repeat (first | exact pick_head | apply pick_tail | apply pick_app)) rfl (h_ldI H (by repeat (first | exact pick_head | apply pick_tail | apply pick_app)) rfl (h_ldS H (by repeat (first | exact pick_head | apply pick_tail | apply pick_app)) rfl (h_ldI H (by repeat (first | exact pick_head | apply pick_tail | apply pick_app)) rfl (h_ldI H (by repeat (first | exact pick_head | apply pick_tail | apply pick_app)) rfl ?_)))))
    refine s_call (put_c (e := x.e) (slot := x.slot) (place := x.place) H hT hI hok.1 hok.2.1 (fun u H => hxv.fr0 H.base) rfl hok.2.2.1) ?_
    rintro _ u ⟨c3, rfl, hT3, H⟩
    refine ⟨_, rfl, s_asI (s_next (by first | exact ⟨rfl, rfl⟩ | trivial) ?_)⟩
    simp (config := { decide := true }) only [if_true, if_false]
    exact ⟨⟨k + 1, _, c3, by rw [w_succ (by omega)], by omega, hI.put x.s x.q hok.2.2.1, hT3, H.sub (by repeat (first | exact sb_refl | exact sb_nil | refine sb_cons (by repeat (first | exact pick_head | apply pick_tail | apply pick_app)) ?_ | refine sb_app (by repeat (first | exact cut_head | exact cut_all | apply cut_tail | apply cut_app)) ?_ | exact sb_one (by repeat (first | exact cut_head | exact cut_all | apply cut_tail | apply cut_app))))⟩, by rw [w_succ (by omega)]; simp [intOf] <;> omega⟩
  clear g1 hk
  have hRl := hI.len
  have H : Has w W c := by rw [List.append_nil] at H; exact H
  refine h_new H fun n38 u H => ?_
  refine s_call (rows_c (m := [cl n38 42 [.slice none 0 0]]) (H.sub (by repeat (first | exact sb_refl | exact sb_nil | refine sb_cons (by repeat (first | exact pick_head | apply pick_tail | apply pick_app)) ?_ | refine sb_app (by repeat (first | exact cut_head | exact cut_all | apply cut_tail | apply cut_app)) ?_ | exact sb_one (by repeat (first | exact cut_head | exact cut_all | apply cut_tail | apply cut_app))))) hT hI) ?_
  rintro _ u ⟨p', oc, capc, c', rfl, hC, H⟩
  obtain ⟨XA, hXA, hXAl, hat⟩ := rowsC_at (w0 := w) (v := undef) (m' := []) hC rfl
  have hs : ∀ x ∈ XA, x.vals.length * 8 ≤ 140737488355328 := by
    intro x hx
    exact (hI.ok x.row (by rw [← hXA]; exact List.mem_map_of_mem hx)).2.2.2.2
  have H : Has w u (cl n38 42 [.slice none 0 0] :: (cl p' 42 [.slice oc R.length capc] :: (c' ++ c))) := H.sub (by repeat (first | exact sb_refl | exact sb_nil | refine sb_cons (by repeat (first | exact pick_head | apply pick_tail | apply pick_app)) ?_ | refine sb_app (by repeat (first | exact cut_head | exact cut_all | apply cut_tail | apply cut_app)) ?_ | exact sb_one (by repeat (first | exact cut_head | exact cut_all | apply cut_tail | apply cut_app))))
  refine ⟨_, rfl, s_asC (s_req rfl (s_asP ?_))⟩
  refine h_rfZ (rows1_seq (p := p') (o := oc) (ty := 42) (cap := capc) hs (by omega)) H
    (fun ys Z mi => ∃ (Xs : List AR) (v : Value) (cr : Hp), Xs.length = ys.length ∧ Xs.map AR.row = R.take ys.length ∧ OwnC 56 6 v ys.length (encA Xs) cr ∧ mi = cl n38 42 [v] :: (cr ++ (cl p' 42 [.slice oc R.length capc] :: (c' ++ c))) ∧
      ∀ x ∈ Xs, ∃ cx Z2, Z.Perm (cx ++ Z2) ∧ OwnV x cx) (fun _ => False) ?_ ⟨[], .slice none 0 0, [], rfl, rfl, OwnC.nil, rfl, by simp⟩ ?_ ?_ ?_ (fun _ _ _ h => h.elim)
  · rintro ys Z mi pp ⟨Xs, v, cr, h1, h2, h3, h4, h5⟩
    refine ⟨Xs, v, cr, h1, h2, h3, h4, fun x hx => ?_⟩
    obtain ⟨cx, Z2, hp, ho⟩ := h5 x hx
    exact ⟨cx, pp :: Z2, (List.Perm.cons pp hp).trans List.perm_middle.symm, ho⟩
  · rintro ys Z mi W ⟨Xs, v, cr, h1, h2, h3, rfl, h5⟩ H
    rw [← hXAl]
    refine ⟨H.cells (by repeat (first | exact pick_head | apply pick_tail | apply pick_app)), hat W c (H.sub (by repeat (first | exact sb_refl | exact sb_nil | refine sb_cons (by repeat (first | exact pick_head | apply pick_tail | apply pick_app)) ?_ | refine sb_app (by repeat (first | exact cut_head | exact cut_all | apply cut_tail | apply cut_app)) ?_ | exact sb_one (by repeat (first | exact cut_head | exact cut_all | apply cut_tail | apply cut_app)))))⟩
  · rintro l rec d Z ys W av mi hrs hrp ⟨x, x', cx, Z', hx, hxr, rfl, rfl, hxo⟩ ⟨Xs, v, cr, h1, h2, h3, rfl, h5⟩ H
    have hlt := (List.getElem?_eq_some_iff.1 hx).1
    obtain ⟨ov, cv, rfl⟩ := h3.slice
    refine s_req rfl (s_asA (s_req rfl (s_asI (s_asI (s_asI (s_asS (s_asI (s_asI ?_))))))))
    (refine h_new H fun n53 u H => ?_)
    iterate 6 refine h_st H (by repeat (first | exact pick_head | apply pick_tail | apply pick_app)) (by first | (simp; done) | exact Nat.le_of_ble_eq_true rfl) rfl fun u H => ?_
    refine h_beg H (by repeat (first | exact pick_head | apply pick_tail | apply pick_app)) hrs fun w H => ?_
    refine h_ldS H (by repeat (first | exact pick_head | apply pick_tail | apply pick_app)) rfl (h_ldI H (by repeat (first | exact pick_head | apply pick_tail | apply pick_app)) rfl (h_ldI H (by repeat (first | exact pick_head | apply pick_tail | apply pick_app)) rfl (h_ldI H (by repeat (first | exact pick_head | apply pick_tail | apply pick_app)) rfl (h_ldS H (by repeat (first | exact pick_head | apply pick_tail | apply pick_app)) rfl (h_ldI H (by repeat (first | exact pick_head | apply pick_tail | apply pick_app)) rfl (h_ldI H (by repeat (first | exact pick_head | apply pick_tail | apply pick_app)) rfl ?_))))))
    (refine h_new H fun n65 u H => ?_)
    refine h_app1 elemR H (by repeat (first | exact cut_head | exact cut_all | apply cut_tail | apply cut_app)) h3 (by repeat (first | exact pick_head | apply pick_tail | apply pick_app)) rfl (arr_one [x'] _ (List.mem_singleton.2 rfl)) (by omega) (by omega) ?_
    intro v' cr' u ho' H
    obtain ⟨ov', cv', rfl⟩ := ho'.slice
    refine s_asS (h_st H (by repeat (first | exact pick_head | apply pick_tail | apply pick_app)) (by simp) rfl fun u H => h_cont H (by repeat (first | exact pick_head | apply pick_tail | apply pick_app)) hrs hrp fun w H => s_next trivial ?_)
    simp (config := { decide := true }) only [if_true, if_false]
    refine .inl ⟨rfl, _, ⟨Xs ++ [x'], _, cr', ?_, ?_, ?_, rfl, ?_⟩, H.sub (by repeat (first | exact sb_refl | exact sb_nil | refine sb_cons (by repeat (first | exact pick_head | apply pick_tail | apply pick_app)) ?_ | refine sb_app (by repeat (first | exact cut_head | exact cut_all | apply cut_tail | apply cut_app)) ?_ | exact sb_one (by repeat (first | exact cut_head | exact cut_all | apply cut_tail | apply cut_app))))⟩
    · simp [h1]
    · rw [List.map_append, h2, List.length_append, List.length_singleton, List.take_add_one]
      congr 1
      have : R[ys.length]? = some x.row := row_at hXA hx
      rw [this, ← hxr]
      rfl
    · rw [List.length_append, List.length_singleton, encA_append]
      exact ho'
    · intro y hy
      rcases List.mem_append.1 hy with hy | hy
      · exact h5 y hy
      · rw [List.mem_singleton] at hy
        subst hy
        exact ⟨cx, Z', List.Perm.refl _, hxo⟩
  · rintro D W ys Z mi hfin ⟨Xs, v, cr, h1, h2', h3, rfl, h5⟩ H
    rw [hfin, ← hXAl, List.take_length] at h2'
    obtain ⟨ov, cv, rfl⟩ := h3.slice
    have hW : ∀ u, Has w u ((D, .deferred (some [])) :: (Z ++ cl n38 42 [.slice ov ys.length cv] :: (cr ++ (cl p' 42 [.slice oc R.length capc] :: (c' ++ c))))) → AllAt u ov Xs := by
      intro u H
      refine ⟨rowsAt'_own h3 H (cut_tail (cut_app (cut_tail cut_head))), fun x hx => ?_⟩
      obtain ⟨cx, Z2, hp, ho⟩ := h5 x hx
      exact valsAt_own ho H (cut_tail (cut_app' (hp : Cut cx Z Z2)))
    have hs2 : ∀ x ∈ Xs, x.vals.length * 8 ≤ 140737488355328 := by
      intro x hx
      exact (hI.ok x.row (by rw [← h2']; exact List.mem_map_of_mem hx)).2.2.2.2
    refine h_ldS H (by repeat (first | exact pick_head | apply pick_tail | apply pick_app)) rfl ?_
    have hfr := from_c (cap := cv) H hW h1.symm hs2 (by omega)
    rw [h2', fromR_self hI] at hfr
    refine s_call2 hfr ?_
    rintro _ u ⟨q, d, rfl, _, hT2, H⟩
    have H : Has w u (c ++ (d ++ [(D, .deferred (some []))])) := H.sub (by repeat (first | exact sb_refl | exact sb_nil | refine sb_cons (by repeat (first | exact pick_head | apply pick_tail | apply pick_app)) ?_ | refine sb_app (by repeat (first | exact cut_head | exact cut_all | apply cut_tail | apply cut_app)) ?_ | exact sb_one (by repeat (first | exact cut_head | exact cut_all | apply cut_tail | apply cut_app))))
    refine ⟨_, rfl, s_asU (s_req rfl (s_asP (s_asI ?_)))⟩
    refine h_blk (fun _ => True) H (s_false rfl (s_false rfl (s_next (by simp) ?_))) ?_
    · simp (config := { decide := true }) only [if_true, if_false]
      exact ⟨H, trivial⟩
    clear H
    rintro _ _ W H _
    refine s_loop (fun vs W => ∃ (k : Nat) (R : List Rw) (c d : Hp), vs = [.int .i64 k] ∧ k ≤ Y.length ∧ InvR R ∧ Tab p R c ∧ Tab q R d ∧ Has w W (c ++ (d ++ [(D, .deferred (some []))]))) (fun vs _ => Y.length - (intOf (vs.getD 0 undef)).toNat)
      ⟨0, R, c, d, rfl, by omega, hI, hT, hT2, H⟩ ?_
    clear H hT hT2 hI hfr hW h5 h3 h2' hat hC hXA hXAl hs hRl
    rintro _ j W ⟨k, R, c, d, rfl, hk, hI, hT, hT2, H⟩
    refine s_asI (s_ite (fun g1 => ?_) (fun g1 => ?_))
    · simp only [decide_eq_true_eq] at g1
      have hlt : k < Y.length := by omega
      obtain ⟨x, hx⟩ : ∃ x, Y[k]? = some x := ⟨_, List.getElem?_eq_getElem hlt⟩
      obtain ⟨g, off, he, ⟨p0, p1, p2, p3, p4, p5, p6, p7, p8⟩, hok⟩ := (h2.fr0 H.base).get hx
      have hxv : ValsAt w x.o x.vals := (h2.2 x (List.mem_of_getElem? hx)).2.2.2.1
      refine s_req ⟨by omega, g1⟩ ⟨g, off, he, (s_loadI p0 (s_loadI p1 (s_loadB p2 (s_loadB p3 (s_loadI p4 (s_loadS p5 (s_loadI p6 (s_loadI p7 (s_loadI p8 ?_)))))))))⟩
      (refine h_new H fun n97 u H => ?_)
      iterate 9 refine h_st H (by repeat (first | exact pick_head | apply pick_tail | apply pick_app)) (by first | (simp; done) | exact Nat.le_of_ble_eq_true rfl) rfl fun u H => ?_
      have H : Has w u (c ++ (cl n97 32 (opr x) :: (d ++ [(D, .deferred (some []))]))) := H.sub (by repeat (first | exact sb_refl | exact sb_nil | refine sb_cons (by repeat (first | exact pick_head | apply pick_tail | apply pick_app)) ?_ | refine sb_app (by repeat (first | exact cut_head | exact cut_all | apply cut_tail | apply cut_app)) ?_ | exact sb_one (by repeat (first | exact cut_head | exact cut_all | apply cut_tail | apply cut_app))))
      refine h_ldI H (by repeat (first | exact pick_head | apply pick_tail | apply pick_app)) rfl (h_ldI H (by repeat (first | exact pick_head | apply pick_tail | apply pick_app)) rfl ?_)
      refine s_call2 (ask_c H hT hI hok.1 hok.2.1) ?_
      rintro _ u ⟨oa, capa, ca, rfl, hoa, H⟩
      refine ⟨_, rfl, s_asU (s_req rfl (s_asA (s_req rfl (s_asI (s_asS (s_asI (s_asI (s_asI ?_))))))))⟩
      (refine h_new H fun n110 u H => ?_)
      iterate 4 refine h_st H (by repeat (first | exact pick_head | apply pick_tail | apply pick_app)) (by first | (simp; done) | exact Nat.le_of_ble_eq_true rfl) rfl fun u H => ?_
      refine h_ldI H (by repeat (first | exact pick_head | apply pick_tail | apply pick_app)) rfl (h_ldI H (by repeat (first | exact pick_head | apply pick_tail | apply pick_app)) rfl ?_)
      refine s_call2 (ask_c (s := x.s) (q := x.q) (c := d) (m := cl n110 30 (resL (ansR R x.s x.q).e oa (ansR R x.s x.q).vals.length capa (ansR R x.s x.q).slot (ansR R x.s x.q).place) :: (ca ++ (c ++ (cl n97 32 (opr x) :: [(D, .deferred (some []))])))) (H.sub (by repeat (first | exact sb_refl | exact sb_nil | refine sb_cons (by repeat (first | exact pick_head | apply pick_tail | apply pick_app)) ?_ | refine sb_app (by repeat (first | exact cut_head | exact cut_all | apply cut_tail | apply cut_app)) ?_ | exact sb_one (by repeat (first | exact cut_head | exact cut_all | apply cut_tail | apply cut_app))))) hT2 hI hok.1 hok.2.1) ?_
      rintro _ u ⟨ob, capb, cb, rfl, hob, H⟩
      refine ⟨_, rfl, s_asU (s_req rfl (s_asA (s_req rfl (s_asI (s_asS (s_asI (s_asI (s_asI ?_))))))))⟩
      (refine h_new H fun n123 u H => ?_)
      iterate 4 refine h_st H (by repeat (first | exact pick_head | apply pick_tail | apply pick_app)) (by first | (simp; done) | exact Nat.le_of_ble_eq_true rfl) rfl fun u H => ?_
      have hal : (ansR R x.s x.q).vals.length * 8 ≤ 140737488355328 := by
        unfold ansR
        split
        · cases hl : lookR R x.s with
          | none => simp [zeroR]
          | some r => exact (hI.ok r ((lookR_mem hI.up).1 hl).1).2.2.2.2
        · simp [zeroR]
      refine h_drew H fun u H => ?_
      refine h_ldI H (by repeat (first | exact pick_head | apply pick_tail | apply pick_app)) rfl (h_ldS H (by repeat (first | exact pick_head | apply pick_tail | apply pick_app)) rfl (h_ldI H (by repeat (first | exact pick_head | apply pick_tail | apply pick_app)) rfl (h_ldI H (by repeat (first | exact pick_head | apply pick_tail | apply pick_app)) rfl (h_ldI H (by repeat (first | exact pick_head | apply pick_tail | apply pick_app)) rfl (h_ldS H (by repeat (first | exact pick_head | apply pick_tail | apply pick_app)) rfl (h_ldI H (by repeat (first | exact pick_head | apply pick_tail | apply pick_app)) rfl (h_ldI H (by repeat (first | exact pick_head | apply pick_tail | apply pick_app)) rfl ?_)))))))
      refine s_call2 (samer_c (valsAt_own hoa H (by repeat (first | exact cut_head | exact cut_all | apply cut_tail | apply cut_app))) (valsAt_own hob H (by repeat (first | exact cut_head | exact cut_all | apply cut_tail | apply cut_app))) rfl rfl (by omega)) ?_
      rintro _ u ⟨rfl, f⟩
      have H := H.fr0 f
      have H : Has w u (c ++ (cl n97 32 (opr x) :: (d ++ [(D, .deferred (some []))]))) := H.sub (by repeat (first | exact sb_refl | exact sb_nil | refine sb_cons (by repeat (first | exact pick_head | apply pick_tail | apply pick_app)) ?_ | refine sb_app (by repeat (first | exact cut_head | exact cut_all | apply cut_tail | apply cut_app)) ?_ | exact sb_one (by repeat (first | exact cut_head | exact cut_all | apply cut_tail | apply cut_app))))
      refine ⟨_, rfl, s_asB (s_chk c_nil (s_false (by simp) (s_false (by simp) ?_)))⟩
      refine h_ldI H (by repeat (first | exact pick_head | apply pick_tail | apply pick_app)) rfl (h_ldI H (by repeat (first | exact pick_head | apply pick_tail | apply pick_app)) rfl (h_ldI H (by repeat (first | exact pick_head | apply pick_tail | apply pick_app)) rfl (h_ldS H (by repeat (first | exact pick_head | apply pick_tail | apply pick_app)) rfl (h_ldI H (by repeat (first | exact pick_head | apply pick_tail | apply pick_app)) rfl (h_ldI H (by repeat (first | exact pick_head | apply pick_tail | apply pick_app)) rfl ?_)))))
      refine h_ldI H (by repeat (first | exact pick_head | apply pick_tail | apply pick_app)) rfl (h_ldI H (by repeat (first | exact pick_head | apply pick_tail | apply pick_app)) rfl (h_ldI H (by repeat (first | exact pick_head | apply pick_tail | apply pick_app)) rfl (h_ldS H (by repeat (first | exact pick_head | apply pick_tail | apply pick_app)) rfl (h_ldI H (by repeat (first | exact pick_head | apply pick_tail | apply pick_app)) rfl (h_ldI H (by repeat (first | exact pick_head | apply pick_tail | apply pick_app)) rfl ?_)))))
      refine s_call2 (put_c (e := x.e) (slot := x.slot) (place := x.place) H hT hI hok.1 hok.2.1 (fun u H => hxv.fr0 H.base) rfl hok.2.2.1) ?_
      rintro _ u ⟨c3, rfl, hT3, H⟩
      refine ⟨_, rfl, s_asI (s_chk (hc_cons H (by repeat (first | exact pick_head | apply pick_tail | apply pick_app)) rfl (hc_cons H (by repeat (first | exact pick_head | apply pick_tail | apply pick_app)) rfl (hc_cons H (by repeat (first | exact pick_head | apply pick_tail | apply pick_app)) rfl (hc_cons H (by repeat (first | exact pick_head | apply pick_tail | apply pick_app)) rfl (hc_cons H (by repeat (first | exact pick_head | apply pick_tail | apply pick_app)) rfl (hc_cons H (by repeat (first | exact pick_head | apply pick_tail | apply pick_app)) rfl c_nil)))))) ?_)⟩
      refine s_call2 (put_c (c := d) (s := x.s) (q := x.q) (e := x.e) (slot := x.slot) (place := x.place) (m := c3 ++ (cl n97 32 (opr x) :: [(D, .deferred (some []))])) (H.sub (by repeat (first | exact sb_refl | exact sb_nil | refine sb_cons (by repeat (first | exact pick_head | apply pick_tail | apply pick_app)) ?_ | refine sb_app (by repeat (first | exact cut_head | exact cut_all | apply cut_tail | apply cut_app)) ?_ | exact sb_one (by repeat (first | exact cut_head | exact cut_all | apply cut_tail | apply cut_app))))) hT2 hI hok.1 hok.2.1 (fun u H => hxv.fr0 H.base) rfl hok.2.2.1) ?_
      rintro _ u ⟨c4, rfl, hT4, H⟩
      refine ⟨_, rfl, s_asI (s_chk c_nil (s_false (by simp) (s_next (by first | exact ⟨rfl, rfl⟩ | trivial) ?_)))⟩
      simp (config := { decide := true }) only [if_true, if_false]
      exact ⟨⟨k + 1, _, c3, c4, by rw [w_succ (by omega)], by omega, hI.put x.s x.q hok.2.2.1, hT3, hT4, H.sub (by repeat (first | exact sb_refl | exact sb_nil | refine sb_cons (by repeat (first | exact pick_head | apply pick_tail | apply pick_app)) ?_ | refine sb_app (by repeat (first | exact cut_head | exact cut_all | apply cut_tail | apply cut_app)) ?_ | exact sb_one (by repeat (first | exact cut_head | exact cut_all | apply cut_tail | apply cut_app))))⟩, by rw [w_succ (by omega)]; simp [intOf] <;> omega⟩
    · refine s_call2 (len_c H hT hI) ?_
      rintro _ u ⟨rfl, H⟩
      refine ⟨_, rfl, s_asI (s_call2 (len_c (c := d) (m := c ++ [(D, .deferred (some []))]) (H.sub (by repeat (first | exact sb_refl | exact sb_nil | refine sb_cons (by repeat (first | exact pick_head | apply pick_tail | apply pick_app)) ?_ | refine sb_app (by repeat (first | exact cut_head | exact cut_all | apply cut_tail | apply cut_app)) ?_ | exact sb_one (by repeat (first | exact cut_head | exact cut_all | apply cut_tail | apply cut_app))))) hT2 hI) ?_)⟩
      rintro _ u ⟨rfl, H⟩
      exact ⟨_, rfl, s_asI (h_col H (by repeat (first | exact pick_head | apply pick_tail | apply pick_app)) fun u H => s_ret ⟨by simp, H.base⟩)⟩
end
end Go.Proofs.Ytcmdbaafnbdpbaa
