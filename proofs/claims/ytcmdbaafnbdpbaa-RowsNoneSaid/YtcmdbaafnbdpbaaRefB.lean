/- The reference's table: asked, put, the last one; two rows held against each other; tables of rows. -/
import Derived.Test.YtcmdbaafnbdpbaaRef
set_option linter.unusedVariables false
set_option linter.unusedSimpArgs false
set_option maxRecDepth 100000
set_option maxHeartbeats 2000000
namespace Go.Proofs.Ytcmdbaafnbdpbaa
open Go hiding Expr
open Go.RowKit Tr

theorem kind_bad {R : List Rw} {s q : Int} (h : (outI s || outI q) = true) : kindI R s q = 6 ∧ ansR R s q = zeroR := by
  have h1 : kindI R s q = 6 := by unfold kindI; rw [if_pos h]
  exact ⟨h1, by unfold ansR; rw [if_neg (by omega)]⟩
theorem kind_has {R : List Rw} {s q : Int} {r : Rw} (h1 : outI s = false) (h2 : outI q = false) (hr : lookR R s = some r) : kindI R s q = if q = r.m + 1 then 1 else if q > r.m + 1 then 4 else if q = r.m then 2 else 3 := by
  unfold kindI
  rw [h1, h2, if_neg (by simp), hr]
theorem kind_not {R : List Rw} {s q : Int} (h1 : outI s = false) (h2 : outI q = false) (hr : lookR R s = none) : kindI R s q = if q = 1 then (if R.length = 64 then 5 else 1) else 4 := by
  unfold kindI
  rw [h1, h2, if_neg (by simp), hr]
theorem ans_not {R : List Rw} {s q : Int} (h : kindI R s q ≠ 2) : ansR R s q = zeroR := by unfold ansR; rw [if_neg h]

section
variable {w w' w0 : World} {m c cr : Hp} {p : Nat} {R : List Rw} {s q : Int} {o : Option Addr} {X : List AR} {n cap : Nat}
theorem rask_c (H : Has w0 w (c ++ m)) (hT : RTab p R c) (hI : InvR R) : Calls Try.prog 21 #[.pointer (some ⟨p, 0, none⟩), .int .i64 s, .int .i64 q] w fun en w' =>
      ∃ o' cap', en = .returned (.tuple #[.agg ⟨resL (ansR R s q).e o' (ansR R s q).vals.length cap' (ansR R s q).slot (ansR R s q).place⟩, .int .i64 (kindI R s q)]) ∧
        (∀ u, Has w0 u (c ++ m) → ValsAt u o' (ansR R s q).vals) ∧ Has w0 w' (c ++ m) := by
  have hRl := hI.len
  apply c21
  refine h_new H fun n4 u H => ?_
  refine h_blk (fun _ => outI s = false ∧ outI q = false) H ?_ ?_
  · refine s_call (may_c s) ?_
    rintro _ _ ⟨rfl, rfl⟩
    refine ⟨_, rfl, s_asB (s_ite (fun g => ?_) (fun g => ?_))⟩
    · have g : outI s = true := by simpa using g
      obtain ⟨hk, hz⟩ := kind_bad (R := R) (s := s) (q := q) (by rw [g]; rfl)
      rw [hk]
      (repeat (first | refine s_asI ?_ | refine s_asS ?_ | refine s_asP ?_ | refine s_asB ?_ | refine s_asA ?_ | refine s_asT ?_ | refine s_asM ?_ | refine s_asU ?_ | refine s_asC ?_ | refine s_sm ?_ | refine s_req (by first | rfl | exact ⟨rfl, rfl⟩) ?_ | refine h_ldI H (by repeat (first | exact pick_head | apply pick_tail | apply pick_app)) (by first | rfl | (simp; done)) ?_ | refine h_ldB H (by repeat (first | exact pick_head | apply pick_tail | apply pick_app)) (by first | rfl | (simp; done)) ?_ | refine h_ldP H (by repeat (first | exact pick_head | apply pick_tail | apply pick_app)) (by first | rfl | (simp; done)) ?_ | refine h_ldS H (by repeat (first | exact pick_head | apply pick_tail | apply pick_app)) (by first | rfl | (simp; done)) ?_ | refine h_ldM H (by repeat (first | exact pick_head | apply pick_tail | apply pick_app)) (by first | rfl | (simp; done)) ?_ | refine h_ldT H (by repeat (first | exact pick_head | apply pick_tail | apply pick_app)) (by first | rfl | (simp; done)) ?_ | refine h_ldV H (by repeat (first | exact pick_head | apply pick_tail | apply pick_app)) (by first | rfl | (simp; done)) ?_ | (refine h_new H fun _ u H => ?_) | (refine h_st H (by repeat (first | exact pick_head | apply pick_tail | apply pick_app)) (by first | (simp; done) | exact Nat.le_of_ble_eq_true rfl) rfl fun u H => ?_) | (refine h_drew H fun u H => ?_) | refine s_chk c_nil ?_))
      rw [hz]
      refine s_ret ⟨none, 0, rfl, fun _ _ => valsAt_nil, H.sub (by repeat (first | exact sb_refl | exact sb_nil | refine sb_cons (by repeat (first | exact pick_head | apply pick_tail | apply pick_app)) ?_ | refine sb_app (by repeat (first | exact cut_head | exact cut_all | apply cut_tail | apply cut_app)) ?_ | exact sb_one (by repeat (first | exact cut_head | exact cut_all | apply cut_tail | apply cut_app))))⟩
    refine s_call (may_c q) ?_
    rintro _ _ ⟨rfl, rfl⟩
    refine ⟨_, rfl, s_asB (s_ite (fun g' => ?_) (fun g' => s_next (by simp) ?_))⟩
    · have g' : outI q = true := by simpa using g'
      obtain ⟨hk, hz⟩ := kind_bad (R := R) (s := s) (q := q) (by rw [g']; simp)
      rw [hk]
      (repeat (first | refine s_asI ?_ | refine s_asS ?_ | refine s_asP ?_ | refine s_asB ?_ | refine s_asA ?_ | refine s_asT ?_ | refine s_asM ?_ | refine s_asU ?_ | refine s_asC ?_ | refine s_sm ?_ | refine s_req (by first | rfl | exact ⟨rfl, rfl⟩) ?_ | refine h_ldI H (by repeat (first | exact pick_head | apply pick_tail | apply pick_app)) (by first | rfl | (simp; done)) ?_ | refine h_ldB H (by repeat (first | exact pick_head | apply pick_tail | apply pick_app)) (by first | rfl | (simp; done)) ?_ | refine h_ldP H (by repeat (first | exact pick_head | apply pick_tail | apply pick_app)) (by first | rfl | (simp; done)) ?_ | refine h_ldS H (by repeat (first | exact pick_head | apply pick_tail | apply pick_app)) (by first | rfl | (simp; done)) ?_ | refine h_ldM H (by repeat (first | exact pick_head | apply pick_tail | apply pick_app)) (by first | rfl | (simp; done)) ?_ | refine h_ldT H (by repeat (first | exact pick_head | apply pick_tail | apply pick_app)) (by first | rfl | (simp; done)) ?_ | refine h_ldV H (by repeat (first | exact pick_head | apply pick_tail | apply pick_app)) (by first | rfl | (simp; done)) ?_ | (refine h_new H fun _ u H => ?_) | (refine h_st H (by repeat (first | exact pick_head | apply pick_tail | apply pick_app)) (by first | (simp; done) | exact Nat.le_of_ble_eq_true rfl) rfl fun u H => ?_) | (refine h_drew H fun u H => ?_) | refine s_chk c_nil ?_))
      rw [hz]
      refine s_ret ⟨none, 0, rfl, fun _ _ => valsAt_nil, H.sub (by repeat (first | exact sb_refl | exact sb_nil | refine sb_cons (by repeat (first | exact pick_head | apply pick_tail | apply pick_app)) ?_ | refine sb_app (by repeat (first | exact cut_head | exact cut_all | apply cut_tail | apply cut_app)) ?_ | exact sb_one (by repeat (first | exact cut_head | exact cut_all | apply cut_tail | apply cut_app))))⟩
    · simp only [if_true]
      exact ⟨H, by simpa using g, by simpa using g'⟩
  rintro _ _ W H ⟨hs, hq⟩
  have hqo := outI_false hq
  refine s_call (find_c (s := s) (m := cl n4 30 (resL 0 none 0 0 0 0) :: m) (H.sub (by repeat (first | exact sb_refl | exact sb_nil | refine sb_cons (by repeat (first | exact pick_head | apply pick_tail | apply pick_app)) ?_ | refine sb_app (by repeat (first | exact cut_head | exact cut_all | apply cut_tail | apply cut_app)) ?_ | exact sb_one (by repeat (first | exact cut_head | exact cut_all | apply cut_tail | apply cut_app))))) hT (by omega)) ?_
  rintro _ u ⟨rfl, H⟩
  refine ⟨_, rfl, s_asU (s_req rfl (s_asI (s_asB (s_ite (fun g => ?_) (fun g => ?_)))))⟩
  · obtain ⟨r, hr⟩ := hasR_look g
    have hkk := kind_has hs hq hr
    obtain ⟨hg, hrs, _⟩ := lookR_some hr
    have hrok := hI.ok r (List.mem_of_getElem? hg)
    have hT0 := hT
    obtain ⟨v, X, cr, cs, rfl, hX, ho, hV⟩ := hT
    have hXl : X.length = R.length := by rw [← hX, List.length_map]
    have hlt := (List.getElem?_eq_some_iff.1 hg).1
    obtain ⟨x, hx⟩ : ∃ x, X[posR R s]? = some x := ⟨_, List.getElem?_eq_getElem (by omega)⟩
    have hxr : x.row = r := by have := row_at hX hx; rw [hg] at this; cases this; rfl
    have hxm : x.m = r.m := by rw [← hxr]; rfl
    obtain ⟨ox, capx, rfl⟩ := ho.slice
    have H : Has w0 u (cl n4 30 (resL 0 none 0 0 0 0) :: cl p 50 [.slice ox R.length capx] :: (cr ++ (cs.flatten ++ m))) := by
      have := rassoc_to H
      exact this.sub (by repeat (first | exact sb_refl | exact sb_nil | refine sb_cons (by repeat (first | exact pick_head | apply pick_tail | apply pick_app)) ?_ | refine sb_app (by repeat (first | exact cut_head | exact cut_all | apply cut_tail | apply cut_app)) ?_ | exact sb_one (by repeat (first | exact cut_head | exact cut_all | apply cut_tail | apply cut_app))))
    have hout : ∀ {u : World}, Has w0 u (cl p 50 [.slice ox R.length capx] :: (cr ++ (cs.flatten ++ m))) → Has w0 u ((cl p 50 [.slice ox R.length capx] :: (cr ++ cs.flatten)) ++ m) := fun h => rassoc_from h
    refine h_ldS H (by repeat (first | exact pick_head | apply pick_tail | apply pick_app)) rfl ?_
    obtain ⟨gg, off, rfl, p0, p1, p2, p3, p4, p5⟩ := (rowsAt'_own ho H (by repeat (first | exact cut_head | exact cut_all | apply cut_tail | apply cut_app))).get hx
    refine s_req ⟨by omega, by omega⟩ (s_sm (s_loadI p0 (s_loadI p1 (s_loadI p2 (s_loadS p3 (s_loadI p4 (s_loadI p5 ?_)))))))
    (refine h_new H fun n24 u H => ?_)
    iterate 6 refine h_st H (by repeat (first | exact pick_head | apply pick_tail | apply pick_app)) (by first | (simp; done) | exact Nat.le_of_ble_eq_true rfl) rfl fun u H => ?_
    refine h_ldI H (by repeat (first | exact pick_head | apply pick_tail | apply pick_app)) rfl (s_ite (fun g1 => ?_) (fun g1 => h_ldI H (by repeat (first | exact pick_head | apply pick_tail | apply pick_app)) rfl (s_ite (fun g2 => ?_) (fun g2 => h_ldI H (by repeat (first | exact pick_head | apply pick_tail | apply pick_app)) rfl ?_))))
    · have g1 : q = x.m := by simpa using g1
      have hk : kindI R s q = 2 := by rw [hkk, if_neg (by omega), if_neg (by omega), if_pos (by omega)]
      have ha : ansR R s q = x.row.r := by unfold ansR; rw [if_pos hk, hr, hxr]; rfl
      rw [hk, ha]
      (repeat (first | refine s_asI ?_ | refine s_asS ?_ | refine s_asP ?_ | refine s_asB ?_ | refine s_asA ?_ | refine s_asT ?_ | refine s_asM ?_ | refine s_asU ?_ | refine s_asC ?_ | refine s_sm ?_ | refine s_req (by first | rfl | exact ⟨rfl, rfl⟩) ?_ | refine h_ldI H (by repeat (first | exact pick_head | apply pick_tail | apply pick_app)) (by first | rfl | (simp; done)) ?_ | refine h_ldB H (by repeat (first | exact pick_head | apply pick_tail | apply pick_app)) (by first | rfl | (simp; done)) ?_ | refine h_ldP H (by repeat (first | exact pick_head | apply pick_tail | apply pick_app)) (by first | rfl | (simp; done)) ?_ | refine h_ldS H (by repeat (first | exact pick_head | apply pick_tail | apply pick_app)) (by first | rfl | (simp; done)) ?_ | refine h_ldM H (by repeat (first | exact pick_head | apply pick_tail | apply pick_app)) (by first | rfl | (simp; done)) ?_ | refine h_ldT H (by repeat (first | exact pick_head | apply pick_tail | apply pick_app)) (by first | rfl | (simp; done)) ?_ | refine h_ldV H (by repeat (first | exact pick_head | apply pick_tail | apply pick_app)) (by first | rfl | (simp; done)) ?_ | (refine h_new H fun _ u H => ?_) | (refine h_st H (by repeat (first | exact pick_head | apply pick_tail | apply pick_app)) (by first | (simp; done) | exact Nat.le_of_ble_eq_true rfl) rfl fun u H => ?_) | (refine h_drew H fun u H => ?_) | refine s_chk c_nil ?_))
      have hci : posR R s < cs.length := by rw [hV.1]; omega
      have hown := hV.2 _ x cs[posR R s] hx (List.getElem?_eq_getElem hci)
      refine s_ret ⟨x.o, x.cap, rfl, fun u hu => ?_, hout (H.sub (by repeat (first | exact sb_refl | exact sb_nil | refine sb_cons (by repeat (first | exact pick_head | apply pick_tail | apply pick_app)) ?_ | refine sb_app (by repeat (first | exact cut_head | exact cut_all | apply cut_tail | apply cut_app)) ?_ | exact sb_one (by repeat (first | exact cut_head | exact cut_all | apply cut_tail | apply cut_app)))))⟩
      exact valsAt_own hown (rassoc_to hu) (cut_tail (cut_app (cut_app' (cut_flat (List.getElem?_eq_getElem hci)))))
    · have g1 : ¬ q = x.m := by simpa using g1
      have g2 : q < x.m := by simpa using g2
      have hk : kindI R s q = 3 := by rw [hkk, if_neg (by omega), if_neg (by omega), if_neg (by omega)]
      have hz : ansR R s q = zeroR := ans_not (by omega)
      rw [hk, hz]
      (repeat (first | refine s_asI ?_ | refine s_asS ?_ | refine s_asP ?_ | refine s_asB ?_ | refine s_asA ?_ | refine s_asT ?_ | refine s_asM ?_ | refine s_asU ?_ | refine s_asC ?_ | refine s_sm ?_ | refine s_req (by first | rfl | exact ⟨rfl, rfl⟩) ?_ | refine h_ldI H (by repeat (first | exact pick_head | apply pick_tail | apply pick_app)) (by first | rfl | (simp; done)) ?_ | refine h_ldB H (by repeat (first | exact pick_head | apply pick_tail | apply pick_app)) (by first | rfl | (simp; done)) ?_ | refine h_ldP H (by repeat (first | exact pick_head | apply pick_tail | apply pick_app)) (by first | rfl | (simp; done)) ?_ | refine h_ldS H (by repeat (first | exact pick_head | apply pick_tail | apply pick_app)) (by first | rfl | (simp; done)) ?_ | refine h_ldM H (by repeat (first | exact pick_head | apply pick_tail | apply pick_app)) (by first | rfl | (simp; done)) ?_ | refine h_ldT H (by repeat (first | exact pick_head | apply pick_tail | apply pick_app)) (by first | rfl | (simp; done)) ?_ | refine h_ldV H (by repeat (first | exact pick_head | apply pick_tail | apply pick_app)) (by first | rfl | (simp; done)) ?_ | (refine h_new H fun _ u H => ?_) | (refine h_st H (by repeat (first | exact pick_head | apply pick_tail | apply pick_app)) (by first | (simp; done) | exact Nat.le_of_ble_eq_true rfl) rfl fun u H => ?_) | (refine h_drew H fun u H => ?_) | refine s_chk c_nil ?_))
      exact s_ret ⟨none, 0, rfl, fun _ _ => valsAt_nil, hout (H.sub (by repeat (first | exact sb_refl | exact sb_nil | refine sb_cons (by repeat (first | exact pick_head | apply pick_tail | apply pick_app)) ?_ | refine sb_app (by repeat (first | exact cut_head | exact cut_all | apply cut_tail | apply cut_app)) ?_ | exact sb_one (by repeat (first | exact cut_head | exact cut_all | apply cut_tail | apply cut_app)))))⟩
    · have g1 : ¬ q = x.m := by simpa using g1
      have g2 : ¬ q < x.m := by simpa using g2
      have h1 : x.m ≤ 1099511627776 := by rw [hxm]; exact hrok.2.2.2.1
      have h2 : 1 ≤ x.m := by rw [hxm]; exact hrok.2.2.1
      rw [wrapI (n := x.m + 1) (by omega) (by omega)]
      refine s_ite (fun g3 => ?_) (fun g3 => ?_)
      · have g3 : q = x.m + 1 := by simpa using g3
        have hk : kindI R s q = 1 := by rw [hkk, if_pos (by omega)]
        have hz : ansR R s q = zeroR := ans_not (by omega)
        rw [hk, hz]
        (repeat (first | refine s_asI ?_ | refine s_asS ?_ | refine s_asP ?_ | refine s_asB ?_ | refine s_asA ?_ | refine s_asT ?_ | refine s_asM ?_ | refine s_asU ?_ | refine s_asC ?_ | refine s_sm ?_ | refine s_req (by first | rfl | exact ⟨rfl, rfl⟩) ?_ | refine h_ldI H (by repeat (first | exact pick_head | apply pick_tail | apply pick_app)) (by first | rfl | (simp; done)) ?_ | refine h_ldB H (by repeat (first | exact pick_head | apply pick_tail | apply pick_app)) (by first | rfl | (simp; done)) ?_ | refine h_ldP H (by repeat (first | exact pick_head | apply pick_tail | apply pick_app)) (by first | rfl | (simp; done)) ?_ | refine h_ldS H (by repeat (first | exact pick_head | apply pick_tail | apply pick_app)) (by first | rfl | (simp; done)) ?_ | refine h_ldM H (by repeat (first | exact pick_head | apply pick_tail | apply pick_app)) (by first | rfl | (simp; done)) ?_ | refine h_ldT H (by repeat (first | exact pick_head | apply pick_tail | apply pick_app)) (by first | rfl | (simp; done)) ?_ | refine h_ldV H (by repeat (first | exact pick_head | apply pick_tail | apply pick_app)) (by first | rfl | (simp; done)) ?_ | (refine h_new H fun _ u H => ?_) | (refine h_st H (by repeat (first | exact pick_head | apply pick_tail | apply pick_app)) (by first | (simp; done) | exact Nat.le_of_ble_eq_true rfl) rfl fun u H => ?_) | (refine h_drew H fun u H => ?_) | refine s_chk c_nil ?_))
        exact s_ret ⟨none, 0, rfl, fun _ _ => valsAt_nil, hout (H.sub (by repeat (first | exact sb_refl | exact sb_nil | refine sb_cons (by repeat (first | exact pick_head | apply pick_tail | apply pick_app)) ?_ | refine sb_app (by repeat (first | exact cut_head | exact cut_all | apply cut_tail | apply cut_app)) ?_ | exact sb_one (by repeat (first | exact cut_head | exact cut_all | apply cut_tail | apply cut_app)))))⟩
      · have g3 : ¬ q = x.m + 1 := by simpa using g3
        have hk : kindI R s q = 4 := by rw [hkk, if_neg (by omega), if_pos (by omega)]
        have hz : ansR R s q = zeroR := ans_not (by omega)
        rw [hk, hz]
        (repeat (first | refine s_asI ?_ | refine s_asS ?_ | refine s_asP ?_ | refine s_asB ?_ | refine s_asA ?_ | refine s_asT ?_ | refine s_asM ?_ | refine s_asU ?_ | refine s_asC ?_ | refine s_sm ?_ | refine s_req (by first | rfl | exact ⟨rfl, rfl⟩) ?_ | refine h_ldI H (by repeat (first | exact pick_head | apply pick_tail | apply pick_app)) (by first | rfl | (simp; done)) ?_ | refine h_ldB H (by repeat (first | exact pick_head | apply pick_tail | apply pick_app)) (by first | rfl | (simp; done)) ?_ | refine h_ldP H (by repeat (first | exact pick_head | apply pick_tail | apply pick_app)) (by first | rfl | (simp; done)) ?_ | refine h_ldS H (by repeat (first | exact pick_head | apply pick_tail | apply pick_app)) (by first | rfl | (simp; done)) ?_ | refine h_ldM H (by repeat (first | exact pick_head | apply pick_tail | apply pick_app)) (by first | rfl | (simp; done)) ?_ | refine h_ldT H (by repeat (first | exact pick_head | apply pick_tail | apply pick_app)) (by first | rfl | (simp; done)) ?_ | refine h_ldV H (by repeat (first | exact pick_head | apply pick_tail | apply pick_app)) (by first | rfl | (simp; done)) ?_ | (refine h_new H fun _ u H => ?_) | (refine h_st H (by repeat (first | exact pick_head | apply pick_tail | apply pick_app)) (by first | (simp; done) | exact Nat.le_of_ble_eq_true rfl) rfl fun u H => ?_) | (refine h_drew H fun u H => ?_) | refine s_chk c_nil ?_))
        exact s_ret ⟨none, 0, rfl, fun _ _ => valsAt_nil, hout (H.sub (by repeat (first | exact sb_refl | exact sb_nil | refine sb_cons (by repeat (first | exact pick_head | apply pick_tail | apply pick_app)) ?_ | refine sb_app (by repeat (first | exact cut_head | exact cut_all | apply cut_tail | apply cut_app)) ?_ | exact sb_one (by repeat (first | exact cut_head | exact cut_all | apply cut_tail | apply cut_app)))))⟩
  · have hn := lookR_none.2 g
    have hkk := kind_not hs hq hn
    have H : Has w0 u (cl n4 30 (resL 0 none 0 0 0 0) :: (c ++ m)) := H.sub (by repeat (first | exact sb_refl | exact sb_nil | refine sb_cons (by repeat (first | exact pick_head | apply pick_tail | apply pick_app)) ?_ | refine sb_app (by repeat (first | exact cut_head | exact cut_all | apply cut_tail | apply cut_app)) ?_ | exact sb_one (by repeat (first | exact cut_head | exact cut_all | apply cut_tail | apply cut_app))))
    refine s_ite (fun g1 => ?_) (fun g1 => ?_)
    · have g1 : ¬ q = 1 := by simpa using g1
      have hk : kindI R s q = 4 := by rw [hkk, if_neg g1]
      have hz : ansR R s q = zeroR := ans_not (by omega)
      rw [hk]
      (repeat (first | refine s_asI ?_ | refine s_asS ?_ | refine s_asP ?_ | refine s_asB ?_ | refine s_asA ?_ | refine s_asT ?_ | refine s_asM ?_ | refine s_asU ?_ | refine s_asC ?_ | refine s_sm ?_ | refine s_req (by first | rfl | exact ⟨rfl, rfl⟩) ?_ | refine h_ldI H (by repeat (first | exact pick_head | apply pick_tail | apply pick_app)) (by first | rfl | (simp; done)) ?_ | refine h_ldB H (by repeat (first | exact pick_head | apply pick_tail | apply pick_app)) (by first | rfl | (simp; done)) ?_ | refine h_ldP H (by repeat (first | exact pick_head | apply pick_tail | apply pick_app)) (by first | rfl | (simp; done)) ?_ | refine h_ldS H (by repeat (first | exact pick_head | apply pick_tail | apply pick_app)) (by first | rfl | (simp; done)) ?_ | refine h_ldM H (by repeat (first | exact pick_head | apply pick_tail | apply pick_app)) (by first | rfl | (simp; done)) ?_ | refine h_ldT H (by repeat (first | exact pick_head | apply pick_tail | apply pick_app)) (by first | rfl | (simp; done)) ?_ | refine h_ldV H (by repeat (first | exact pick_head | apply pick_tail | apply pick_app)) (by first | rfl | (simp; done)) ?_ | (refine h_new H fun _ u H => ?_) | (refine h_st H (by repeat (first | exact pick_head | apply pick_tail | apply pick_app)) (by first | (simp; done) | exact Nat.le_of_ble_eq_true rfl) rfl fun u H => ?_) | (refine h_drew H fun u H => ?_) | refine s_chk c_nil ?_))
      rw [hz]
      refine s_ret ⟨none, 0, rfl, fun _ _ => valsAt_nil, H.sub (by repeat (first | exact sb_refl | exact sb_nil | refine sb_cons (by repeat (first | exact pick_head | apply pick_tail | apply pick_app)) ?_ | refine sb_app (by repeat (first | exact cut_head | exact cut_all | apply cut_tail | apply cut_app)) ?_ | exact sb_one (by repeat (first | exact cut_head | exact cut_all | apply cut_tail | apply cut_app))))⟩
    · have g1 : q = 1 := by simpa using g1
      obtain ⟨v, X, cr, cs, rfl, hX, ho, hV⟩ := hT
      obtain ⟨ox, capx, rfl⟩ := ho.slice
      refine h_ldS H (by repeat (first | exact pick_head | apply pick_tail | apply pick_app)) rfl (s_ite (fun g2 => ?_) (fun g2 => ?_))
      · have g2 : (64 : Int) ≤ (R.length : Int) := by simpa using g2
        have hk : kindI R s q = 5 := by rw [hkk, if_pos g1, if_pos (by omega)]
        have hz : ansR R s q = zeroR := ans_not (by omega)
        rw [hk]
        (repeat (first | refine s_asI ?_ | refine s_asS ?_ | refine s_asP ?_ | refine s_asB ?_ | refine s_asA ?_ | refine s_asT ?_ | refine s_asM ?_ | refine s_asU ?_ | refine s_asC ?_ | refine s_sm ?_ | refine s_req (by first | rfl | exact ⟨rfl, rfl⟩) ?_ | refine h_ldI H (by repeat (first | exact pick_head | apply pick_tail | apply pick_app)) (by first | rfl | (simp; done)) ?_ | refine h_ldB H (by repeat (first | exact pick_head | apply pick_tail | apply pick_app)) (by first | rfl | (simp; done)) ?_ | refine h_ldP H (by repeat (first | exact pick_head | apply pick_tail | apply pick_app)) (by first | rfl | (simp; done)) ?_ | refine h_ldS H (by repeat (first | exact pick_head | apply pick_tail | apply pick_app)) (by first | rfl | (simp; done)) ?_ | refine h_ldM H (by repeat (first | exact pick_head | apply pick_tail | apply pick_app)) (by first | rfl | (simp; done)) ?_ | refine h_ldT H (by repeat (first | exact pick_head | apply pick_tail | apply pick_app)) (by first | rfl | (simp; done)) ?_ | refine h_ldV H (by repeat (first | exact pick_head | apply pick_tail | apply pick_app)) (by first | rfl | (simp; done)) ?_ | (refine h_new H fun _ u H => ?_) | (refine h_st H (by repeat (first | exact pick_head | apply pick_tail | apply pick_app)) (by first | (simp; done) | exact Nat.le_of_ble_eq_true rfl) rfl fun u H => ?_) | (refine h_drew H fun u H => ?_) | refine s_chk c_nil ?_))
        rw [hz]
        refine s_ret ⟨none, 0, rfl, fun _ _ => valsAt_nil, H.sub (by repeat (first | exact sb_refl | exact sb_nil | refine sb_cons (by repeat (first | exact pick_head | apply pick_tail | apply pick_app)) ?_ | refine sb_app (by repeat (first | exact cut_head | exact cut_all | apply cut_tail | apply cut_app)) ?_ | exact sb_one (by repeat (first | exact cut_head | exact cut_all | apply cut_tail | apply cut_app))))⟩
      · have g2 : ¬ (64 : Int) ≤ (R.length : Int) := by simpa using g2
        have hk : kindI R s q = 1 := by rw [hkk, if_pos g1, if_neg (by omega)]
        have hz : ansR R s q = zeroR := ans_not (by omega)
        rw [hk]
        (repeat (first | refine s_asI ?_ | refine s_asS ?_ | refine s_asP ?_ | refine s_asB ?_ | refine s_asA ?_ | refine s_asT ?_ | refine s_asM ?_ | refine s_asU ?_ | refine s_asC ?_ | refine s_sm ?_ | refine s_req (by first | rfl | exact ⟨rfl, rfl⟩) ?_ | refine h_ldI H (by repeat (first | exact pick_head | apply pick_tail | apply pick_app)) (by first | rfl | (simp; done)) ?_ | refine h_ldB H (by repeat (first | exact pick_head | apply pick_tail | apply pick_app)) (by first | rfl | (simp; done)) ?_ | refine h_ldP H (by repeat (first | exact pick_head | apply pick_tail | apply pick_app)) (by first | rfl | (simp; done)) ?_ | refine h_ldS H (by repeat (first | exact pick_head | apply pick_tail | apply pick_app)) (by first | rfl | (simp; done)) ?_ | refine h_ldM H (by repeat (first | exact pick_head | apply pick_tail | apply pick_app)) (by first | rfl | (simp; done)) ?_ | refine h_ldT H (by repeat (first | exact pick_head | apply pick_tail | apply pick_app)) (by first | rfl | (simp; done)) ?_ | refine h_ldV H (by repeat (first | exact pick_head | apply pick_tail | apply pick_app)) (by first | rfl | (simp; done)) ?_ | (refine h_new H fun _ u H => ?_) | (refine h_st H (by repeat (first | exact pick_head | apply pick_tail | apply pick_app)) (by first | (simp; done) | exact Nat.le_of_ble_eq_true rfl) rfl fun u H => ?_) | (refine h_drew H fun u H => ?_) | refine s_chk c_nil ?_))
        rw [hz]
        refine s_ret ⟨none, 0, rfl, fun _ _ => valsAt_nil, H.sub (by repeat (first | exact sb_refl | exact sb_nil | refine sb_cons (by repeat (first | exact pick_head | apply pick_tail | apply pick_app)) ?_ | refine sb_app (by repeat (first | exact cut_head | exact cut_all | apply cut_tail | apply cut_app)) ?_ | exact sb_one (by repeat (first | exact cut_head | exact cut_all | apply cut_tail | apply cut_app))))⟩

theorem rput_c {e slot place : Int} {vals : List Int} (H : Has w0 w (c ++ m)) (hT : RTab p R c) (hI : InvR R) (hv : ∀ u, Has w0 u m → ValsAt u o vals) (hn : n = vals.length)
    (hsz : vals.length * 8 ≤ 140737488355328) : Calls Try.prog 22 #[.pointer (some ⟨p, 0, none⟩), .int .i64 s, .int .i64 q, .agg ⟨resL e o n cap slot place⟩] w fun en w' =>
      ∃ c', en = .returned (.int .i64 (errI (kindI R s q))) ∧ RTab p (putR R s q ⟨e, vals, slot, place⟩) c' ∧ Has w0 w' (c' ++ m) := by
  apply c22
  refine h_new H fun n10 u H => ?_
  refine s_call (rask_c (s := s) (q := q) (m := cl n10 30 (resL e o n cap slot place) :: m) (H.sub (by repeat (first | exact sb_refl | exact sb_nil | refine sb_cons (by repeat (first | exact pick_head | apply pick_tail | apply pick_app)) ?_ | refine sb_app (by repeat (first | exact cut_head | exact cut_all | apply cut_tail | apply cut_app)) ?_ | exact sb_one (by repeat (first | exact cut_head | exact cut_all | apply cut_tail | apply cut_app))))) hT hI) ?_
  rintro _ u ⟨o', cap', rfl, hva, H⟩
  refine ⟨_, rfl, s_asU (s_req rfl (s_asA (s_req rfl (s_asI (s_asS (s_asI (s_asI (s_asI ?_))))))))⟩
  (refine h_new H fun n21 u H => ?_)
  iterate 4 refine h_st H (by repeat (first | exact pick_head | apply pick_tail | apply pick_app)) (by first | (simp; done) | exact Nat.le_of_ble_eq_true rfl) rfl fun u H => ?_
  have H : Has w0 u (c ++ (cl n10 30 (resL e o n cap slot place) :: m)) := H.sub (by repeat (first | exact sb_refl | exact sb_nil | refine sb_cons (by repeat (first | exact pick_head | apply pick_tail | apply pick_app)) ?_ | refine sb_app (by repeat (first | exact cut_head | exact cut_all | apply cut_tail | apply cut_app)) ?_ | exact sb_one (by repeat (first | exact cut_head | exact cut_all | apply cut_tail | apply cut_app))))
  refine s_ite (fun g => ?_) (fun g => ?_)
  · have hk : kindI R s q = 1 := by simpa using g
    refine h_ldI H (by repeat (first | exact pick_head | apply pick_tail | apply pick_app)) rfl (h_ldS H (by repeat (first | exact pick_head | apply pick_tail | apply pick_app)) rfl (h_ldI H (by repeat (first | exact pick_head | apply pick_tail | apply pick_app)) rfl (h_ldI H (by repeat (first | exact pick_head | apply pick_tail | apply pick_app)) rfl ?_)))
    refine s_call (rset_c (s := s) (q := q) (e := e) (slot := slot) (place := place) (m := cl n10 30 (resL e o n cap slot place) :: m) H hT hI (fun u H => hv u H.drop) hn hsz) ?_
    rintro _ u ⟨c', v, rfl, hT', H⟩
    refine ⟨_, rfl, s_ret ⟨c', by rw [hk]; rfl, ?_, H.sub (by repeat (first | exact sb_refl | exact sb_nil | refine sb_cons (by repeat (first | exact pick_head | apply pick_tail | apply pick_app)) ?_ | refine sb_app (by repeat (first | exact cut_head | exact cut_all | apply cut_tail | apply cut_app)) ?_ | exact sb_one (by repeat (first | exact cut_head | exact cut_all | apply cut_tail | apply cut_app))))⟩⟩
    unfold putR
    rw [if_pos hk]
    exact hT'
  · have hk : ¬ kindI R s q = 1 := by simpa using g
    have hp : putR R s q ⟨e, vals, slot, place⟩ = R := by unfold putR; rw [if_neg hk]
    rw [hp]
    refine s_ite (fun g1 => ?_) (fun g1 => s_ite (fun g2 => ?_) (fun g2 => ?_))
    · have g1 : kindI R s q = 2 := by simpa using g1
      exact s_ret ⟨c, by rw [g1]; rfl, hT, H.sub (by repeat (first | exact sb_refl | exact sb_nil | refine sb_cons (by repeat (first | exact pick_head | apply pick_tail | apply pick_app)) ?_ | refine sb_app (by repeat (first | exact cut_head | exact cut_all | apply cut_tail | apply cut_app)) ?_ | exact sb_one (by repeat (first | exact cut_head | exact cut_all | apply cut_tail | apply cut_app))))⟩
    · have g2 : kindI R s q = 5 := by simpa using g2
      exact s_ret ⟨c, by rw [g2]; rfl, hT, H.sub (by repeat (first | exact sb_refl | exact sb_nil | refine sb_cons (by repeat (first | exact pick_head | apply pick_tail | apply pick_app)) ?_ | refine sb_app (by repeat (first | exact cut_head | exact cut_all | apply cut_tail | apply cut_app)) ?_ | exact sb_one (by repeat (first | exact cut_head | exact cut_all | apply cut_tail | apply cut_app))))⟩
    · have g1 : ¬ kindI R s q = 2 := by simpa using g1
      have g2 : ¬ kindI R s q = 5 := by simpa using g2
      refine s_ret ⟨c, ?_, hT, H.sub (by repeat (first | exact sb_refl | exact sb_nil | refine sb_cons (by repeat (first | exact pick_head | apply pick_tail | apply pick_app)) ?_ | refine sb_app (by repeat (first | exact cut_head | exact cut_all | apply cut_tail | apply cut_app)) ?_ | exact sb_one (by repeat (first | exact cut_head | exact cut_all | apply cut_tail | apply cut_app))))⟩
      unfold errI
      rw [if_neg hk, if_neg g1, if_neg g2]

theorem rlast_c (H : Has w0 w (c ++ m)) (hT : RTab p R c) (hl : R.length < 9223372036854775807) : Calls Try.prog 24 #[.pointer (some ⟨p, 0, none⟩), .int .i64 s] w fun e w' => e = .returned (.int .i64 (lastR R s)) ∧ Has w0 w' (c ++ m) := by
  apply c24
  refine s_call (find_c (s := s) H hT hl) ?_
  rintro _ u ⟨rfl, H⟩
  refine ⟨_, rfl, s_asU (s_req rfl (s_asI (s_asB (s_ite (fun g => ?_) (fun g => ?_)))))⟩
  · have g : hasR R s = false := by simpa using g
    refine s_ret ⟨?_, H⟩
    unfold lastR
    rw [lookR_none.2 g]
    rfl
  · have g : hasR R s = true := by simpa using g
    obtain ⟨r, hr⟩ := hasR_look g
    obtain ⟨hg, hrs, _⟩ := lookR_some hr
    obtain ⟨v, X, cr, cs, rfl, hX, ho, hV⟩ := hT
    have hXl : X.length = R.length := by rw [← hX, List.length_map]
    have hlt := (List.getElem?_eq_some_iff.1 hg).1
    obtain ⟨x, hx⟩ : ∃ x, X[posR R s]? = some x := ⟨_, List.getElem?_eq_getElem (by omega)⟩
    have hxr : x.row = r := by have := row_at hX hx; rw [hg] at this; cases this; rfl
    obtain ⟨ox, capx, rfl⟩ := ho.slice
    have H := rassoc_to H
    refine h_ldS H (by repeat (first | exact pick_head | apply pick_tail | apply pick_app)) rfl ?_
    obtain ⟨gg, off, rfl, p0, p1, _⟩ := (rowsAt'_own ho H (by repeat (first | exact cut_head | exact cut_all | apply cut_tail | apply cut_app))).get hx
    refine s_req ⟨by omega, by omega⟩ (s_sm (s_loadI p1 (s_ret ⟨?_, rassoc_from H⟩)))
    unfold lastR
    rw [hr, ← hxr]
    rfl

theorem samerow_c {x y : AR} (hx : ValsAt w x.o x.vals) (hy : ValsAt w y.o y.vals) (hmax : x.vals.length < 9223372036854775807) :
    Calls Try.prog 42 #[.agg ⟨arr x⟩, .agg ⟨arr y⟩] w fun en w' => en = .returned (.bool (decide (x.row = y.row))) ∧ Fr [] w w' := by
  apply c42
  refine h_new (Has.init w) fun n16 u H => ?_
  (refine h_new H fun n17 u H => ?_)
  refine h_ldI H (by repeat (first | exact pick_head | apply pick_tail | apply pick_app)) rfl (h_ldI H (by repeat (first | exact pick_head | apply pick_tail | apply pick_app)) rfl (s_ite (fun g => ?_) (fun g => ?_)))
  · have g : x.s = y.s := by simpa using g
    refine h_ldI H (by repeat (first | exact pick_head | apply pick_tail | apply pick_app)) rfl (h_ldI H (by repeat (first | exact pick_head | apply pick_tail | apply pick_app)) rfl (s_ite (fun g' => ?_) (fun g' => ?_)))
    · have g' : x.m = y.m := by simpa using g'
      refine h_ldI H (by repeat (first | exact pick_head | apply pick_tail | apply pick_app)) rfl (h_ldS H (by repeat (first | exact pick_head | apply pick_tail | apply pick_app)) rfl (h_ldI H (by repeat (first | exact pick_head | apply pick_tail | apply pick_app)) rfl (h_ldI H (by repeat (first | exact pick_head | apply pick_tail | apply pick_app)) rfl (h_ldI H (by repeat (first | exact pick_head | apply pick_tail | apply pick_app)) rfl (h_ldS H (by repeat (first | exact pick_head | apply pick_tail | apply pick_app)) rfl (h_ldI H (by repeat (first | exact pick_head | apply pick_tail | apply pick_app)) rfl (h_ldI H (by repeat (first | exact pick_head | apply pick_tail | apply pick_app)) rfl ?_)))))))
      refine s_call (samer_c (hx.fr0 H.base) (hy.fr0 H.base) rfl rfl hmax) ?_
      rintro _ u ⟨rfl, f⟩
      have H := H.fr0 f
      refine ⟨_, rfl, s_asB (s_ret ⟨?_, H.base⟩)⟩
      simp [AR.row, g, g']
    · have g' : ¬ x.m = y.m := by simpa using g'
      exact s_ret ⟨by simp [AR.row, g'], H.base⟩
  · have g : ¬ x.s = y.s := by simpa using g
    exact s_ret ⟨by simp [AR.row, g], H.base⟩
end
end Go.Proofs.Ytcmdbaafnbdpbaa
