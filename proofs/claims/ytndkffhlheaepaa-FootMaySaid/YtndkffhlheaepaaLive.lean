/- live: what the document fixes of footprints. -/
import Derived.Test.YtndkffhlheaepaaOf
set_option linter.unusedVariables false
set_option linter.unusedSimpArgs false
set_option maxRecDepth 100000
set_option maxHeartbeats 4000000
namespace Go.Proofs.Ytndkffhlheaepaa
open Go hiding Expr
open Go.RowKit Tr

abbrev ka : K := ⟨0, 1⟩
abbrev kb : K := ⟨0, 2⟩
theorem KS_ab : KS [ka, kb, kb] = [ka, kb] := by
  refine rising_ext (KS_rising _) (by simp [Rising]; decide) fun x => ?_
  rw [KS_mem]
  simp
def liveT (n6 n9 : Nat) : TX := ⟨0, 0, none, 0, 0, none, 0, 0, some ⟨n6, 0, none⟩, 2, [ka, kb], some ⟨n9, 0, none⟩, 1, [kb]⟩
theorem liveT_ok (n6 n9 : Nat) : TxOk (liveT n6 n9) := ⟨by simp [liveT], by simp [liveT, InK], by simp [liveT, InK]⟩
theorem liveT_locks (n6 n9 : Nat) : locksOf (liveT n6 n9) = [⟨ka, false⟩, ⟨kb, true⟩] := by
  unfold locksOf
  rw [show (liveT n6 n9).rd ++ (liveT n6 n9).wr = [ka, kb, kb] from rfl, KS_ab]
  rfl
theorem liveT_levels (n6 n9 : Nat) : levelsOf [liveT n6 n9, liveT n6 n9, liveT n6 n9] = [0, 1, 2] := by
  have hc : clashB (liveT n6 n9) (liveT n6 n9) = true := by unfold clashB; rw [liveT_locks]; decide
  have hp : ordL [liveT n6 n9, liveT n6 n9, liveT n6 n9] = [(0, 1), (0, 2), (1, 2)] := by
    simp [ordL, ordU, ordK, clAt, hc, List.range_succ, List.filter]
  unfold levelsOf
  rw [hp]
  rfl
def noT : TX := ⟨0, 0, none, 0, 0, none, 0, 0, none, 0, [], none, 0, []⟩
theorem noT_ok : TxOk noT := ⟨by simp [noT], by simp [noT], by simp [noT]⟩
theorem noT_parts (p : Int) : partsOf p noT = [0] := by
  have : partsU (touchN p noT) 8 = [] := by
    have h : ∀ k, touchN p noT k = false := by
      intro k
      unfold touchN
      rw [show noT.rd = [] from rfl, show noT.wr = [] from rfl, KS_nil]
      simp [FP]
    simp [partsU, h]
  unfold partsOf
  rw [this]
  rfl

section
variable {w : World}
theorem live_c : Calls Try.prog 10 #[] w fun e w' => e = .returned (.bool true) ∧ Fr [] w w' := by
  apply c10
  refine h_new (Has.init w) fun n0 u H => h_new H fun n1 u H => ?_
  iterate 4 refine h_st H (by repeat (first | exact pick_head | apply pick_tail | apply pick_app)) (by first | (simp; done) | exact Nat.le_of_ble_eq_true rfl) rfl fun u H => ?_
  iterate 4 refine h_ldI H (by repeat (first | exact pick_head | apply pick_tail | apply pick_app)) rfl ?_
  (refine h_new H fun n6 u H => ?_)
  iterate 2 refine h_ldI H (by repeat (first | exact pick_head | apply pick_tail | apply pick_app)) rfl ?_
  (refine h_new H fun n9 u H => ?_)
  (refine h_new H fun n10 u H => ?_)
  iterate 6 refine h_st H (by repeat (first | exact pick_head | apply pick_tail | apply pick_app)) (by first | (simp; done) | exact Nat.le_of_ble_eq_true rfl) rfl fun u H => ?_
  have H : Has w u (cl n10 39 (txr (liveT n6 n9)) :: cl n9 50 (kr kb) :: cl n6 50 (enc [ka, kb]) :: cl n1 50 (kr kb) :: [cl n0 50 (kr ka)]) := H
  have hTx : ∀ (u : World), Has w u (cl n10 39 (txr (liveT n6 n9)) :: cl n9 50 (kr kb) :: cl n6 50 (enc [ka, kb]) :: cl n1 50 (kr kb) :: [cl n0 50 (kr ka)]) → TxAt u (liveT n6 n9) := fun u H =>
    ⟨rowsAt_cells (ty := 50) (sp := []) (kr2 [ka, kb]) (by rw [List.append_nil]; exact H.cells (by repeat (first | exact pick_head | apply pick_tail | apply pick_app))), rowsAt_cells (ty := 50) (sp := []) (kr2 [kb]) (by rw [List.append_nil]; exact H.cells (b := n9) (l := kr kb) (ty := 50) (by repeat (first | exact pick_head | apply pick_tail | apply pick_app)))⟩
  refine s_call (of_c (x := noT) ⟨.inl rfl, .inl rfl⟩ noT_ok 4) ?_
  rintro _ u ⟨l, c, rfl, ⟨f, g, o1, o2, c1, c2, cr, cw, cp, ca, rfl, rfl, hfo, hgo, hop, hoa⟩, Hc⟩
  have H := H.join Hc
  refine ⟨_, rfl, s_asA ?_⟩
  unfold footAll
  rw [foot_lits]
  refine s_req rfl ?_
  iterate 18 refine s_asS ?_
  (refine h_new H fun n67 u H => ?_)
  iterate 18 (refine h_st H (by repeat (first | exact pick_head | apply pick_tail | apply pick_app)) (bst _ _ rfl) rfl fun u H => ?_; simp only [List.set_cons_zero, List.set_cons_succ] at H)
  simp only [noT_parts] at hop H
  have H : Has w u (cl n67 45 (footL f (FP 4 (KS noT.rd)) ++ footL g (FP 4 (KS noT.wr)) ++ [.slice o1 1 c1, .slice o2 (activeOf 4 noT).length c2]) :: (cp ++ (cl n10 39 (txr (liveT n6 n9)) :: cl n9 50 (kr kb) :: cl n6 50 (enc [ka, kb]) :: cl n1 50 (kr kb) :: [cl n0 50 (kr ka)]))) := by
    rw [foot_lits]
    simp only [List.append_assoc] at H
    exact H.sub (by repeat (first | exact sb_refl | exact sb_nil | refine sb_cons (by repeat (first | exact pick_head | apply pick_tail | apply pick_app)) ?_ | refine sb_app (by repeat (first | exact cut_head | exact cut_all | apply cut_tail | apply cut_app)) ?_ | exact sb_one (by repeat (first | exact cut_head | exact cut_all | apply cut_tail | apply cut_app))))
  have hTx2 : ∀ (u : World) (m : Hp), Has w u m → Sb (cl n10 39 (txr (liveT n6 n9)) :: cl n9 50 (kr kb) :: cl n6 50 (enc [ka, kb]) :: cl n1 50 (kr kb) :: [cl n0 50 (kr ka)]) m → TxAt u (liveT n6 n9) := fun u m H hs => hTx u (H.sub hs)
  have hL0 : locksOf (liveT n6 n9) = [⟨ka, false⟩, ⟨kb, true⟩] := liveT_locks n6 n9
  have hnc : (f.o 0 = f.o 0) := rfl
  refine h_drew H fun u H => ?_
  iterate 2 refine h_ldI H (by repeat (first | exact pick_head | apply pick_tail | apply pick_app)) rfl ?_
  iterate 4 refine h_ldS H (by repeat (first | exact pick_head | apply pick_tail | apply pick_app)) rfl ?_
  iterate 4 refine h_ldI H (by repeat (first | exact pick_head | apply pick_tail | apply pick_app)) rfl ?_
  constructor
  · skip
    refine s_call (locks_c (hTx2 _ _ H (by repeat (first | exact sb_refl | exact sb_nil | refine sb_cons (by repeat (first | exact pick_head | apply pick_tail | apply pick_app)) ?_ | refine sb_app (by repeat (first | exact cut_head | exact cut_all | apply cut_tail | apply cut_app)) ?_ | exact sb_one (by repeat (first | exact cut_head | exact cut_all | apply cut_tail | apply cut_app))))) (liveT_ok n6 n9)) ?_
    rintro _ u ⟨vl, cl1, rfl, hol, Hl⟩
    have H := H.join Hl
    obtain ⟨ol, capl, rfl⟩ := hol.slice
    rw [hL0] at hol ⊢
    refine ⟨_, rfl, s_asS (s_chk (by repeat (first | exact c_nil | refine hc_cons H (by repeat (first | exact pick_head | apply pick_tail | apply pick_app)) rfl ?_)) ?_)⟩
    (refine h_new H fun n90 u H => ?_)
    refine s_chk (by repeat (first | exact c_nil | refine hc_cons H (by repeat (first | exact pick_head | apply pick_tail | apply pick_app)) rfl ?_)) ?_
    refine s_call (eqL_c (l1 := [⟨ka, false⟩, ⟨kb, true⟩]) (l2 := [⟨ka, false⟩, ⟨kb, true⟩]) (locksAt_own hol H (by repeat (first | exact cut_head | exact cut_all | apply cut_tail | apply cut_app))) (rowsAt_cells (ty := 52) (sp := []) (rows := [[.int .i32 0, .int .i64 1, .bool false], [.int .i32 0, .int .i64 2, .bool true]]) (by intro r hr; simp at hr; rcases hr with rfl | rfl <;> rfl) (H.cells (b := n90) (ty := 52) (l := [.int .i32 0, .int .i64 1, .bool false, .int .i32 0, .int .i64 2, .bool true]) (by repeat (first | exact pick_head | apply pick_tail | apply pick_app)))) rfl rfl (by decide)) ?_
    rintro _ u ⟨rfl, f⟩
    have H := H.fr0 f
    refine ⟨_, rfl, s_asB (s_chk (by repeat (first | exact c_nil | refine hc_cons H (by repeat (first | exact pick_head | apply pick_tail | apply pick_app)) rfl ?_)) (s_true rfl (h_ldS H (by repeat (first | exact pick_head | apply pick_tail | apply pick_app)) rfl ?_)))⟩
    (refine h_new H fun n96 u H => ?_)
    refine s_chk (by repeat (first | exact c_nil | refine hc_cons H (by repeat (first | exact pick_head | apply pick_tail | apply pick_app)) rfl ?_)) ?_
    refine s_call (eqI_c (l1 := [0]) (l2 := [0]) (valsAt_own (l := [0]) hop H (by repeat (first | exact cut_head | exact cut_all | apply cut_tail | apply cut_app))) (rowsAt_cells (ty := 3) (sp := []) (rows := [[.int .i64 0]]) (by intro r hr; simp at hr; subst hr; rfl) (H.cells (b := n96) (ty := 3) (l := [.int .i64 0]) (by repeat (first | exact pick_head | apply pick_tail | apply pick_app)))) rfl rfl (by decide)) ?_
    rintro _ u ⟨rfl, f⟩
    have H := H.fr0 f
    refine ⟨_, rfl, s_asB (s_chk (by repeat (first | exact c_nil | refine hc_cons H (by repeat (first | exact pick_head | apply pick_tail | apply pick_app)) rfl ?_)) (s_true rfl ?_))⟩
    iterate 3
      iterate 2 refine h_ldI H (by repeat (first | exact pick_head | apply pick_tail | apply pick_app)) rfl ?_
      iterate 4 refine h_ldS H (by repeat (first | exact pick_head | apply pick_tail | apply pick_app)) rfl ?_
    constructor
    · skip
      (refine h_new H fun n141 u H => ?_)
      refine s_chk (by repeat (first | exact c_nil | refine hc_cons H (by repeat (first | exact pick_head | apply pick_tail | apply pick_app)) rfl ?_)) ?_
      constructor
      · skip
        refine s_call (levels_c (o := some ⟨n141, 0, none⟩) (n := 3) (cap := 3) (X := [liveT n6 n9, liveT n6 n9, liveT n6 n9]) ⟨rowsAt_cells (ty := 39) (sp := []) (rows := [txr (liveT n6 n9), txr (liveT n6 n9), txr (liveT n6 n9)]) (by intro r hr; simp at hr; subst hr; rfl) (H.cells (b := n141) (ty := 39) (l := txr (liveT n6 n9) ++ (txr (liveT n6 n9) ++ txr (liveT n6 n9))) (by repeat (first | exact pick_head | apply pick_tail | apply pick_app))), fun x hx => by simp at hx; subst hx; exact hTx2 _ _ H (by repeat (first | exact sb_refl | exact sb_nil | refine sb_cons (by repeat (first | exact pick_head | apply pick_tail | apply pick_app)) ?_ | refine sb_app (by repeat (first | exact cut_head | exact cut_all | apply cut_tail | apply cut_app)) ?_ | exact sb_one (by repeat (first | exact cut_head | exact cut_all | apply cut_tail | apply cut_app))))⟩ (fun x hx => by simp at hx; subst hx; exact liveT_ok n6 n9) rfl (by simp)) ?_
        rintro _ u ⟨vv, cv, rfl, hov, Hv⟩
        have H := H.join Hv
        obtain ⟨ov, capv, rfl⟩ := hov.slice
        rw [liveT_levels] at hov
        refine ⟨_, rfl, s_asS (s_chk (by repeat (first | exact c_nil | refine hc_cons H (by repeat (first | exact pick_head | apply pick_tail | apply pick_app)) rfl ?_)) ?_)⟩
        (refine h_new H fun n146 u H => ?_)
        refine s_chk (by repeat (first | exact c_nil | refine hc_cons H (by repeat (first | exact pick_head | apply pick_tail | apply pick_app)) rfl ?_)) ?_
        refine s_call (eqI_c (l1 := [0, 1, 2]) (l2 := [0, 1, 2]) (valsAt_own (l := [0, 1, 2]) hov H (by repeat (first | exact cut_head | exact cut_all | apply cut_tail | apply cut_app))) (rowsAt_cells (ty := 3) (sp := []) (rows := [[.int .i64 0], [.int .i64 1], [.int .i64 2]]) (by intro r hr; simp at hr; rcases hr with rfl | rfl | rfl <;> rfl) (H.cells (b := n146) (ty := 3) (l := [.int .i64 0, .int .i64 1, .int .i64 2]) (by repeat (first | exact pick_head | apply pick_tail | apply pick_app)))) rfl rfl (by decide)) ?_
        rintro _ u ⟨rfl, f⟩
        have H := H.fr0 f
        exact ⟨_, rfl, s_asB (s_chk (by repeat (first | exact c_nil | refine hc_cons H (by repeat (first | exact pick_head | apply pick_tail | apply pick_app)) rfl ?_)) (s_ret ⟨rfl, H.base⟩))⟩
      · skip
        (refine h_new H fun n146 u H => ?_)
        refine s_chk (by repeat (first | exact c_nil | refine hc_cons H (by repeat (first | exact pick_head | apply pick_tail | apply pick_app)) rfl ?_)) ?_
        refine s_call (levels_c (o := some ⟨n141, 0, none⟩) (n := 3) (cap := 3) (X := [liveT n6 n9, liveT n6 n9, liveT n6 n9]) ⟨rowsAt_cells (ty := 39) (sp := []) (rows := [txr (liveT n6 n9), txr (liveT n6 n9), txr (liveT n6 n9)]) (by intro r hr; simp at hr; subst hr; rfl) (H.cells (b := n141) (ty := 39) (l := txr (liveT n6 n9) ++ (txr (liveT n6 n9) ++ txr (liveT n6 n9))) (by repeat (first | exact pick_head | apply pick_tail | apply pick_app))), fun x hx => by simp at hx; subst hx; exact hTx2 _ _ H (by repeat (first | exact sb_refl | exact sb_nil | refine sb_cons (by repeat (first | exact pick_head | apply pick_tail | apply pick_app)) ?_ | refine sb_app (by repeat (first | exact cut_head | exact cut_all | apply cut_tail | apply cut_app)) ?_ | exact sb_one (by repeat (first | exact cut_head | exact cut_all | apply cut_tail | apply cut_app))))⟩ (fun x hx => by simp at hx; subst hx; exact liveT_ok n6 n9) rfl (by simp)) ?_
        rintro _ u ⟨vv, cv, rfl, hov, Hv⟩
        have H := H.join Hv
        obtain ⟨ov, capv, rfl⟩ := hov.slice
        rw [liveT_levels] at hov
        refine ⟨_, rfl, s_asS (s_chk (by repeat (first | exact c_nil | refine hc_cons H (by repeat (first | exact pick_head | apply pick_tail | apply pick_app)) rfl ?_)) ?_)⟩
        refine s_call (eqI_c (l1 := [0, 1, 2]) (l2 := [0, 1, 2]) (valsAt_own (l := [0, 1, 2]) hov H (by repeat (first | exact cut_head | exact cut_all | apply cut_tail | apply cut_app))) (rowsAt_cells (ty := 3) (sp := []) (rows := [[.int .i64 0], [.int .i64 1], [.int .i64 2]]) (by intro r hr; simp at hr; rcases hr with rfl | rfl | rfl <;> rfl) (H.cells (b := n146) (ty := 3) (l := [.int .i64 0, .int .i64 1, .int .i64 2]) (by repeat (first | exact pick_head | apply pick_tail | apply pick_app)))) rfl rfl (by decide)) ?_
        rintro _ u ⟨rfl, f⟩
        have H := H.fr0 f
        exact ⟨_, rfl, s_asB (s_chk (by repeat (first | exact c_nil | refine hc_cons H (by repeat (first | exact pick_head | apply pick_tail | apply pick_app)) rfl ?_)) (s_ret ⟨rfl, H.base⟩))⟩
    · skip
      (refine h_new H fun n146 u H => ?_)
      refine s_chk (by repeat (first | exact c_nil | refine hc_cons H (by repeat (first | exact pick_head | apply pick_tail | apply pick_app)) rfl ?_)) ?_
      (refine h_new H fun n141 u H => ?_)
      refine s_chk (by repeat (first | exact c_nil | refine hc_cons H (by repeat (first | exact pick_head | apply pick_tail | apply pick_app)) rfl ?_)) ?_
      refine s_call (levels_c (o := some ⟨n141, 0, none⟩) (n := 3) (cap := 3) (X := [liveT n6 n9, liveT n6 n9, liveT n6 n9]) ⟨rowsAt_cells (ty := 39) (sp := []) (rows := [txr (liveT n6 n9), txr (liveT n6 n9), txr (liveT n6 n9)]) (by intro r hr; simp at hr; subst hr; rfl) (H.cells (b := n141) (ty := 39) (l := txr (liveT n6 n9) ++ (txr (liveT n6 n9) ++ txr (liveT n6 n9))) (by repeat (first | exact pick_head | apply pick_tail | apply pick_app))), fun x hx => by simp at hx; subst hx; exact hTx2 _ _ H (by repeat (first | exact sb_refl | exact sb_nil | refine sb_cons (by repeat (first | exact pick_head | apply pick_tail | apply pick_app)) ?_ | refine sb_app (by repeat (first | exact cut_head | exact cut_all | apply cut_tail | apply cut_app)) ?_ | exact sb_one (by repeat (first | exact cut_head | exact cut_all | apply cut_tail | apply cut_app))))⟩ (fun x hx => by simp at hx; subst hx; exact liveT_ok n6 n9) rfl (by simp)) ?_
      rintro _ u ⟨vv, cv, rfl, hov, Hv⟩
      have H := H.join Hv
      obtain ⟨ov, capv, rfl⟩ := hov.slice
      rw [liveT_levels] at hov
      refine ⟨_, rfl, s_asS (s_chk (by repeat (first | exact c_nil | refine hc_cons H (by repeat (first | exact pick_head | apply pick_tail | apply pick_app)) rfl ?_)) ?_)⟩
      refine s_call (eqI_c (l1 := [0, 1, 2]) (l2 := [0, 1, 2]) (valsAt_own (l := [0, 1, 2]) hov H (by repeat (first | exact cut_head | exact cut_all | apply cut_tail | apply cut_app))) (rowsAt_cells (ty := 3) (sp := []) (rows := [[.int .i64 0], [.int .i64 1], [.int .i64 2]]) (by intro r hr; simp at hr; rcases hr with rfl | rfl | rfl <;> rfl) (H.cells (b := n146) (ty := 3) (l := [.int .i64 0, .int .i64 1, .int .i64 2]) (by repeat (first | exact pick_head | apply pick_tail | apply pick_app)))) rfl rfl (by decide)) ?_
      rintro _ u ⟨rfl, f⟩
      have H := H.fr0 f
      exact ⟨_, rfl, s_asB (s_chk (by repeat (first | exact c_nil | refine hc_cons H (by repeat (first | exact pick_head | apply pick_tail | apply pick_app)) rfl ?_)) (s_ret ⟨rfl, H.base⟩))⟩
  · skip
    (refine h_new H fun n90 u H => ?_)
    refine s_chk (by repeat (first | exact c_nil | refine hc_cons H (by repeat (first | exact pick_head | apply pick_tail | apply pick_app)) rfl ?_)) ?_
    refine s_call (locks_c (hTx2 _ _ H (by repeat (first | exact sb_refl | exact sb_nil | refine sb_cons (by repeat (first | exact pick_head | apply pick_tail | apply pick_app)) ?_ | refine sb_app (by repeat (first | exact cut_head | exact cut_all | apply cut_tail | apply cut_app)) ?_ | exact sb_one (by repeat (first | exact cut_head | exact cut_all | apply cut_tail | apply cut_app))))) (liveT_ok n6 n9)) ?_
    rintro _ u ⟨vl, cl1, rfl, hol, Hl⟩
    have H := H.join Hl
    obtain ⟨ol, capl, rfl⟩ := hol.slice
    rw [hL0] at hol ⊢
    refine ⟨_, rfl, s_asS (s_chk (by repeat (first | exact c_nil | refine hc_cons H (by repeat (first | exact pick_head | apply pick_tail | apply pick_app)) rfl ?_)) ?_)⟩
    refine s_call (eqL_c (l1 := [⟨ka, false⟩, ⟨kb, true⟩]) (l2 := [⟨ka, false⟩, ⟨kb, true⟩]) (locksAt_own hol H (by repeat (first | exact cut_head | exact cut_all | apply cut_tail | apply cut_app))) (rowsAt_cells (ty := 52) (sp := []) (rows := [[.int .i32 0, .int .i64 1, .bool false], [.int .i32 0, .int .i64 2, .bool true]]) (by intro r hr; simp at hr; rcases hr with rfl | rfl <;> rfl) (H.cells (b := n90) (ty := 52) (l := [.int .i32 0, .int .i64 1, .bool false, .int .i32 0, .int .i64 2, .bool true]) (by repeat (first | exact pick_head | apply pick_tail | apply pick_app)))) rfl rfl (by decide)) ?_
    rintro _ u ⟨rfl, f⟩
    have H := H.fr0 f
    refine ⟨_, rfl, s_asB (s_chk (by repeat (first | exact c_nil | refine hc_cons H (by repeat (first | exact pick_head | apply pick_tail | apply pick_app)) rfl ?_)) (s_true rfl (h_ldS H (by repeat (first | exact pick_head | apply pick_tail | apply pick_app)) rfl ?_)))⟩
    (refine h_new H fun n96 u H => ?_)
    refine s_chk (by repeat (first | exact c_nil | refine hc_cons H (by repeat (first | exact pick_head | apply pick_tail | apply pick_app)) rfl ?_)) ?_
    refine s_call (eqI_c (l1 := [0]) (l2 := [0]) (valsAt_own (l := [0]) hop H (by repeat (first | exact cut_head | exact cut_all | apply cut_tail | apply cut_app))) (rowsAt_cells (ty := 3) (sp := []) (rows := [[.int .i64 0]]) (by intro r hr; simp at hr; subst hr; rfl) (H.cells (b := n96) (ty := 3) (l := [.int .i64 0]) (by repeat (first | exact pick_head | apply pick_tail | apply pick_app)))) rfl rfl (by decide)) ?_
    rintro _ u ⟨rfl, f⟩
    have H := H.fr0 f
    refine ⟨_, rfl, s_asB (s_chk (by repeat (first | exact c_nil | refine hc_cons H (by repeat (first | exact pick_head | apply pick_tail | apply pick_app)) rfl ?_)) (s_true rfl ?_))⟩
    iterate 3
      iterate 2 refine h_ldI H (by repeat (first | exact pick_head | apply pick_tail | apply pick_app)) rfl ?_
      iterate 4 refine h_ldS H (by repeat (first | exact pick_head | apply pick_tail | apply pick_app)) rfl ?_
    constructor
    · skip
      (refine h_new H fun n141 u H => ?_)
      refine s_chk (by repeat (first | exact c_nil | refine hc_cons H (by repeat (first | exact pick_head | apply pick_tail | apply pick_app)) rfl ?_)) ?_
      constructor
      · skip
        refine s_call (levels_c (o := some ⟨n141, 0, none⟩) (n := 3) (cap := 3) (X := [liveT n6 n9, liveT n6 n9, liveT n6 n9]) ⟨rowsAt_cells (ty := 39) (sp := []) (rows := [txr (liveT n6 n9), txr (liveT n6 n9), txr (liveT n6 n9)]) (by intro r hr; simp at hr; subst hr; rfl) (H.cells (b := n141) (ty := 39) (l := txr (liveT n6 n9) ++ (txr (liveT n6 n9) ++ txr (liveT n6 n9))) (by repeat (first | exact pick_head | apply pick_tail | apply pick_app))), fun x hx => by simp at hx; subst hx; exact hTx2 _ _ H (by repeat (first | exact sb_refl | exact sb_nil | refine sb_cons (by repeat (first | exact pick_head | apply pick_tail | apply pick_app)) ?_ | refine sb_app (by repeat (first | exact cut_head | exact cut_all | apply cut_tail | apply cut_app)) ?_ | exact sb_one (by repeat (first | exact cut_head | exact cut_all | apply cut_tail | apply cut_app))))⟩ (fun x hx => by simp at hx; subst hx; exact liveT_ok n6 n9) rfl (by simp)) ?_
        rintro _ u ⟨vv, cv, rfl, hov, Hv⟩
        have H := H.join Hv
        obtain ⟨ov, capv, rfl⟩ := hov.slice
        rw [liveT_levels] at hov
        refine ⟨_, rfl, s_asS (s_chk (by repeat (first | exact c_nil | refine hc_cons H (by repeat (first | exact pick_head | apply pick_tail | apply pick_app)) rfl ?_)) ?_)⟩
        (refine h_new H fun n146 u H => ?_)
        refine s_chk (by repeat (first | exact c_nil | refine hc_cons H (by repeat (first | exact pick_head | apply pick_tail | apply pick_app)) rfl ?_)) ?_
        refine s_call (eqI_c (l1 := [0, 1, 2]) (l2 := [0, 1, 2]) (valsAt_own (l := [0, 1, 2]) hov H (by repeat (first | exact cut_head | exact cut_all | apply cut_tail | apply cut_app))) (rowsAt_cells (ty := 3) (sp := []) (rows := [[.int .i64 0], [.int .i64 1], [.int .i64 2]]) (by intro r hr; simp at hr; rcases hr with rfl | rfl | rfl <;> rfl) (H.cells (b := n146) (ty := 3) (l := [.int .i64 0, .int .i64 1, .int .i64 2]) (by repeat (first | exact pick_head | apply pick_tail | apply pick_app)))) rfl rfl (by decide)) ?_
        rintro _ u ⟨rfl, f⟩
        have H := H.fr0 f
        exact ⟨_, rfl, s_asB (s_chk (by repeat (first | exact c_nil | refine hc_cons H (by repeat (first | exact pick_head | apply pick_tail | apply pick_app)) rfl ?_)) (s_ret ⟨rfl, H.base⟩))⟩
      · skip
        (refine h_new H fun n146 u H => ?_)
        refine s_chk (by repeat (first | exact c_nil | refine hc_cons H (by repeat (first | exact pick_head | apply pick_tail | apply pick_app)) rfl ?_)) ?_
        refine s_call (levels_c (o := some ⟨n141, 0, none⟩) (n := 3) (cap := 3) (X := [liveT n6 n9, liveT n6 n9, liveT n6 n9]) ⟨rowsAt_cells (ty := 39) (sp := []) (rows := [txr (liveT n6 n9), txr (liveT n6 n9), txr (liveT n6 n9)]) (by intro r hr; simp at hr; subst hr; rfl) (H.cells (b := n141) (ty := 39) (l := txr (liveT n6 n9) ++ (txr (liveT n6 n9) ++ txr (liveT n6 n9))) (by repeat (first | exact pick_head | apply pick_tail | apply pick_app))), fun x hx => by simp at hx; subst hx; exact hTx2 _ _ H (by repeat (first | exact sb_refl | exact sb_nil | refine sb_cons (by repeat (first | exact pick_head | apply pick_tail | apply pick_app)) ?_ | refine sb_app (by repeat (first | exact cut_head | exact cut_all | apply cut_tail | apply cut_app)) ?_ | exact sb_one (by repeat (first | exact cut_head | exact cut_all | apply cut_tail | apply cut_app))))⟩ (fun x hx => by simp at hx; subst hx; exact liveT_ok n6 n9) rfl (by simp)) ?_
        rintro _ u ⟨vv, cv, rfl, hov, Hv⟩
        have H := H.join Hv
        obtain ⟨ov, capv, rfl⟩ := hov.slice
        rw [liveT_levels] at hov
        refine ⟨_, rfl, s_asS (s_chk (by repeat (first | exact c_nil | refine hc_cons H (by repeat (first | exact pick_head | apply pick_tail | apply pick_app)) rfl ?_)) ?_)⟩
        refine s_call (eqI_c (l1 := [0, 1, 2]) (l2 := [0, 1, 2]) (valsAt_own (l := [0, 1, 2]) hov H (by repeat (first | exact cut_head | exact cut_all | apply cut_tail | apply cut_app))) (rowsAt_cells (ty := 3) (sp := []) (rows := [[.int .i64 0], [.int .i64 1], [.int .i64 2]]) (by intro r hr; simp at hr; rcases hr with rfl | rfl | rfl <;> rfl) (H.cells (b := n146) (ty := 3) (l := [.int .i64 0, .int .i64 1, .int .i64 2]) (by repeat (first | exact pick_head | apply pick_tail | apply pick_app)))) rfl rfl (by decide)) ?_
        rintro _ u ⟨rfl, f⟩
        have H := H.fr0 f
        exact ⟨_, rfl, s_asB (s_chk (by repeat (first | exact c_nil | refine hc_cons H (by repeat (first | exact pick_head | apply pick_tail | apply pick_app)) rfl ?_)) (s_ret ⟨rfl, H.base⟩))⟩
    · skip
      (refine h_new H fun n146 u H => ?_)
      refine s_chk (by repeat (first | exact c_nil | refine hc_cons H (by repeat (first | exact pick_head | apply pick_tail | apply pick_app)) rfl ?_)) ?_
      (refine h_new H fun n141 u H => ?_)
      refine s_chk (by repeat (first | exact c_nil | refine hc_cons H (by repeat (first | exact pick_head | apply pick_tail | apply pick_app)) rfl ?_)) ?_
      refine s_call (levels_c (o := some ⟨n141, 0, none⟩) (n := 3) (cap := 3) (X := [liveT n6 n9, liveT n6 n9, liveT n6 n9]) ⟨rowsAt_cells (ty := 39) (sp := []) (rows := [txr (liveT n6 n9), txr (liveT n6 n9), txr (liveT n6 n9)]) (by intro r hr; simp at hr; subst hr; rfl) (H.cells (b := n141) (ty := 39) (l := txr (liveT n6 n9) ++ (txr (liveT n6 n9) ++ txr (liveT n6 n9))) (by repeat (first | exact pick_head | apply pick_tail | apply pick_app))), fun x hx => by simp at hx; subst hx; exact hTx2 _ _ H (by repeat (first | exact sb_refl | exact sb_nil | refine sb_cons (by repeat (first | exact pick_head | apply pick_tail | apply pick_app)) ?_ | refine sb_app (by repeat (first | exact cut_head | exact cut_all | apply cut_tail | apply cut_app)) ?_ | exact sb_one (by repeat (first | exact cut_head | exact cut_all | apply cut_tail | apply cut_app))))⟩ (fun x hx => by simp at hx; subst hx; exact liveT_ok n6 n9) rfl (by simp)) ?_
      rintro _ u ⟨vv, cv, rfl, hov, Hv⟩
      have H := H.join Hv
      obtain ⟨ov, capv, rfl⟩ := hov.slice
      rw [liveT_levels] at hov
      refine ⟨_, rfl, s_asS (s_chk (by repeat (first | exact c_nil | refine hc_cons H (by repeat (first | exact pick_head | apply pick_tail | apply pick_app)) rfl ?_)) ?_)⟩
      refine s_call (eqI_c (l1 := [0, 1, 2]) (l2 := [0, 1, 2]) (valsAt_own (l := [0, 1, 2]) hov H (by repeat (first | exact cut_head | exact cut_all | apply cut_tail | apply cut_app))) (rowsAt_cells (ty := 3) (sp := []) (rows := [[.int .i64 0], [.int .i64 1], [.int .i64 2]]) (by intro r hr; simp at hr; rcases hr with rfl | rfl | rfl <;> rfl) (H.cells (b := n146) (ty := 3) (l := [.int .i64 0, .int .i64 1, .int .i64 2]) (by repeat (first | exact pick_head | apply pick_tail | apply pick_app)))) rfl rfl (by decide)) ?_
      rintro _ u ⟨rfl, f⟩
      have H := H.fr0 f
      exact ⟨_, rfl, s_asB (s_chk (by repeat (first | exact c_nil | refine hc_cons H (by repeat (first | exact pick_head | apply pick_tail | apply pick_app)) rfl ?_)) (s_ret ⟨rfl, H.base⟩))⟩
end
end Go.Proofs.Ytndkffhlheaepaa
