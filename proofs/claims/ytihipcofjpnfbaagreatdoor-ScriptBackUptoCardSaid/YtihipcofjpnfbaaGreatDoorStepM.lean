/- A step's line, by the program. -/
import Derived.Test.YtihipcofjpnfbaaGreatDoorZr
import Derived.Test.YtihipcofjpnfbaaGreatDoorTreesC
set_option linter.unusedVariables false
set_option linter.unusedSimpArgs false
set_option maxRecDepth 100000
set_option maxHeartbeats 8000000
namespace Go.Proofs.YtihipcofjpnfbaaGreatDoor
open Go hiding Expr
open Go.RowKit Tr

/-- Fields taken out one by one, their words behind one another. -/
def runF (x : ST) : List Int → List (List UInt8) → List UInt8 × Int
  | [], ws => if isNone x then (joinL ws, 0) else ([], 1)
  | f :: r, ws => if (fieldR x f).2 ≠ 0 then ([], (fieldR x f).2) else runF (zf x f) r (ws ++ [(fieldR x f).1])
def stepR (x : ST) : List UInt8 × Int :=
  if x.kind < 1 ∨ x.kind > 20 then ([], 1) else runF x (forms.getD x.kind.toNat ([], [])).2 [(forms.getD x.kind.toNat ([], [])).1]
theorem forms_ok : ∀ p ∈ forms, p.1.length ≤ 7 ∧ p.2.length ≤ 3 ∧ ∀ f ∈ p.2, IsField f := by
  intro p hp
  simp only [forms, List.mem_cons, List.not_mem_nil, or_false] at hp
  rcases hp with rfl | rfl | rfl | rfl | rfl | rfl | rfl | rfl | rfl | rfl | rfl | rfl | rfl | rfl | rfl | rfl | rfl | rfl | rfl | rfl | rfl <;> simp [IsField]

section
variable {w : World} {x : ST} {v : SV27}
theorem step_c (hT : Tab w) (h : StAt w x v) (hx : StOk x) : Calls Tryz.prog 26 #[.agg ⟨stv x v⟩] w fun e w' => e = .returned (.tuple #[.string (S (stepR x).1), .int .i64 (stepR x).2]) ∧ Fr [] w w' := by
  have hml : (1000 : Nat) ≤ maxLen := by decide
  apply c26
  refine h_new (Has.init w) fun n26 u H => ?_
  refine s_blk (fun vs W => vs = [] ∧ 1 ≤ x.kind ∧ x.kind ≤ 20 ∧ Has w W [cl n26 56 (stv x v)]) ?_ ?_
  · clear H
    rintro _ j W ⟨rfl, hk1, hk2, H⟩
    have hk : x.kind.toNat < 21 := by omega
    refine h_drew H fun u H => h_ldI H (by repeat (first | exact pick_head | apply pick_tail | apply pick_app)) rfl (s_both ?_ ?_)
    · refine s_call forms_c ?_
      rintro _ u ⟨fs, cf, hfl, rfl, Hf, hfs, hargs⟩
      have H := H.join Hf
      obtain ⟨p, o, hpk, hok, hex⟩ := formsV_at hfl hk
      obtain ⟨hp1, hp2, hp3⟩ := forms_ok p (List.mem_of_getElem? hpk)
      have hrun : runF x (p.2.drop 0) [p.1] = stepR x := by
        rw [stepR, if_neg (by omega), List.getD_eq_getElem?_getD, hpk]
        rfl
      have hxa : ∀ a : Array Value, a = ⟨formsV fs⟩ → a.extract (x.kind.toNat * 2) (x.kind.toNat * 2 + 2) = ⟨[.string (S p.1), .slice o p.2.length p.2.length]⟩ := by
        rintro a rfl
        apply Array.ext'
        rw [Array.toList_extract]
        exact hex
      clear hex hfl
      obtain ⟨o1, o2, o3, o4, o5, o6, o7, o8, o9, o10, o11, o12, o13, o16, o17, o18, o19, o20, rfl⟩ := hfs
      refine ⟨_, rfl, s_asA (s_req rfl ?_)⟩
      iterate 21 refine s_asT (s_asS ?_)
      refine s_chk (hc_cons H (by repeat (first | exact pick_head | apply pick_tail | apply pick_app)) rfl c_nil) (s_req ⟨by omega, by omega⟩ ?_)
      rw [hxa]
      rotate_left
      · rfl
      refine s_asA (s_req rfl (s_asT (s_asS ?_)))
      clear hxa
      (refine h_new H fun nX u H => ?_)
      refine s_chk (hc_cons H (b := n26) (by repeat (first | exact pick_head | apply pick_tail | apply pick_app)) rfl c_nil) ?_
      iterate 2 refine h_st H (b := nX) (by repeat (first | exact pick_head | apply pick_tail | apply pick_app)) (by first | (simp; done) | exact Nat.le_of_ble_eq_true rfl) rfl fun u H => ?_
      refine s_chk c_nil ?_
      have H : Has w u (cl nX 89 [.string (S p.1), .slice o p.2.length p.2.length] :: (cf ++ [cl n26 56 (stv x v)])) := H.sub (by repeat (first | exact sb_refl | exact sb_nil | refine sb_cons (by repeat (first | exact pick_head | apply pick_tail | apply pick_app)) ?_ | refine sb_app (by repeat (first | exact cut_head | exact cut_all | apply cut_tail | apply cut_app)) ?_ | exact sb_one (by repeat (first | exact cut_head | exact cut_all | apply cut_tail | apply cut_app))))
      refine h_ldT H (by repeat (first | exact pick_head | apply pick_tail | apply pick_app)) rfl ?_
      (refine h_new H fun n123 u H => ?_)
      refine h_ldS H (b := nX) (by repeat (first | exact pick_head | apply pick_tail | apply pick_app)) rfl ?_
      refine s_loop (fun vs W => ∃ (i : Nat) (v1 : Value) (c : Hp) (x' : ST) (v' : SV27) (ws : List (List UInt8)), vs = [v1, .int .i64 i] ∧ i ≤ p.2.length ∧ ws.length = 1 + i ∧ (∀ y ∈ ws, y.length ≤ 134217728) ∧ runF x' (p.2.drop i) ws = stepR x ∧ StOk x' ∧ StAt w x' v' ∧ OwnC 9 1 v1 (1 + i) (strs ws) c ∧ Has w W (cl n26 56 (stv x' v') :: (c ++ cf)))
        (fun vs _ => p.2.length - (intOf (vs.getD 1 undef)).toNat)
        ⟨0, _, _, x, v, [p.1], rfl, by omega, rfl, ?_, hrun, hx, h, ownStrs n123 [p.1] 1 rfl (by simp; omega), H.sub (by repeat (first | exact sb_refl | exact sb_nil | refine sb_cons (by repeat (first | exact pick_head | apply pick_tail | apply pick_app)) ?_ | refine sb_app (by repeat (first | exact cut_head | exact cut_all | apply cut_tail | apply cut_app)) ?_ | exact sb_one (by repeat (first | exact cut_head | exact cut_all | apply cut_tail | apply cut_app))))⟩ ?_
      · intro y hy
        simp at hy
        subst hy
        have := hp1
        omega
      clear H hrun
      rintro _ j W ⟨i, v1, c, x', v', ws, rfl, hi, hwl, hws, hr, hx', h', ho, H⟩
      obtain ⟨ov, cv, rfl⟩ := ho.slice
      refine s_asS (s_asI (s_ite (fun g1 => ?_) (fun g1 => ?_)))
      · simp only [decide_eq_true_eq] at g1
        have hlt : i < p.2.length := by omega
        obtain ⟨f, hf⟩ : ∃ f, p.2[i]? = some f := ⟨_, List.getElem?_eq_getElem hlt⟩
        have hff := hp3 f (List.mem_of_getElem? hf)
        obtain ⟨g2, off, he, q1⟩ := argsGet (hargs w W (cl n26 56 (stv x' v') :: c) (H.sub (by repeat (first | exact sb_refl | exact sb_nil | refine sb_cons (by repeat (first | exact pick_head | apply pick_tail | apply pick_app)) ?_ | refine sb_app (by repeat (first | exact cut_head | exact cut_all | apply cut_tail | apply cut_app)) ?_ | exact sb_one (by repeat (first | exact cut_head | exact cut_all | apply cut_tail | apply cut_app))))) _ _ _ hpk hok) hf
        refine s_req ⟨by omega, by omega⟩ ⟨g2, off, he, s_loadI q1 ?_⟩
        refine s_call (zero_c hT H h' hx' hff) ?_
        rintro _ u ⟨v2, rfl, h2, H⟩
        have hdrop : p.2.drop i = f :: p.2.drop (i + 1) := by
          obtain ⟨ha, hb⟩ := List.getElem?_eq_some_iff.1 hf
          rw [List.drop_eq_getElem_cons ha, hb]
        rw [hdrop] at hr
        refine ⟨_, rfl, s_asU (s_req rfl (s_asT (s_asI (s_ite (fun g3 => ?_) (fun g3 => ?_)))))⟩
        · have g3 : (fieldR x' f).2 ≠ 0 := by simpa using g3
          rw [runF, if_pos g3] at hr
          exact s_ret ⟨by rw [← hr], H.base⟩
        · have g3 : (fieldR x' f).2 = 0 := by simpa using g3
          rw [runF, if_neg (by simpa using g3)] at hr
          (refine h_new H fun n140 u H => ?_)
          have hrd : Reads u ⟨n140, 0, none⟩ (strs [(fieldR x' f).1]) := (H.cells (by repeat (first | exact pick_head | apply pick_tail | apply pick_app))).reads
          refine h_app (j := 1) (news := strs [(fieldR x' f).1]) elemS H (by repeat (first | exact cut_head | exact cut_all | apply cut_tail | apply cut_app)) ho rfl hrd (by intro u hu; simp [strs, sr] at hu; subst hu; rfl) (by omega) (by omega) ?_
          intro v3 c' u ho' H _
          obtain ⟨o', cap', rfl⟩ := ho'.slice
          rw [← strs_append] at ho'
          refine s_asS (s_next (by first | exact ⟨rfl, rfl⟩ | trivial) ?_)
          simp (config := { decide := true }) only [if_true, if_false]
          refine ⟨⟨i + 1, _, c', zf x' f, v2, ws ++ [(fieldR x' f).1], by rw [w_succ (by omega)], by omega, by simp; omega, ?_, hr, zfOk hx' hff, h2, ho', H.sub (by repeat (first | exact sb_refl | exact sb_nil | refine sb_cons (by repeat (first | exact pick_head | apply pick_tail | apply pick_app)) ?_ | refine sb_app (by repeat (first | exact cut_head | exact cut_all | apply cut_tail | apply cut_app)) ?_ | exact sb_one (by repeat (first | exact cut_head | exact cut_all | apply cut_tail | apply cut_app))))⟩, by rw [w_succ (by omega)]; simp [intOf] <;> omega⟩
          intro y hy
          rcases List.mem_append.1 hy with hy | hy
          · exact hws y hy
          · simp at hy
            subst hy
            exact fieldR_len hx' hff
      · simp only [decide_eq_false_iff_not] at g1
        obtain rfl : i = p.2.length := by omega
        rw [List.drop_length, runF] at hr
        iterate 5 refine h_ldI H (b := n26) (by repeat (first | exact pick_head | apply pick_tail | apply pick_app)) rfl ?_
        iterate 5 refine h_ldS H (b := n26) (by repeat (first | exact pick_head | apply pick_tail | apply pick_app)) rfl ?_
        iterate 6 refine h_ldI H (b := n26) (by repeat (first | exact pick_head | apply pick_tail | apply pick_app)) rfl ?_
        refine s_call (none_c (x := x') (v := v') hx') ?_
        rintro _ u ⟨rfl, f⟩
        have H := H.fr0 f
        refine ⟨_, rfl, s_asB (s_ite (fun g2 => ?_) (fun g2 => ?_))⟩
        · have g2 : isNone x' = false := by simpa using g2
          rw [g2, if_neg (by simp)] at hr
          exact s_ret ⟨by rw [← hr], H.base⟩
        · have g2 : isNone x' = true := by simpa using g2
          rw [g2, if_pos rfl] at hr
          have hl := joinL_le hws
          have hne : ws ≠ [] := by
            intro e
            rw [e] at hwl
            simp at hwl
            omega
          refine s_call (join_c (l := ws) (strsAt_own ho H (by repeat (first | exact cut_head | exact cut_all | apply cut_tail | apply cut_app))) hwl.symm (ownCap ho) hne (by omega) (by rw [hwl] at hl; omega)) ?_
          rintro _ u ⟨rfl, f⟩
          exact ⟨_, rfl, s_asT (s_ret ⟨by rw [← hr], H.base.trans f⟩)⟩
    · (refine h_new H fun nX u H => ?_)
      refine s_chk (hc_cons H (b := n26) (by repeat (first | exact pick_head | apply pick_tail | apply pick_app)) rfl c_nil) ?_
      refine s_call forms_c ?_
      rintro _ u ⟨fs, cf, hfl, rfl, Hf, hfs, hargs⟩
      have H := H.join Hf
      obtain ⟨p, o, hpk, hok, hex⟩ := formsV_at hfl hk
      obtain ⟨hp1, hp2, hp3⟩ := forms_ok p (List.mem_of_getElem? hpk)
      have hrun : runF x (p.2.drop 0) [p.1] = stepR x := by
        rw [stepR, if_neg (by omega), List.getD_eq_getElem?_getD, hpk]
        rfl
      have hxa : ∀ a : Array Value, a = ⟨formsV fs⟩ → a.extract (x.kind.toNat * 2) (x.kind.toNat * 2 + 2) = ⟨[.string (S p.1), .slice o p.2.length p.2.length]⟩ := by
        rintro a rfl
        apply Array.ext'
        rw [Array.toList_extract]
        exact hex
      clear hex hfl
      obtain ⟨o1, o2, o3, o4, o5, o6, o7, o8, o9, o10, o11, o12, o13, o16, o17, o18, o19, o20, rfl⟩ := hfs
      refine ⟨_, rfl, s_asA (s_req rfl ?_)⟩
      iterate 21 refine s_asT (s_asS ?_)
      refine s_chk (hc_cons H (b := n26) (by repeat (first | exact pick_head | apply pick_tail | apply pick_app)) rfl c_nil) (s_req ⟨by omega, by omega⟩ ?_)
      rw [hxa]
      rotate_left
      · rfl
      refine s_asA (s_req rfl (s_asT (s_asS ?_)))
      clear hxa
      iterate 2 refine h_st H (b := nX) (by repeat (first | exact pick_head | apply pick_tail | apply pick_app)) (by first | (simp; done) | exact Nat.le_of_ble_eq_true rfl) rfl fun u H => ?_
      refine s_chk c_nil ?_
      have H : Has w u (cl nX 89 [.string (S p.1), .slice o p.2.length p.2.length] :: (cf ++ [cl n26 56 (stv x v)])) := H.sub (by repeat (first | exact sb_refl | exact sb_nil | refine sb_cons (by repeat (first | exact pick_head | apply pick_tail | apply pick_app)) ?_ | refine sb_app (by repeat (first | exact cut_head | exact cut_all | apply cut_tail | apply cut_app)) ?_ | exact sb_one (by repeat (first | exact cut_head | exact cut_all | apply cut_tail | apply cut_app))))
      refine h_ldT H (by repeat (first | exact pick_head | apply pick_tail | apply pick_app)) rfl ?_
      (refine h_new H fun n123 u H => ?_)
      refine h_ldS H (b := nX) (by repeat (first | exact pick_head | apply pick_tail | apply pick_app)) rfl ?_
      refine s_loop (fun vs W => ∃ (i : Nat) (v1 : Value) (c : Hp) (x' : ST) (v' : SV27) (ws : List (List UInt8)), vs = [v1, .int .i64 i] ∧ i ≤ p.2.length ∧ ws.length = 1 + i ∧ (∀ y ∈ ws, y.length ≤ 134217728) ∧ runF x' (p.2.drop i) ws = stepR x ∧ StOk x' ∧ StAt w x' v' ∧ OwnC 9 1 v1 (1 + i) (strs ws) c ∧ Has w W (cl n26 56 (stv x' v') :: (c ++ cf)))
        (fun vs _ => p.2.length - (intOf (vs.getD 1 undef)).toNat)
        ⟨0, _, _, x, v, [p.1], rfl, by omega, rfl, ?_, hrun, hx, h, ownStrs n123 [p.1] 1 rfl (by simp; omega), H.sub (by repeat (first | exact sb_refl | exact sb_nil | refine sb_cons (by repeat (first | exact pick_head | apply pick_tail | apply pick_app)) ?_ | refine sb_app (by repeat (first | exact cut_head | exact cut_all | apply cut_tail | apply cut_app)) ?_ | exact sb_one (by repeat (first | exact cut_head | exact cut_all | apply cut_tail | apply cut_app))))⟩ ?_
      · intro y hy
        simp at hy
        subst hy
        have := hp1
        omega
      clear H hrun
      rintro _ j W ⟨i, v1, c, x', v', ws, rfl, hi, hwl, hws, hr, hx', h', ho, H⟩
      obtain ⟨ov, cv, rfl⟩ := ho.slice
      refine s_asS (s_asI (s_ite (fun g1 => ?_) (fun g1 => ?_)))
      · simp only [decide_eq_true_eq] at g1
        have hlt : i < p.2.length := by omega
        obtain ⟨f, hf⟩ : ∃ f, p.2[i]? = some f := ⟨_, List.getElem?_eq_getElem hlt⟩
        have hff := hp3 f (List.mem_of_getElem? hf)
        obtain ⟨g2, off, he, q1⟩ := argsGet (hargs w W (cl n26 56 (stv x' v') :: c) (H.sub (by repeat (first | exact sb_refl | exact sb_nil | refine sb_cons (by repeat (first | exact pick_head | apply pick_tail | apply pick_app)) ?_ | refine sb_app (by repeat (first | exact cut_head | exact cut_all | apply cut_tail | apply cut_app)) ?_ | exact sb_one (by repeat (first | exact cut_head | exact cut_all | apply cut_tail | apply cut_app))))) _ _ _ hpk hok) hf
        refine s_req ⟨by omega, by omega⟩ ⟨g2, off, he, s_loadI q1 ?_⟩
        refine s_call (zero_c hT H h' hx' hff) ?_
        rintro _ u ⟨v2, rfl, h2, H⟩
        have hdrop : p.2.drop i = f :: p.2.drop (i + 1) := by
          obtain ⟨ha, hb⟩ := List.getElem?_eq_some_iff.1 hf
          rw [List.drop_eq_getElem_cons ha, hb]
        rw [hdrop] at hr
        refine ⟨_, rfl, s_asU (s_req rfl (s_asT (s_asI (s_ite (fun g3 => ?_) (fun g3 => ?_)))))⟩
        · have g3 : (fieldR x' f).2 ≠ 0 := by simpa using g3
          rw [runF, if_pos g3] at hr
          exact s_ret ⟨by rw [← hr], H.base⟩
        · have g3 : (fieldR x' f).2 = 0 := by simpa using g3
          rw [runF, if_neg (by simpa using g3)] at hr
          (refine h_new H fun n140 u H => ?_)
          have hrd : Reads u ⟨n140, 0, none⟩ (strs [(fieldR x' f).1]) := (H.cells (by repeat (first | exact pick_head | apply pick_tail | apply pick_app))).reads
          refine h_app (j := 1) (news := strs [(fieldR x' f).1]) elemS H (by repeat (first | exact cut_head | exact cut_all | apply cut_tail | apply cut_app)) ho rfl hrd (by intro u hu; simp [strs, sr] at hu; subst hu; rfl) (by omega) (by omega) ?_
          intro v3 c' u ho' H _
          obtain ⟨o', cap', rfl⟩ := ho'.slice
          rw [← strs_append] at ho'
          refine s_asS (s_next (by first | exact ⟨rfl, rfl⟩ | trivial) ?_)
          simp (config := { decide := true }) only [if_true, if_false]
          refine ⟨⟨i + 1, _, c', zf x' f, v2, ws ++ [(fieldR x' f).1], by rw [w_succ (by omega)], by omega, by simp; omega, ?_, hr, zfOk hx' hff, h2, ho', H.sub (by repeat (first | exact sb_refl | exact sb_nil | refine sb_cons (by repeat (first | exact pick_head | apply pick_tail | apply pick_app)) ?_ | refine sb_app (by repeat (first | exact cut_head | exact cut_all | apply cut_tail | apply cut_app)) ?_ | exact sb_one (by repeat (first | exact cut_head | exact cut_all | apply cut_tail | apply cut_app))))⟩, by rw [w_succ (by omega)]; simp [intOf] <;> omega⟩
          intro y hy
          rcases List.mem_append.1 hy with hy | hy
          · exact hws y hy
          · simp at hy
            subst hy
            exact fieldR_len hx' hff
      · simp only [decide_eq_false_iff_not] at g1
        obtain rfl : i = p.2.length := by omega
        rw [List.drop_length, runF] at hr
        iterate 5 refine h_ldI H (b := n26) (by repeat (first | exact pick_head | apply pick_tail | apply pick_app)) rfl ?_
        iterate 5 refine h_ldS H (b := n26) (by repeat (first | exact pick_head | apply pick_tail | apply pick_app)) rfl ?_
        iterate 6 refine h_ldI H (b := n26) (by repeat (first | exact pick_head | apply pick_tail | apply pick_app)) rfl ?_
        refine s_call (none_c (x := x') (v := v') hx') ?_
        rintro _ u ⟨rfl, f⟩
        have H := H.fr0 f
        refine ⟨_, rfl, s_asB (s_ite (fun g2 => ?_) (fun g2 => ?_))⟩
        · have g2 : isNone x' = false := by simpa using g2
          rw [g2, if_neg (by simp)] at hr
          exact s_ret ⟨by rw [← hr], H.base⟩
        · have g2 : isNone x' = true := by simpa using g2
          rw [g2, if_pos rfl] at hr
          have hl := joinL_le hws
          have hne : ws ≠ [] := by
            intro e
            rw [e] at hwl
            simp at hwl
            omega
          refine s_call (join_c (l := ws) (strsAt_own ho H (by repeat (first | exact cut_head | exact cut_all | apply cut_tail | apply cut_app))) hwl.symm (ownCap ho) hne (by omega) (by rw [hwl] at hl; omega)) ?_
          rintro _ u ⟨rfl, f⟩
          exact ⟨_, rfl, s_asT (s_ret ⟨by rw [← hr], H.base.trans f⟩)⟩
  · refine h_ldI H (by repeat (first | exact pick_head | apply pick_tail | apply pick_app)) rfl (s_ite (fun g => ?_) (fun g => ?_))
    · simp only [decide_eq_true_eq] at g
      exact s_ret ⟨by rw [stepR, if_pos (.inl g)], H.base⟩
    · simp only [decide_eq_false_iff_not] at g
      refine h_ldI H (by repeat (first | exact pick_head | apply pick_tail | apply pick_app)) rfl (s_ite (fun g2 => ?_) (fun g2 => ?_))
      · simp only [decide_eq_true_eq] at g2
        exact s_ret ⟨by rw [stepR, if_pos (.inr g2)], H.base⟩
      · simp only [decide_eq_false_iff_not] at g2
        exact s_next ⟨rfl, rfl⟩ ⟨rfl, by omega, by omega, H⟩
end
end Go.Proofs.YtihipcofjpnfbaaGreatDoor
