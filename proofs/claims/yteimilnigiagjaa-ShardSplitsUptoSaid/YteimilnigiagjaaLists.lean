/- ShardLists: digests, and the law's walk. -/
import Derived.Test.YteimilnigiagjaaPairsM
import Derived.Test.YteimilnigiagjaaTreesI
set_option linter.unusedVariables false
set_option linter.unusedSimpArgs false
set_option maxRecDepth 100000
set_option maxHeartbeats 1000000
namespace Go.Proofs.Yteimilnigiagjaa
open Go hiding Expr
open Go.RowKit Tr

def digI (l : List PR) : Int := l.foldl (fun x p => mixI (IntKind.wrap .u64 (IntKind.wrap .u64 (mixI (IntKind.wrap .u64 (x + hashI p.k)) + IntKind.wrap .u64 p.v) + 1))) 0
theorem digI_snoc (l : List PR) (p : PR) : digI (l ++ [p]) = mixI (IntKind.wrap .u64 (IntKind.wrap .u64 (mixI (IntKind.wrap .u64 (digI l + hashI p.k)) + IntKind.wrap .u64 p.v) + 1)) := by
  unfold digI
  rw [List.foldl_append, List.foldl_cons, List.foldl_nil]

section
variable {w : World} {o : Option Addr} {l : List PR}
theorem digest_c {n cap : Nat} (h : PairsAt w o l) (hin : ∀ p ∈ l, InK p.k) (hn : n = l.length) (hsz : l.length * 24 ≤ 140737488355328) : Calls Try.prog 29 #[.slice o n cap] w fun e w' =>
    ∃ out, IsPairs l out ∧ e = .returned (.int .u64 (digI out)) ∧ Fr [] w w' := by
  apply c29
  refine s_call (pairs_c h hin hn hsz) ?_
  rintro _ u ⟨out, v, c, hP, rfl, ho, H⟩
  obtain ⟨ov, cv, rfl⟩ := ho.slice
  have hol := hP.len
  refine ⟨_, rfl, s_asS (s_loop (fun vs W => ∃ i : Nat, vs = [.int .u64 (digI (out.take i)), .int .i64 i] ∧ i ≤ out.length ∧ Has w W c) (fun vs _ => out.length - (intOf (vs.getD 1 undef)).toNat) ⟨0, rfl, by omega, H⟩ ?_)⟩
  rintro _ j W ⟨i, rfl, hi, H⟩
  refine s_asI (s_asI (s_ite (fun g1 => ?_) (fun g1 => ?_)))
  · simp only [decide_eq_true_eq] at g1
    have hlt : i < out.length := by omega
    obtain ⟨x, hx⟩ : ∃ x, out[i]? = some x := ⟨_, List.getElem?_eq_getElem hlt⟩
    obtain ⟨g2, off, rfl, p1, p2, p3⟩ := (pairsAt_own ho H (by repeat (first | exact cut_head | exact cut_all | apply cut_tail | apply cut_app))).get hx
    refine s_req ⟨by omega, by omega⟩ (s_sm (s_loadI p1 (s_loadI p2 (s_loadI p3 ?_))))
    (refine h_new H fun n16 u H => ?_)
    (repeat (first | refine s_asI ?_ | refine s_asS ?_ | refine s_asP ?_ | refine s_asB ?_ | refine s_asA ?_ | refine s_asT ?_ | refine s_asM ?_ | refine s_asU ?_ | refine s_asC ?_ | refine s_sm ?_ | refine s_req (by first | rfl | exact ⟨rfl, rfl⟩) ?_ | refine h_ldI H (by repeat (first | exact pick_head | apply pick_tail | apply pick_app)) (by first | rfl | (simp; done)) ?_ | refine h_ldB H (by repeat (first | exact pick_head | apply pick_tail | apply pick_app)) (by first | rfl | (simp; done)) ?_ | refine h_ldP H (by repeat (first | exact pick_head | apply pick_tail | apply pick_app)) (by first | rfl | (simp; done)) ?_ | refine h_ldS H (by repeat (first | exact pick_head | apply pick_tail | apply pick_app)) (by first | rfl | (simp; done)) ?_ | refine h_ldM H (by repeat (first | exact pick_head | apply pick_tail | apply pick_app)) (by first | rfl | (simp; done)) ?_ | refine h_ldT H (by repeat (first | exact pick_head | apply pick_tail | apply pick_app)) (by first | rfl | (simp; done)) ?_ | refine h_ldV H (by repeat (first | exact pick_head | apply pick_tail | apply pick_app)) (by first | rfl | (simp; done)) ?_ | (refine h_st H (by repeat (first | exact pick_head | apply pick_tail | apply pick_app)) (by first | (simp; done) | exact Nat.le_of_ble_eq_true rfl) rfl fun u H => ?_) | (refine h_drew H fun u H => ?_) | refine s_chk c_nil ?_))
    refine s_call (hash_c x.k) ?_
    rintro _ u ⟨rfl, f⟩
    have H := H.fr0 f
    refine ⟨_, rfl, s_asI (s_call (mix_c _) ?_)⟩
    rintro _ _ ⟨rfl, rfl⟩
    refine ⟨_, rfl, s_asI (h_ldI H (by repeat (first | exact pick_head | apply pick_tail | apply pick_app)) rfl (s_call (mix_c _) ?_))⟩
    rintro _ _ ⟨rfl, rfl⟩
    refine ⟨_, rfl, s_asI (s_next (by first | exact ⟨rfl, rfl⟩ | trivial) ?_)⟩
    simp only [if_true]
    refine ⟨⟨i + 1, ?_, by omega, H.sub (by repeat (first | exact sb_refl | exact sb_nil | refine sb_cons (by repeat (first | exact pick_head | apply pick_tail | apply pick_app)) ?_ | refine sb_app (by repeat (first | exact cut_head | exact cut_all | apply cut_tail | apply cut_app)) ?_ | exact sb_one (by repeat (first | exact cut_head | exact cut_all | apply cut_tail | apply cut_app))))⟩, by rw [w_succ (by omega)]; simp [intOf] <;> omega⟩
    rw [w_succ (by omega), List.take_add_one, hx, Option.toList_some, digI_snoc]
  · simp only [decide_eq_false_iff_not] at g1
    rw [List.take_of_length_le (by omega)]
    exact s_ret ⟨out, hP, rfl, H.base⟩

theorem rdigest_c {n cap : Nat} (h : PairsAt w o l) (hn : n = l.length) (hsz : l.length * 24 ≤ 140737488355328) : Calls Try.prog 30 #[.slice o n cap] w fun e w' =>
    ∃ out, IsPairs l out ∧ e = .returned (.int .u64 (digI out)) ∧ Fr [] w w' := by
  apply c30
  refine s_call (rpairs_c h hn hsz) ?_
  rintro _ u ⟨out, v, c, hP, rfl, ho, H⟩
  obtain ⟨ov, cv, rfl⟩ := ho.slice
  have hol := hP.len
  refine ⟨_, rfl, s_asS (s_loop (fun vs W => ∃ i : Nat, vs = [.int .u64 (digI (out.take i)), .int .i64 i] ∧ i ≤ out.length ∧ Has w W c) (fun vs _ => out.length - (intOf (vs.getD 1 undef)).toNat) ⟨0, rfl, by omega, H⟩ ?_)⟩
  rintro _ j W ⟨i, rfl, hi, H⟩
  refine s_asI (s_asI (s_ite (fun g1 => ?_) (fun g1 => ?_)))
  · simp only [decide_eq_true_eq] at g1
    have hlt : i < out.length := by omega
    obtain ⟨x, hx⟩ : ∃ x, out[i]? = some x := ⟨_, List.getElem?_eq_getElem hlt⟩
    refine h_drew H fun u H => ?_
    obtain ⟨g2, off, rfl, p1, p2, p3⟩ := (pairsAt_own ho H (by repeat (first | exact cut_head | exact cut_all | apply cut_tail | apply cut_app))).get hx
    refine s_req ⟨by omega, by omega⟩ (s_sm (s_loadI p1 (s_loadI p2 (s_req ⟨by omega, by omega⟩ (s_sm (s_loadI p3 ?_))))))
    refine s_call (rhash_c x.k) ?_
    rintro _ u ⟨rfl, f⟩
    have H := H.fr0 f
    obtain ⟨p1, p2, p3⟩ := (pairsAt_own ho H (by repeat (first | exact cut_head | exact cut_all | apply cut_tail | apply cut_app))).at hx
    refine ⟨_, rfl, s_asI (s_chk ⟨p3, trivial⟩ (s_call (rmix_c _) ?_))⟩
    rintro _ _ ⟨rfl, rfl⟩
    refine ⟨_, rfl, s_asI (s_chk ⟨p3, trivial⟩ (s_call (rmix_c _) ?_))⟩
    rintro _ _ ⟨rfl, rfl⟩
    refine ⟨_, rfl, s_asI (s_chk ⟨p3, trivial⟩ (s_next (by first | exact ⟨rfl, rfl⟩ | trivial) ?_))⟩
    simp only [if_true]
    refine ⟨⟨i + 1, ?_, by omega, H⟩, by rw [w_succ (by omega)]; simp [intOf] <;> omega⟩
    rw [w_succ (by omega), List.take_add_one, hx, Option.toList_some, digI_snoc]
  · simp only [decide_eq_false_iff_not] at g1
    rw [List.take_of_length_le (by omega)]
    exact s_ret ⟨out, hP, rfl, H.base⟩

theorem lists_c {ok : Option Addr} {lk : List K} {nk ck n cap : Nat} (k : K) (hk : KeysAt w ok lk) (hnk : nk = lk.length) (hszk : lk.length * 16 ≤ 140737488355328) (h : PairsAt w o l) (hin : ∀ p ∈ l, InK p.k) (hn : n = l.length) (hsz : l.length * 24 ≤ 140737488355328) :
    Calls Try.prog 7 #[.slice ok nk ck, .slice o n cap, .agg ⟨kr k⟩] w fun e w' => e = .returned (.bool true) ∧ Fr [] w w' := by
  apply c7
  refine h_new (Has.init w) fun n8 u H => ?_
  refine h_drew H fun u H => s_call live_c ?_
  rintro _ u ⟨rfl, f⟩
  have H := H.fr0 f
  refine ⟨_, rfl, s_asB (s_chk c_nil (s_true rfl (s_call (keys_c (hk.fr0 H.base) hnk hszk) ?_)))⟩
  rintro _ u ⟨v1, c1, rfl, ho1, H1⟩
  have H := H.join H1
  obtain ⟨o1, cap1, rfl⟩ := ho1.slice
  refine ⟨_, rfl, s_asS (s_chk c_nil (s_call (rkeys_c (hk.fr0 H.base) hnk hszk) ?_))⟩
  rintro _ u ⟨v2, c2, rfl, ho2, H2⟩
  have H := H.join H2
  obtain ⟨o2, cap2, rfl⟩ := ho2.slice
  have hKl := KS_len lk
  refine ⟨_, rfl, s_asS (s_chk c_nil (s_call (same_keys_c (keysAt_own ho1 H (by repeat (first | exact cut_head | exact cut_all | apply cut_tail | apply cut_app))) (keysAt_own ho2 H (by repeat (first | exact cut_head | exact cut_all | apply cut_tail | apply cut_app))) rfl rfl (by omega)) ?_))⟩
  rintro _ u ⟨rfl, f⟩
  have H := H.fr0 f
  refine ⟨_, rfl, s_asB (s_chk c_nil (s_true (by simp) (s_call (pairs_c (h.fr0 H.base) hin hn hsz) ?_)))⟩
  rintro _ u ⟨out1, v3, c3, hP1, rfl, ho3, H3⟩
  have H := H.join H3
  obtain ⟨o3, cap3, rfl⟩ := ho3.slice
  refine ⟨_, rfl, s_asS (s_chk c_nil (s_call (rpairs_c (h.fr0 H.base) hn hsz) ?_))⟩
  rintro _ u ⟨out2, v4, c4, hP2, rfl, ho4, H4⟩
  have H := H.join H4
  obtain ⟨o4, cap4, rfl⟩ := ho4.slice
  obtain rfl := hP1.uniq hP2
  have hPl := hP1.len
  refine ⟨_, rfl, s_asS (s_chk c_nil (s_call (same_pairs_c (pairsAt_own ho3 H (by repeat (first | exact cut_head | exact cut_all | apply cut_tail | apply cut_app))) (pairsAt_own ho4 H (by repeat (first | exact cut_head | exact cut_all | apply cut_tail | apply cut_app))) rfl rfl (by omega)) ?_))⟩
  rintro _ u ⟨rfl, f⟩
  have H := H.fr0 f
  refine ⟨_, rfl, s_asB (s_chk c_nil (s_true (by simp) (h_ldI H (by repeat (first | exact pick_head | apply pick_tail | apply pick_app)) rfl (h_ldI H (by repeat (first | exact pick_head | apply pick_tail | apply pick_app)) rfl (h_ldI H (by repeat (first | exact pick_head | apply pick_tail | apply pick_app)) rfl (h_ldI H (by repeat (first | exact pick_head | apply pick_tail | apply pick_app)) rfl (s_call (has_c (hk.fr0 H.base) hnk (by omega) k) ?_)))))))⟩
  rintro _ u ⟨rfl, f⟩
  have H := H.fr0 f
  refine ⟨_, rfl, s_asB (s_chk (hc_cons H (by repeat (first | exact pick_head | apply pick_tail | apply pick_app)) rfl (hc_cons H (by repeat (first | exact pick_head | apply pick_tail | apply pick_app)) rfl c_nil)) (s_call (rhas_c (hk.fr0 H.base) hnk (by omega) k) ?_))⟩
  rintro _ u ⟨rfl, f⟩
  have H := H.fr0 f
  refine ⟨_, rfl, s_asB (s_chk c_nil (s_true (by simp) (s_call (digest_c (h.fr0 H.base) hin hn hsz) ?_)))⟩
  rintro _ u ⟨out3, hP3, rfl, f⟩
  have H := H.fr0 f
  refine ⟨_, rfl, s_asI (s_chk c_nil (s_call (rdigest_c (h.fr0 H.base) hn hsz) ?_))⟩
  rintro _ u ⟨out4, hP4, rfl, f⟩
  have H := H.fr0 f
  obtain rfl := hP3.uniq hP4
  exact ⟨_, rfl, s_asI (s_chk c_nil (s_ret ⟨by simp, H.base⟩))⟩
end
end Go.Proofs.Yteimilnigiagjaa
