/- The walks of RowsFull and RowsOwn. -/
import Derived.Test.YtcmdbaafnbdpbaaFullW
set_option linter.unusedVariables false
set_option linter.unusedSimpArgs false
set_option maxRecDepth 100000
set_option maxHeartbeats 2000000
namespace Go.Proofs.Ytcmdbaafnbdpbaa
open Go hiding Expr
open Go.RowKit Tr

/-- The first k of sessions that follow each other, one request each. -/
def FF' (f : Int) (r : Res) (k : Nat) : List Rw := (List.range k).map (fun j : Nat => (⟨f + (j : Int), 1, r⟩ : Rw))
theorem FF_len (f : Int) (r : Res) (k : Nat) : (FF' f r k).length = k := by simp [FF']
theorem FF_get {f : Int} {r : Res} {k i : Nat} (h : i < k) : (FF' f r k)[i]? = some ⟨f + (i : Int), 1, r⟩ := by simp [FF', h]
theorem FF_keys {f : Int} {r : Res} {k i : Nat} (h : i < k) : ((FF' f r k).map (·.s))[i]? = some (f + (i : Int)) := by rw [List.getElem?_map, FF_get h]; rfl
theorem FF_pos (f : Int) (r : Res) (k : Nat) : posR (FF' f r k) (f + (k : Int)) = k := by
  symm
  refine cutI_of (by rw [List.length_map, FF_len]; omega) (fun j a hj ha => ?_) (fun a ha => ?_)
  · rw [FF_keys hj] at ha
    cases ha
    omega
  · rw [List.getElem?_eq_none (by rw [List.length_map, FF_len]; omega)] at ha
    cases ha
theorem FF_has (f : Int) (r : Res) (k : Nat) : hasR (FF' f r k) (f + (k : Int)) = false := by
  unfold hasR
  rw [FF_pos, List.getElem?_eq_none (by rw [List.length_map, FF_len]; omega)]
  rfl
theorem FF_set (f : Int) (r : Res) (k : Nat) : setR (FF' f r k) ⟨f + (k : Int), 1, r⟩ = FF' f r (k + 1) := by
  unfold setR
  have e1 : (⟨f + (k : Int), 1, r⟩ : Rw).s = f + (k : Int) := rfl
  rw [e1, FF_has, FF_pos, if_neg (by simp), List.take_of_length_le (by rw [FF_len]; omega), List.drop_eq_nil_of_le (by rw [FF_len]; omega), List.append_nil]
  simp [FF', List.range_succ]
theorem FF_up (f : Int) (r : Res) (k : Nat) : Up (FF' f r k) := by
  unfold Up UpI FF'
  rw [List.map_map, List.pairwise_map]
  exact List.pairwise_lt_range.imp (fun h => by show f + _ < f + _; omega)
theorem FF_inv {f : Int} {r : Res} {k : Nat} (hk : k ≤ 64) (h1 : 1 ≤ f) (h2 : f ≤ 1099511627712) (hr : r.vals.length * 8 ≤ 140737488355328) : InvR (FF' f r k) := by
  refine ⟨FF_up f r k, by rw [FF_len]; exact hk, fun x hx => ?_⟩
  obtain ⟨j, hj, rfl⟩ := List.mem_map.1 hx
  have := List.mem_range.1 hj
  exact ⟨by simp only; omega, by simp only; omega, by simp, by simp, hr⟩
theorem outI_ok {n : Int} (h1 : 1 ≤ n) (h2 : n ≤ 1099511627776) : outI n = false := by
  simp only [outI, Bool.or_eq_false_iff, decide_eq_false_iff_not]
  omega
theorem FF_kind {f : Int} {r : Res} {k : Nat} (h1 : 1 ≤ f) (h2 : f + (k : Int) ≤ 1099511627776) : kindI (FF' f r k) (f + (k : Int)) 1 = if k = 64 then 5 else 1 := by
  unfold kindI
  rw [outI_ok (by omega) h2, outI_ok (n := 1) (by omega) (by omega), if_neg (by simp), lookR_none.2 (FF_has f r k)]
  simp only [FF_len, if_true]
theorem FF_look {f : Int} {r : Res} {k : Nat} (hk : 0 < k) : lookR (FF' f r k) f = some ⟨f, 1, r⟩ := by
  refine (lookR_mem (FF_up f r k)).2 ⟨?_, rfl⟩
  refine List.mem_map.2 ⟨0, List.mem_range.2 hk, ?_⟩
  simp

section
variable {w w' w0 : World} {o : Option Addr} {vals : List Int} {n cap : Nat}
theorem full_c {f e slot place : Int} (hf : inI f) (hv : ValsAt w o vals) (hn : n = vals.length) (hsz : vals.length * 8 ≤ 140737488355328) :
    Calls Try.prog 4 #[.int .i64 f, .agg ⟨resL e o n cap slot place⟩] w fun en w' => en = .returned (.bool true) ∧ Fr [] w w' := by
  apply c4
  refine h_new (Has.init w) fun n7 u H => ?_
  refine s_call (new_c H) ?_
  rintro _ u ⟨p, c, rfl, hT, H⟩
  refine ⟨_, rfl, s_asP ?_⟩
  refine h_blk (fun _ => True) H (s_false rfl (s_call live_c ?_)) ?_
  · rintro _ u ⟨rfl, f⟩
    have H := H.fr0 f
    refine ⟨_, rfl, s_asB (s_false rfl (s_next (by simp) ?_))⟩
    simp only [if_true]
    exact ⟨H, trivial⟩
  rintro _ _ W H _
  refine h_blk (fun _ => 1 ≤ f ∧ f ≤ 1099511627712) H (s_ite (fun g => s_ret ⟨rfl, H.base⟩) (fun g => s_ite (fun g' => s_ret ⟨rfl, H.base⟩) (fun g' => s_next (by simp) ?_))) ?_
  · simp only [decide_eq_false_iff_not] at g g'
    simp only [if_true]
    exact ⟨H, by omega, by omega⟩
  rintro _ _ W H ⟨hf1, hf2⟩
  have hr : (⟨e, vals, slot, place⟩ : Res).vals.length * 8 ≤ 140737488355328 := hsz
  refine s_loop (fun vs W => ∃ (k : Nat) (c : Hp), vs = [.int .i64 k] ∧ k ≤ 64 ∧ Tab p (FF' f ⟨e, vals, slot, place⟩ k) c ∧ Has w W (c ++ [cl n7 30 (resL e o n cap slot place)])) (fun vs _ => 64 - (intOf (vs.getD 0 undef)).toNat) ⟨0, c, rfl, by omega, hT, H⟩ ?_
  rintro _ j W ⟨k, c, rfl, hk, hT, H⟩
  have hI := FF_inv (r := ⟨e, vals, slot, place⟩) hk hf1 hf2 hr
  have i1 : inI 1 := ⟨by decide, by decide⟩
  have i2 : inI 2 := ⟨by decide, by decide⟩
  refine s_asI (s_ite (fun g1 => ?_) (fun g1 => ?_))
  · simp only [decide_eq_true_eq] at g1
    refine h_ldI H (by repeat (first | exact pick_head | apply pick_tail | apply pick_app)) rfl (h_ldS H (by repeat (first | exact pick_head | apply pick_tail | apply pick_app)) rfl (h_ldI H (by repeat (first | exact pick_head | apply pick_tail | apply pick_app)) rfl (h_ldI H (by repeat (first | exact pick_head | apply pick_tail | apply pick_app)) rfl ?_)))
    rw [wrapI (n := f + (k : Int)) (by omega) (by omega)]
    have hki := FF_kind (r := ⟨e, vals, slot, place⟩) (k := k) hf1 (by omega)
    rw [if_neg (by omega)] at hki
    refine s_call (put_c (e := e) (slot := slot) (place := place) H hT hI ⟨by omega, by omega⟩ i1 (fun u H => hv.fr0 H.base) hn hsz) ?_
    rintro _ u ⟨c', rfl, hT', H⟩
    rw [hki]
    refine ⟨_, rfl, s_asI (s_false rfl (s_next (by first | exact ⟨rfl, rfl⟩ | trivial) ?_))⟩
    simp (config := { decide := true }) only [if_true, if_false]
    refine ⟨⟨k + 1, c', by rw [w_succ (by omega)], by omega, ?_, H⟩, by rw [w_succ (by omega)]; simp [intOf] <;> omega⟩
    unfold putR at hT'
    rw [if_pos hki, FF_set] at hT'
    exact hT'
  · simp only [decide_eq_false_iff_not] at g1
    obtain rfl : k = 64 := by omega
    rw [wrapI (n := f + 64) (by omega) (by omega)]
    have hki := FF_kind (r := ⟨e, vals, slot, place⟩) (k := 64) hf1 (by omega)
    rw [if_pos rfl] at hki
    have hki : kindI (FF' f ⟨e, vals, slot, place⟩ 64) (f + 64) 1 = 5 := hki
    refine s_call (ask_c H hT hI ⟨by omega, by omega⟩ i1) ?_
    rintro _ u ⟨o1, cap1, c1, rfl, ho1, H⟩
    rw [hki]
    refine ⟨_, rfl, s_asU (s_req rfl (s_asA (s_req rfl (s_asI (s_asS (s_asI (s_asI (s_asI ?_))))))))⟩
    (refine h_new H fun n35 u H => ?_)
    iterate 4 refine h_st H (by repeat (first | exact pick_head | apply pick_tail | apply pick_app)) (by first | (simp; done) | exact Nat.le_of_ble_eq_true rfl) rfl fun u H => ?_
    have H : Has w u (c ++ [cl n7 30 (resL e o n cap slot place)]) := H.sub (by repeat (first | exact sb_refl | exact sb_nil | refine sb_cons (by repeat (first | exact pick_head | apply pick_tail | apply pick_app)) ?_ | refine sb_app (by repeat (first | exact cut_head | exact cut_all | apply cut_tail | apply cut_app)) ?_ | exact sb_one (by repeat (first | exact cut_head | exact cut_all | apply cut_tail | apply cut_app))))
    refine s_true rfl (h_ldI H (by repeat (first | exact pick_head | apply pick_tail | apply pick_app)) rfl (h_ldS H (by repeat (first | exact pick_head | apply pick_tail | apply pick_app)) rfl (h_ldI H (by repeat (first | exact pick_head | apply pick_tail | apply pick_app)) rfl (h_ldI H (by repeat (first | exact pick_head | apply pick_tail | apply pick_app)) rfl ?_))))
    refine s_call (put_c (e := e) (slot := slot) (place := place) H hT hI ⟨by omega, by omega⟩ i1 (fun u H => hv.fr0 H.base) hn hsz) ?_
    rintro _ u ⟨c2, rfl, hT2, H⟩
    rw [hki]
    have hT2 : Tab p (FF' f ⟨e, vals, slot, place⟩ 64) c2 := by
      unfold putR at hT2
      rw [if_neg (by rw [hki]; decide)] at hT2
      exact hT2
    refine ⟨_, rfl, s_asI (s_true rfl (h_ldI H (by repeat (first | exact pick_head | apply pick_tail | apply pick_app)) rfl (h_ldS H (by repeat (first | exact pick_head | apply pick_tail | apply pick_app)) rfl (h_ldI H (by repeat (first | exact pick_head | apply pick_tail | apply pick_app)) rfl (h_ldI H (by repeat (first | exact pick_head | apply pick_tail | apply pick_app)) rfl ?_)))))⟩
    have hk2 : kindI (FF' f ⟨e, vals, slot, place⟩ 64) f 2 = 1 := by
      unfold kindI
      rw [outI_ok hf1 (by omega), outI_ok (n := 2) (by omega) (by omega), if_neg (by simp), FF_look (by omega)]
      rfl
    refine s_call (put_c (e := e) (slot := slot) (place := place) H hT2 hI hf i2 (fun u H => hv.fr0 H.base) hn hsz) ?_
    rintro _ u ⟨c3, rfl, hT3, H⟩
    rw [hk2]
    refine ⟨_, rfl, s_asI (s_true rfl ?_)⟩
    refine s_call (len_c H hT3 (hI.put f 2 hr)) ?_
    rintro _ u ⟨rfl, H⟩
    refine ⟨_, rfl, s_asI (s_ret ⟨?_, H.base⟩)⟩
    unfold putR
    rw [if_pos hk2, setR_len]
    have : hasR (FF' f ⟨e, vals, slot, place⟩ 64) (⟨f, 2, ⟨e, vals, slot, place⟩⟩ : Rw).s = true := (lookR_some (FF_look (f := f) (r := ⟨e, vals, slot, place⟩) (k := 64) (by omega))).2.2
    rw [if_pos this, FF_len]
    rfl

theorem own_c {e slot place : Int} (hv : ValsAt w o vals) (hn : n = vals.length) (hsz : vals.length * 8 ≤ 140737488355328) :
    Calls Try.prog 5 #[.agg ⟨resL e o n cap slot place⟩] w fun en w' => en = .returned (.bool true) ∧ Fr [] w w' := by
  subst hn
  apply c5
  refine h_new (Has.init w) fun n6 u H => ?_
  refine s_call (new_c H) ?_
  rintro _ u ⟨p, c, rfl, hT, H⟩
  refine ⟨_, rfl, s_asP ?_⟩
  refine h_blk (fun _ => True) H (s_false rfl (s_call live_c ?_)) ?_
  · rintro _ u ⟨rfl, f⟩
    have H := H.fr0 f
    refine ⟨_, rfl, s_asB (s_false rfl (s_next (by simp) ?_))⟩
    simp only [if_true]
    exact ⟨H, trivial⟩
  rintro _ _ W H _
  iterate 1 refine h_ldI H (by repeat (first | exact pick_head | apply pick_tail | apply pick_app)) rfl ?_
  refine h_ldS H (by repeat (first | exact pick_head | apply pick_tail | apply pick_app)) rfl (h_ldI H (by repeat (first | exact pick_head | apply pick_tail | apply pick_app)) rfl (h_ldI H (by repeat (first | exact pick_head | apply pick_tail | apply pick_app)) rfl ?_))
  (refine h_new H fun n17 u H => ?_)
  iterate 4 refine h_st H (by repeat (first | exact pick_head | apply pick_tail | apply pick_app)) (by first | (simp; done) | exact Nat.le_of_ble_eq_true rfl) rfl fun u H => ?_
  refine h_ldS H (by repeat (first | exact pick_head | apply pick_tail | apply pick_app)) rfl ?_
  refine h_appAll elemI (by decide) H cut_nil OwnC.nil (ir1 vals) (ir_one vals) (hv.fr0 H.base) (by rw [List.length_map]) (by omega) (by omega) ?_
  intro v1 cv1 u ho1 H
  rw [Nat.zero_add, List.nil_append] at ho1
  obtain ⟨ov, cv, rfl⟩ := ho1.slice
  refine s_asS (h_st H (by repeat (first | exact pick_head | apply pick_tail | apply pick_app)) (by first | (simp; done) | exact Nat.le_of_ble_eq_true rfl) rfl fun u H => ?_)
  refine h_ldI H (by repeat (first | exact pick_head | apply pick_tail | apply pick_app)) rfl (h_ldS H (by repeat (first | exact pick_head | apply pick_tail | apply pick_app)) rfl (h_ldI H (by repeat (first | exact pick_head | apply pick_tail | apply pick_app)) rfl (h_ldI H (by repeat (first | exact pick_head | apply pick_tail | apply pick_app)) rfl ?_)))
  have i1 : inI 1 := ⟨by decide, by decide⟩
  have I0 := InvR.nil
  have hov : OwnC 2 1 (.slice ov vals.length cv) vals.length (ints vals) cv1 := ho1
  have k1 : kindI [] 1 1 = 1 := by decide
  refine s_call (put_c (e := e) (slot := slot) (place := place) (m := cv1 ++ (cl n17 30 (resL e ov vals.length cv slot place) :: [cl n6 30 (resL e o vals.length cap slot place)])) (H.sub (by repeat (first | exact sb_refl | exact sb_nil | refine sb_cons (by repeat (first | exact pick_head | apply pick_tail | apply pick_app)) ?_ | refine sb_app (by repeat (first | exact cut_head | exact cut_all | apply cut_tail | apply cut_app)) ?_ | exact sb_one (by repeat (first | exact cut_head | exact cut_all | apply cut_tail | apply cut_app))))) hT I0 i1 i1 (fun u H => valsAt_own hov H cut_head) rfl hsz) ?_
  rintro _ u ⟨c2, rfl, hT2, H⟩
  rw [k1]
  have hR : putR [] 1 1 ⟨e, vals, slot, place⟩ = [⟨1, 1, ⟨e, vals, slot, place⟩⟩] := by unfold putR; rw [if_pos k1]; rfl
  rw [hR] at hT2
  have I2 : InvR [⟨1, 1, ⟨e, vals, slot, place⟩⟩] := by rw [← hR]; exact I0.put 1 1 hsz
  refine ⟨_, rfl, s_asI (s_false rfl (h_ldS H (by repeat (first | exact pick_head | apply pick_tail | apply pick_app)) rfl ?_))⟩
  refine s_loop (fun xs W => ∃ (i : Nat) (ys : List Int) (cc : Hp), xs = [.int .i64 i] ∧ i ≤ vals.length ∧ ys.length = vals.length ∧ OwnC 2 1 (.slice ov vals.length cv) vals.length (ints ys) cc ∧ Has w W (cc ++ (cl n17 30 (resL e ov vals.length cv slot place) :: (c2 ++ [cl n6 30 (resL e o vals.length cap slot place)])))) (fun xs _ => vals.length - (intOf (xs.getD 0 undef)).toNat) ⟨0, vals, _, rfl, by omega, rfl, hov, H.sub (by repeat (first | exact sb_refl | exact sb_nil | refine sb_cons (by repeat (first | exact pick_head | apply pick_tail | apply pick_app)) ?_ | refine sb_app (by repeat (first | exact cut_head | exact cut_all | apply cut_tail | apply cut_app)) ?_ | exact sb_one (by repeat (first | exact cut_head | exact cut_all | apply cut_tail | apply cut_app))))⟩ ?_
  rintro _ j W ⟨i, ys, cc, rfl, hi, hyl, hov, H⟩
  refine s_asI (s_ite (fun g1 => ?_) (fun g1 => ?_))
  · simp only [decide_eq_true_eq] at g1
    have hlt : i < vals.length := by omega
    obtain ⟨y, hy⟩ : ∃ y, ys[i]? = some y := ⟨_, List.getElem?_eq_getElem (by omega)⟩
    refine h_ldS H (by repeat (first | exact pick_head | apply pick_tail | apply pick_app)) rfl ?_
    obtain ⟨g, off, rfl, p1⟩ := ValsAt.get (valsAt_own (n := vals.length) hov H cut_head) hy
    refine s_req ⟨by omega, by omega⟩ (s_sm (s_loadI p1 (s_req ⟨by omega, by omega⟩ (s_sm ?_))))
    refine h_stC (f := 0) H cut_head hov (by rw [ints_len]; simp only [Int.toNat_natCast]; omega) rfl fun c' u hov' H => s_next (by first | exact ⟨rfl, rfl⟩ | trivial) ?_
    simp (config := { decide := true }) only [if_true, if_false]
    refine ⟨⟨i + 1, ys.set i (IntKind.wrap .i64 (y + 1)), c', by rw [w_succ (by omega)], by omega, by rw [List.length_set]; exact hyl, ?_, H⟩, by rw [w_succ (by omega)]; simp [intOf] <;> omega⟩
    rw [ints_eq, List.map_set, ← ints_eq]
    simpa using hov'
  clear g1
  have H : Has w W (c2 ++ [cl n6 30 (resL e o vals.length cap slot place)]) := H.sub (by repeat (first | exact sb_refl | exact sb_nil | refine sb_cons (by repeat (first | exact pick_head | apply pick_tail | apply pick_app)) ?_ | refine sb_app (by repeat (first | exact cut_head | exact cut_all | apply cut_tail | apply cut_app)) ?_ | exact sb_one (by repeat (first | exact cut_head | exact cut_all | apply cut_tail | apply cut_app))))
  have e3 : kindI [⟨1, 1, ⟨e, vals, slot, place⟩⟩] 1 1 = 2 := by
    have hl : lookR [⟨1, 1, ⟨e, vals, slot, place⟩⟩] 1 = some ⟨1, 1, ⟨e, vals, slot, place⟩⟩ := (lookR_mem I2.up).2 ⟨by simp, rfl⟩
    unfold kindI
    rw [outI_ok (n := 1) (by omega) (by omega), if_neg (by simp), hl]
    rfl
  have a3 : ansR [⟨1, 1, ⟨e, vals, slot, place⟩⟩] 1 1 = ⟨e, vals, slot, place⟩ := by
    have hl : lookR [⟨1, 1, ⟨e, vals, slot, place⟩⟩] 1 = some ⟨1, 1, ⟨e, vals, slot, place⟩⟩ := (lookR_mem I2.up).2 ⟨by simp, rfl⟩
    unfold ansR
    rw [if_pos e3, hl]
    rfl
  refine s_call (ask_c H hT2 I2 i1 i1) ?_
  rintro _ u ⟨ov, cv, c3, rfl, hov, H⟩
  rw [a3] at hov ⊢
  rw [e3]
  refine ⟨_, rfl, s_asU (s_req rfl (s_asA (s_req rfl (s_asI (s_asS (s_asI (s_asI (s_asI ?_))))))))⟩
  (refine h_new H fun n57 u H => ?_)
  iterate 4 refine h_st H (by repeat (first | exact pick_head | apply pick_tail | apply pick_app)) (by first | (simp; done) | exact Nat.le_of_ble_eq_true rfl) rfl fun u H => ?_
  refine h_ldS H (by repeat (first | exact pick_head | apply pick_tail | apply pick_app)) rfl ?_
  refine s_loop (fun xs W => ∃ (i : Nat) (ys : List Int) (cc : Hp), xs = [.int .i64 i] ∧ i ≤ vals.length ∧ ys.length = vals.length ∧ OwnC 2 1 (.slice ov vals.length cv) vals.length (ints ys) cc ∧ Has w W (cc ++ (cl n57 30 (resL e ov vals.length cv slot place) :: (c2 ++ [cl n6 30 (resL e o vals.length cap slot place)])))) (fun xs _ => vals.length - (intOf (xs.getD 0 undef)).toNat) ⟨0, vals, _, rfl, by omega, rfl, hov, H.sub (by repeat (first | exact sb_refl | exact sb_nil | refine sb_cons (by repeat (first | exact pick_head | apply pick_tail | apply pick_app)) ?_ | refine sb_app (by repeat (first | exact cut_head | exact cut_all | apply cut_tail | apply cut_app)) ?_ | exact sb_one (by repeat (first | exact cut_head | exact cut_all | apply cut_tail | apply cut_app))))⟩ ?_
  rintro _ j W ⟨i, ys, cc, rfl, hi, hyl, hov, H⟩
  refine s_asI (s_ite (fun g1 => ?_) (fun g1 => ?_))
  · simp only [decide_eq_true_eq] at g1
    have hlt : i < vals.length := by omega
    obtain ⟨y, hy⟩ : ∃ y, ys[i]? = some y := ⟨_, List.getElem?_eq_getElem (by omega)⟩
    refine h_ldS H (by repeat (first | exact pick_head | apply pick_tail | apply pick_app)) rfl ?_
    obtain ⟨g, off, rfl, p1⟩ := ValsAt.get (valsAt_own (n := vals.length) hov H cut_head) hy
    refine s_req ⟨by omega, by omega⟩ (s_sm (s_loadI p1 (s_req ⟨by omega, by omega⟩ (s_sm ?_))))
    refine h_stC (f := 0) H cut_head hov (by rw [ints_len]; simp only [Int.toNat_natCast]; omega) rfl fun c' u hov' H => s_next (by first | exact ⟨rfl, rfl⟩ | trivial) ?_
    simp (config := { decide := true }) only [if_true, if_false]
    refine ⟨⟨i + 1, ys.set i (IntKind.wrap .i64 (y + 1)), c', by rw [w_succ (by omega)], by omega, by rw [List.length_set]; exact hyl, ?_, H⟩, by rw [w_succ (by omega)]; simp [intOf] <;> omega⟩
    rw [ints_eq, List.map_set, ← ints_eq]
    simpa using hov'
  clear g1
  have H : Has w W (c2 ++ [cl n6 30 (resL e o vals.length cap slot place)]) := H.sub (by repeat (first | exact sb_refl | exact sb_nil | refine sb_cons (by repeat (first | exact pick_head | apply pick_tail | apply pick_app)) ?_ | refine sb_app (by repeat (first | exact cut_head | exact cut_all | apply cut_tail | apply cut_app)) ?_ | exact sb_one (by repeat (first | exact cut_head | exact cut_all | apply cut_tail | apply cut_app))))
  refine s_call (ask_c H hT2 I2 i1 i1) ?_
  rintro _ u ⟨oy, cy, c4, rfl, hoy, H⟩
  rw [a3] at hoy ⊢
  rw [e3]
  refine ⟨_, rfl, s_asU (s_req rfl (s_asA (s_req rfl (s_asI (s_asS (s_asI (s_asI (s_asI ?_))))))))⟩
  (refine h_new H fun n82 u H => ?_)
  iterate 4 refine h_st H (by repeat (first | exact pick_head | apply pick_tail | apply pick_app)) (by first | (simp; done) | exact Nat.le_of_ble_eq_true rfl) rfl fun u H => ?_
  refine s_true rfl ?_
  iterate 1 refine h_ldI H (by repeat (first | exact pick_head | apply pick_tail | apply pick_app)) rfl ?_
  refine h_ldS H (by repeat (first | exact pick_head | apply pick_tail | apply pick_app)) rfl (h_ldI H (by repeat (first | exact pick_head | apply pick_tail | apply pick_app)) rfl (h_ldI H (by repeat (first | exact pick_head | apply pick_tail | apply pick_app)) rfl (h_ldI H (by repeat (first | exact pick_head | apply pick_tail | apply pick_app)) rfl (h_ldS H (by repeat (first | exact pick_head | apply pick_tail | apply pick_app)) rfl (h_ldI H (by repeat (first | exact pick_head | apply pick_tail | apply pick_app)) rfl (h_ldI H (by repeat (first | exact pick_head | apply pick_tail | apply pick_app)) rfl ?_))))))
  refine s_call (samer_c (valsAt_own (l := vals) hoy H (by repeat (first | exact cut_head | exact cut_all | apply cut_tail | apply cut_app))) (hv.fr0 H.base) rfl rfl (by omega)) ?_
  rintro _ u ⟨rfl, f⟩
  have H := H.fr0 f
  exact ⟨_, rfl, s_asB (s_ret ⟨by simp, H.base⟩)⟩
end
end Go.Proofs.Ytcmdbaafnbdpbaa
