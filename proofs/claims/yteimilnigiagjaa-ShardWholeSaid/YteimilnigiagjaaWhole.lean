/- ShardWhole's walk. -/
import Derived.Test.YteimilnigiagjaaSplit
set_option linter.unusedVariables false
set_option linter.unusedSimpArgs false
set_option maxRecDepth 100000
set_option maxHeartbeats 1000000
namespace Go.Proofs.Yteimilnigiagjaa
open Go hiding Expr
open Go.RowKit Tr

theorem mem_FP {parts : Int} {l : List K} {p : Nat} {x : K} : x ∈ FP parts (KS l) p ↔ x ∈ l ∧ partI x parts = (p : Int) := by
  unfold FP
  rw [List.mem_filter, KS_mem]
  simp

/-- How many of the lists ahead of p hold the key. -/
def inI (parts : Int) (l : List K) (k : K) (p : Nat) : Int := if k ∈ l ∧ partI k parts < (p : Int) then 1 else 0

section
variable {w : World} {o : Option Addr} {l : List K}
theorem KeysAt.at {g off : Nat} (h : KeysAt w (some ⟨g, off, none⟩) l) {i : Nat} {k : K} (hi : l[i]? = some k) : w.cell? ⟨g, off + i * 2, none⟩ = some (.int .i32 k.t) ∧ w.cell? ⟨g, off + i * 2 + 1, none⟩ = some (.int .i64 k.r) := by
  obtain ⟨_, _, he, h1, h2⟩ := h.get hi
  cases he
  exact ⟨h1, h2⟩

theorem whole_c (k : K) (parts : Int) {n cap : Nat} (h : KeysAt w o l) (hn : n = l.length) (hsz : l.length * 16 ≤ 140737488355328) : Calls Try.prog 6 #[.slice o n cap, .int .i64 parts, .agg ⟨kr k⟩] w fun e w' => e = .returned (.bool true) ∧ Fr [] w w' := by
  apply c6
  refine h_new (Has.init w) fun n6 u H => ?_
  have hm : 1 ≤ manyI parts ∧ manyI parts ≤ 8 := by unfold manyI; omega
  obtain ⟨M, hM⟩ := Int.eq_ofNat_of_zero_le (show 0 ≤ manyI parts by omega)
  have hMt : (manyI parts).toNat = M := by omega
  refine s_call (split_c parts (h.fr0 H.base) hn hsz) ?_
  rintro _ u ⟨g, vs, cs, rfl, hL, Hs⟩
  have H := H.join Hs
  rw [hMt] at hL ⊢
  refine ⟨_, rfl, s_asS ?_⟩
  obtain ⟨hr1, hr2⟩ := partI_range k parts
  refine s_loop (fun xs W => ∃ p : Nat, xs = [.int .i64 (inI parts l k p), .int .i64 p] ∧ p ≤ M ∧ Has w W (cl g 35 vs :: (cs.flatten ++ [cl n6 23 (kr k)])))
    (fun xs _ => M - (intOf (xs.getD 1 undef)).toNat) ⟨0, ?_, by omega, H.sub (by repeat (first | exact sb_refl | exact sb_nil | refine sb_cons (by repeat (first | exact pick_head | apply pick_tail | apply pick_app)) ?_ | refine sb_app (by repeat (first | exact cut_head | exact cut_all | apply cut_tail | apply cut_app)) ?_ | exact sb_one (by repeat (first | exact cut_head | exact cut_all | apply cut_tail | apply cut_app))))⟩ ?_
  · unfold inI
    rw [if_neg (by omega)]
    rfl
  rintro _ j W ⟨p, rfl, hp, H⟩
  refine s_asI (s_asI (s_ite (fun g1 => ?_) (fun g1 => ?_)))
  · simp only [decide_eq_true_eq] at g1
    have hpM : p < M := by omega
    obtain ⟨v, c, hv, hc, hoc⟩ := hL.2.2 p hpM
    obtain ⟨ov, capv, rfl⟩ := hoc.slice
    have hcell : vs[0 + Int.toNat (p : Int) * 1]? = some (.slice ov (FP parts (KS l) p).length capv) := by rw [Int.toNat_natCast, Nat.zero_add, Nat.mul_one]; exact hv
    refine s_req ⟨by omega, g1⟩ (s_sm (h_ldS H (by repeat (first | exact pick_head | apply pick_tail | apply pick_app)) hcell ?_))
    have hfl := FP_len parts (KS l) p
    have hKl := KS_len l
    refine s_loop (fun xs W => ∃ i : Nat, xs = [.int .i64 i] ∧ i ≤ (FP parts (KS l) p).length ∧ Has w W (cl g 35 vs :: (cs.flatten ++ [cl n6 23 (kr k)])))
      (fun xs _ => (FP parts (KS l) p).length - (intOf (xs.getD 0 undef)).toNat) ⟨0, rfl, by omega, H⟩ ?_
    rintro _ j2 W2 ⟨i, rfl, hi, H⟩
    refine s_asI (s_ite (fun g2 => ?_) (fun g2 => ?_))
    · simp only [decide_eq_true_eq] at g2
      have hlt : i < (FP parts (KS l) p).length := by omega
      obtain ⟨x, hx⟩ : ∃ x, (FP parts (KS l) p)[i]? = some x := ⟨_, List.getElem?_eq_getElem hlt⟩
      obtain ⟨hxl, hxp⟩ := mem_FP.1 (List.mem_of_getElem? hx)
      have hcut : Cut c (cl g 35 vs :: (cs.flatten ++ [cl n6 23 (kr k)])) (cl g 35 vs :: ((cs.set p []).flatten ++ [cl n6 23 (kr k)])) := cut_tail (cut_app' (cut_flat hc))
      have hK := keysAt_own hoc H hcut
      obtain ⟨g3, off, rfl, _, _⟩ := hK.get hx
      refine h_drew H fun u H => ?_
      obtain ⟨p1, p2⟩ := (keysAt_own hoc H hcut).at hx
      refine s_req ⟨by omega, g2⟩ (s_sm (s_loadI p1 (s_loadI p2 ?_)))
      refine s_call (part_k_c x parts) ?_
      rintro _ u ⟨rfl, f⟩
      have H := H.fr0 f
      refine ⟨_, rfl, s_asI (s_chk c_nil (s_false (by simp [hxp]) (s_ite (fun g3 => ?_) (fun g3 => s_chk c_nil ?_))))⟩
      · simp only [decide_eq_true_eq] at g3
        rw [w_pred (by omega) (by omega)]
        obtain ⟨y, hy⟩ : ∃ y, (FP parts (KS l) p)[i - 1]? = some y := ⟨_, List.getElem?_eq_getElem (by omega)⟩
        have hlty : ltK y x = true := by
          have hR := List.pairwise_iff_getElem.1 (FP_rising (parts := parts) (KS_rising l) p) (i - 1) i (by omega) hlt (by omega)
          rw [List.getElem?_eq_getElem (by omega)] at hx hy
          cases hx; cases hy
          exact hR
        have hcmp : cmpK y x < 0 := by simpa [ltK] using hlty
        obtain ⟨p1, p2⟩ := (keysAt_own hoc H hcut).at hy
        refine s_req ⟨by omega, by omega⟩ (s_sm (s_loadI p1 (s_loadI p2 ?_)))
        obtain ⟨p1, p2⟩ := (keysAt_own hoc H hcut).at hx
        refine s_req ⟨by omega, g2⟩ (s_sm (s_loadI p1 (s_loadI p2 ?_)))
        refine s_call (cmpK_c y x) ?_
        rintro _ u ⟨rfl, f⟩
        have H := H.fr0 f
        refine ⟨_, rfl, s_asI (s_chk c_nil (s_false (decide_eq_false (by omega)) ?_))⟩
        obtain ⟨p1, p2⟩ := (keysAt_own hoc H hcut).at hx
        refine s_req ⟨by omega, g2⟩ (s_sm (s_loadI p1 (s_loadI p2 ?_)))
        refine s_call (has_c (h.fr0 H.base) hn (by omega) x) ?_
        rintro _ u ⟨rfl, f⟩
        have H := H.fr0 f
        refine ⟨_, rfl, s_asB (s_chk c_nil (s_false (by simp [hxl]) (s_next (by first | exact ⟨rfl, rfl⟩ | trivial) ?_)))⟩
        simp (config := { decide := true }) only [if_true, if_false]
        exact ⟨⟨i + 1, by rw [w_succ (by omega)], by omega, H⟩, by rw [w_succ (by omega)]; simp [intOf] <;> omega⟩
      · skip
        obtain ⟨p1, p2⟩ := (keysAt_own hoc H hcut).at hx
        refine s_req ⟨by omega, g2⟩ (s_sm (s_loadI p1 (s_loadI p2 ?_)))
        refine s_call (has_c (h.fr0 H.base) hn (by omega) x) ?_
        rintro _ u ⟨rfl, f⟩
        have H := H.fr0 f
        refine ⟨_, rfl, s_asB (s_chk c_nil (s_false (by simp [hxl]) (s_next (by first | exact ⟨rfl, rfl⟩ | trivial) ?_)))⟩
        simp (config := { decide := true }) only [if_true, if_false]
        exact ⟨⟨i + 1, by rw [w_succ (by omega)], by omega, H⟩, by rw [w_succ (by omega)]; simp [intOf] <;> omega⟩
    · refine h_ldI H (by repeat (first | exact pick_head | apply pick_tail | apply pick_app)) rfl (h_ldI H (by repeat (first | exact pick_head | apply pick_tail | apply pick_app)) rfl ?_)
      refine s_call (has_c (keysAt_own hoc H (cut_tail (cut_app' (cut_flat hc)))) rfl (by omega) k) ?_
      rintro _ u ⟨rfl, f⟩
      have H := H.fr0 f
      refine ⟨_, rfl, s_asB (s_ite (fun g3 => s_next (by first | exact ⟨rfl, rfl⟩ | trivial) ?_) (fun g3 => s_next (by first | exact ⟨rfl, rfl⟩ | trivial) ?_))⟩
      all_goals
        simp (config := { decide := true }) only [if_true, if_false]
        simp only [decide_eq_true_eq, decide_eq_false_iff_not, mem_FP] at g3
      · refine ⟨⟨p + 1, ?_, by omega, H⟩, by rw [w_succ (by omega)]; simp [intOf] <;> omega⟩
        rw [w_succ (by omega)]
        have h1 : inI parts l k p = 0 := by unfold inI; rw [if_neg (by omega)]
        have h2 : inI parts l k (p + 1) = 1 := by unfold inI; rw [if_pos ⟨g3.1, by omega⟩]
        rw [h1, h2]
        rfl
      · refine ⟨⟨p + 1, ?_, by omega, H⟩, by rw [w_succ (by omega)]; simp [intOf] <;> omega⟩
        rw [w_succ (by omega)]
        have h1 : inI parts l k (p + 1) = inI parts l k p := by
          unfold inI
          by_cases hk : k ∈ l
          · have : partI k parts ≠ (p : Int) := fun e => g3 ⟨hk, e⟩
            simp only [hk, true_and]
            by_cases h2 : partI k parts < (p : Int)
            · rw [if_pos h2, if_pos (by omega)]
            · rw [if_neg h2, if_neg (by omega)]
          · simp [hk]
        rw [h1]
  · simp only [decide_eq_false_iff_not] at g1
    have hpM : p = M := by omega
    subst hpM
    refine h_ldI H (by repeat (first | exact pick_head | apply pick_tail | apply pick_app)) rfl (h_ldI H (by repeat (first | exact pick_head | apply pick_tail | apply pick_app)) rfl ?_)
    refine s_call (part_k_c k parts) ?_
    rintro _ u ⟨rfl, f⟩
    have H := H.fr0 f
    refine ⟨_, rfl, s_asI (s_call live_c ?_)⟩
    rintro _ u ⟨rfl, f⟩
    have H := H.fr0 f
    refine ⟨_, rfl, s_asB (s_true rfl (h_ldI H (by repeat (first | exact pick_head | apply pick_tail | apply pick_app)) rfl (h_ldI H (by repeat (first | exact pick_head | apply pick_tail | apply pick_app)) rfl ?_)))⟩
    refine s_call (has_c (h.fr0 H.base) hn (by omega) k) ?_
    rintro _ u ⟨rfl, f⟩
    have H := H.fr0 f
    have hin : inI parts l k p = if k ∈ l then 1 else 0 := by
      unfold inI
      by_cases hk : k ∈ l
      · rw [if_pos ⟨hk, by omega⟩, if_pos hk]
      · rw [if_neg (fun e => hk e.1), if_neg hk]
    rw [hin]
    refine ⟨_, rfl, s_asB (s_true (by by_cases hk : k ∈ l <;> simp [hk]) (s_true (by by_cases hk : k ∈ l <;> simp [hk]) (s_true (by simpa using hr1) (s_true (by rw [decide_eq_true_eq]; omega) (s_ret ⟨?_, H.base⟩)))))⟩
    rw [decide_eq_true (by omega)]
end
end Go.Proofs.Yteimilnigiagjaa
