/- Keys by partitions: the lists of lists. -/
import Derived.Test.YtndkffhlheaepaaKeysR
import Derived.Test.YtndkffhlheaepaaChunks
set_option linter.unusedVariables false
set_option linter.unusedSimpArgs false
set_option maxRecDepth 100000
namespace Go.Proofs.Ytndkffhlheaepaa
open Go hiding Expr
open Go.RowKit Tr

theorem elemLK : Elem Try.prog 72 37 (.slice none 0 0) 1 24 := ⟨by kernel_rfl, by kernel_rfl, rfl, by decide⟩

/-- The keys of partition p. -/
def FP (parts : Int) (l : List K) (p : Nat) : List K := l.filter (fun k => partI k parts == (p : Int))
theorem FP_snoc (parts : Int) (l : List K) (k : K) (p : Nat) : FP parts (l ++ [k]) p = FP parts l p ++ (if partI k parts = (p : Int) then [k] else []) := by
  unfold FP
  rw [List.filter_append]
  congr 1
  by_cases h : partI k parts = (p : Int) <;> simp [h]
theorem FP_rising {parts : Int} {l : List K} (h : Rising l) (p : Nat) : Rising (FP parts l p) := h.filter _
theorem FP_len (parts : Int) (l : List K) (p : Nat) : (FP parts l p).length ≤ l.length := List.length_filter_le _ _

/-- Lists of keys, each in a block of its own or nowhere. -/
def Lists (M : Nat) (F : Nat → List K) (vs : List Value) (cs : List Hp) : Prop :=
  vs.length = M ∧ cs.length = M ∧ ∀ p, p < M → ∃ v c, vs[p]? = some v ∧ cs[p]? = some c ∧ OwnC 50 2 v (F p).length (enc (F p)) c
theorem Lists.fit {M : Nat} {F : Nat → List K} {vs : List Value} {cs : List Hp} (h : Lists M F vs cs) (n : Nat) : Fit n cs.flatten := by
  intro q hq
  obtain ⟨c, hc, hq⟩ := List.mem_flatten.1 hq
  obtain ⟨i, hi, he⟩ := List.getElem_of_mem hc
  obtain ⟨v, c', h1, h2, h3⟩ := h.2.2 i (by rw [← h.2.1]; exact hi)
  rw [List.getElem?_eq_getElem hi, he] at h2
  cases h2
  exact h3.fit q hq

section
variable {w : World} {o : Option Addr} {l : List K}
theorem split_c (parts : Int) {n cap : Nat} (h : KeysAt w o l) (hn : n = l.length) (hsz : l.length * 16 ≤ 140737488355328) : Calls Try.prog 39 #[.int .i64 parts, .slice o n cap] w fun e w' =>
    ∃ g vs cs, e = .returned (.slice (some ⟨g, 0, none⟩) (manyI parts).toNat (manyI parts).toNat) ∧ Lists (manyI parts).toNat (FP parts (KS l)) vs cs ∧ Has w w' (cl g 37 vs :: cs.flatten) := by
  apply c39
  have hm : 1 ≤ manyI parts ∧ manyI parts ≤ 8 := by unfold manyI; omega
  refine s_call (many_c parts) ?_
  rintro _ _ ⟨rfl, rfl⟩
  refine ⟨_, rfl, s_asI ?_⟩
  obtain ⟨M, hM⟩ := Int.eq_ofNat_of_zero_le (show 0 ≤ manyI parts by omega)
  have hMt : (manyI parts).toNat = M := by omega
  rw [hMt]
  refine h_make elemLK (Has.init w) (by omega) (by omega) (by omega) fun g u H => ?_
  rw [made_one _ _ rfl, hMt] at H
  refine s_asS (s_call (keys_c (h.fr0 H.base) hn hsz) ?_)
  rintro _ u ⟨v, ck, rfl, hok, Hk⟩
  have H := H.join Hk
  obtain ⟨ok, capk, rfl⟩ := hok.slice
  refine ⟨_, rfl, s_asS ?_⟩
  have hKl := KS_len l
  have hinit : Lists M (FP parts []) (List.replicate M (.slice none 0 0)) (List.replicate M []) := by
    refine ⟨by simp, by simp, fun p hp => ⟨.slice none 0 0, [], by simp [hp], by simp [hp], ?_⟩⟩
    exact OwnC.nil
  refine s_loop (fun vs W => ∃ (i : Nat) (ls : List Value) (cs : List Hp), vs = [.int .i64 i] ∧ i ≤ (KS l).length ∧ Lists M (FP parts ((KS l).take i)) ls cs ∧ Has w W (cl g 37 ls :: (cs.flatten ++ ck)))
    (fun vs _ => (KS l).length - (intOf (vs.getD 0 undef)).toNat) ⟨0, _, _, rfl, by omega, hinit, ?_⟩ ?_
  · have : (List.replicate M ([] : Hp)).flatten = [] := by simp
    rw [this]
    exact H.sub (by repeat (first | exact sb_refl | exact sb_nil | refine sb_cons (by repeat (first | exact pick_head | apply pick_tail | apply pick_app)) ?_ | refine sb_app (by repeat (first | exact cut_head | exact cut_all | apply cut_tail | apply cut_app)) ?_ | exact sb_one (by repeat (first | exact cut_head | exact cut_all | apply cut_tail | apply cut_app))))
  rintro _ j W ⟨i, ls, cs, rfl, hi, hL, H⟩
  refine s_asI (s_ite (fun g1 => ?_) (fun g1 => ?_))
  · simp only [decide_eq_true_eq] at g1
    have hlt : i < (KS l).length := by omega
    have hx : (KS l)[i]? = some (KS l)[i] := List.getElem?_eq_getElem hlt
    obtain ⟨g2, off, rfl, p1, p2⟩ := (keysAt_own hok H (by repeat (first | exact cut_head | exact cut_all | apply cut_tail | apply cut_app))).get hx
    refine s_req ⟨by omega, g1⟩ (s_sm (s_loadI p1 (s_loadI p2 ?_)))
    (refine h_new H fun n21 u H => ?_)
    (repeat (first | refine s_asI ?_ | refine s_asS ?_ | refine s_asP ?_ | refine s_asB ?_ | refine s_asA ?_ | refine s_asT ?_ | refine s_asM ?_ | refine s_asU ?_ | refine s_asC ?_ | refine s_sm ?_ | refine s_req (by first | rfl | exact ⟨rfl, rfl⟩) ?_ | refine h_ldI H (by repeat (first | exact pick_head | apply pick_tail | apply pick_app)) (by first | rfl | (simp; done)) ?_ | refine h_ldB H (by repeat (first | exact pick_head | apply pick_tail | apply pick_app)) (by first | rfl | (simp; done)) ?_ | refine h_ldP H (by repeat (first | exact pick_head | apply pick_tail | apply pick_app)) (by first | rfl | (simp; done)) ?_ | refine h_ldS H (by repeat (first | exact pick_head | apply pick_tail | apply pick_app)) (by first | rfl | (simp; done)) ?_ | refine h_ldM H (by repeat (first | exact pick_head | apply pick_tail | apply pick_app)) (by first | rfl | (simp; done)) ?_ | refine h_ldT H (by repeat (first | exact pick_head | apply pick_tail | apply pick_app)) (by first | rfl | (simp; done)) ?_ | refine h_ldV H (by repeat (first | exact pick_head | apply pick_tail | apply pick_app)) (by first | rfl | (simp; done)) ?_ | (refine h_st H (by repeat (first | exact pick_head | apply pick_tail | apply pick_app)) (by first | (simp; done) | exact Nat.le_of_ble_eq_true rfl) rfl fun u H => ?_) | (refine h_drew H fun u H => ?_) | refine s_chk c_nil ?_))
    refine s_call (part_k_c (KS l)[i] parts) ?_
    rintro _ u ⟨rfl, f⟩
    have H := H.fr0 f
    obtain ⟨hr1, hr2⟩ := partI_range (KS l)[i] parts
    obtain ⟨p, hp⟩ := Int.eq_ofNat_of_zero_le hr1
    rw [hp]
    have hpM : p < M := by omega
    obtain ⟨v, c, hv, hc, hoc⟩ := hL.2.2 p hpM
    obtain ⟨ov, capv, rfl⟩ := hoc.slice
    have hcell : ls[0 + Int.toNat (p : Int) * 1]? = some (.slice ov (FP parts ((KS l).take i) p).length capv) := by rw [Int.toNat_natCast, Nat.zero_add, Nat.mul_one]; exact hv
    refine ⟨_, rfl, s_asI (h_drew H fun u H => s_req (by omega) (s_sm (h_ldS H (by repeat (first | exact pick_head | apply pick_tail | apply pick_app)) hcell ?_)))⟩
    refine h_ldI H (by repeat (first | exact pick_head | apply pick_tail | apply pick_app)) rfl (h_ldI H (by repeat (first | exact pick_head | apply pick_tail | apply pick_app)) rfl ?_)
    (refine h_new H fun n33 u H => ?_)
    refine s_chk (hc_cons H (by repeat (first | exact pick_head | apply pick_tail | apply pick_app)) hcell c_nil) ?_
    have hfl := FP_len parts ((KS l).take i) p
    have htl : ((KS l).take i).length = i := by rw [List.length_take]; omega
    refine h_app1 elemK H (cut_tail (cut_tail (cut_tail (cut_app' (cut_flat hc))))) hoc (by repeat (first | exact pick_head | apply pick_tail | apply pick_app)) rfl (by intro u hu; simp at hu; rcases hu with rfl | rfl <;> rfl) (by omega) (by omega) ?_
    intro v' c' u ho' H
    obtain ⟨ov', capv', rfl⟩ := ho'.slice
    have hlsl : p < ls.length := by rw [hL.1]; exact hpM
    refine s_asS (s_chk c_nil (s_req (by omega) (s_sm (h_st H (by repeat (first | exact pick_head | apply pick_tail | apply pick_app)) (by simpa using hlsl) rfl fun u H => s_chk c_nil (s_next (by first | exact ⟨rfl, rfl⟩ | trivial) ?_)))))
    simp (config := { decide := true }) only [if_true, if_false]
    refine ⟨⟨i + 1, ls.set p (.slice ov' ((FP parts ((KS l).take i) p).length + 1) capv'), cs.set p c', by rw [w_succ (by omega)], by omega, ?_, ?_⟩, by rw [w_succ (by omega)]; simp [intOf] <;> omega⟩
    · refine ⟨by simp [hL.1], by simp [hL.2.1], fun q hq => ?_⟩
      rw [List.take_add_one, hx, Option.toList_some, FP_snoc]
      by_cases hqp : q = p
      · subst hqp
        rw [if_pos hp]
        refine ⟨_, _, by rw [List.getElem?_set, if_pos rfl, if_pos hlsl], by rw [List.getElem?_set, if_pos rfl, if_pos (by rw [hL.2.1]; exact hpM)], ?_⟩
        rw [List.length_append, enc_append]
        exact ho'
      · obtain ⟨v2, c2, e1, e2, e3⟩ := hL.2.2 q hq
        rw [if_neg (by rw [hp]; omega), List.append_nil]
        exact ⟨v2, c2, by rw [List.getElem?_set, if_neg (by omega)]; exact e1, by rw [List.getElem?_set, if_neg (by omega)]; exact e2, e3⟩
    · have hpm := flat_put (cs := cs) (p := p) (by rw [hL.2.1]; exact hpM) c'
      simp only [Int.toNat_natCast, Nat.zero_add, Nat.mul_one] at H
      have H2 : Has w u (cl g 37 (ls.set p (.slice ov' ((FP parts ((KS l).take i) p).length + 1) capv')) :: ((c' ++ (cs.set p []).flatten) ++ ck)) := H.sub (by
        rw [List.append_assoc]
        exact (by repeat (first | exact sb_refl | exact sb_nil | refine sb_cons (by repeat (first | exact pick_head | apply pick_tail | apply pick_app)) ?_ | refine sb_app (by repeat (first | exact cut_head | exact cut_all | apply cut_tail | apply cut_app)) ?_ | exact sb_one (by repeat (first | exact cut_head | exact cut_all | apply cut_tail | apply cut_app)))))
      exact H2.perm (List.Perm.cons _ (List.Perm.append_right ck hpm))
  · simp only [decide_eq_false_iff_not] at g1
    rw [List.take_of_length_le (by omega)] at hL
    rw [hMt]
    exact s_ret ⟨g, ls, cs, rfl, hL, H.sub (by repeat (first | exact sb_refl | exact sb_nil | refine sb_cons (by repeat (first | exact pick_head | apply pick_tail | apply pick_app)) ?_ | refine sb_app (by repeat (first | exact cut_head | exact cut_all | apply cut_tail | apply cut_app)) ?_ | exact sb_one (by repeat (first | exact cut_head | exact cut_all | apply cut_tail | apply cut_app))))⟩
theorem rsplit_c (parts : Int) {o : Option Addr} {l : List K} {n cap : Nat} (h : KeysAt w o l) (hn : n = l.length) (hsz : l.length * 16 ≤ 140737488355328) : Calls Try.prog 53 #[.int .i64 parts, .slice o n cap] w fun e w' =>
    ∃ g vs cs, e = .returned (.slice (some ⟨g, 0, none⟩) (manyI parts).toNat (manyI parts).toNat) ∧ Lists (manyI parts).toNat (FP parts (KS l)) vs cs ∧ Has w w' (cl g 37 vs :: cs.flatten) := by
  apply c53
  have hm : 1 ≤ manyI parts ∧ manyI parts ≤ 8 := by unfold manyI; omega
  refine s_call (rmany_c parts) ?_
  rintro _ _ ⟨rfl, rfl⟩
  refine ⟨_, rfl, s_asI ?_⟩
  obtain ⟨M, hM⟩ := Int.eq_ofNat_of_zero_le (show 0 ≤ manyI parts by omega)
  have hMt : (manyI parts).toNat = M := by omega
  rw [hMt]
  refine h_make elemLK (Has.init w) (by omega) (by omega) (by omega) fun g u H => ?_
  rw [made_one _ _ rfl, hMt] at H
  refine s_asS (s_call (rkeys_c (h.fr0 H.base) hn hsz) ?_)
  rintro _ u ⟨v, ck, rfl, hok, Hk⟩
  have H := H.join Hk
  obtain ⟨ok, capk, rfl⟩ := hok.slice
  refine ⟨_, rfl, s_asS ?_⟩
  have hKl := KS_len l
  have hinit : Lists M (FP parts []) (List.replicate M (.slice none 0 0)) (List.replicate M []) := by
    refine ⟨by simp, by simp, fun p hp => ⟨.slice none 0 0, [], by simp [hp], by simp [hp], ?_⟩⟩
    exact OwnC.nil
  refine s_loop (fun vs W => ∃ (i : Nat) (ls : List Value) (cs : List Hp), vs = [.int .i64 i] ∧ i ≤ (KS l).length ∧ Lists M (FP parts ((KS l).take i)) ls cs ∧ Has w W (cl g 37 ls :: (cs.flatten ++ ck)))
    (fun vs _ => (KS l).length - (intOf (vs.getD 0 undef)).toNat) ⟨0, _, _, rfl, by omega, hinit, ?_⟩ ?_
  · have : (List.replicate M ([] : Hp)).flatten = [] := by simp
    rw [this]
    exact H.sub (by repeat (first | exact sb_refl | exact sb_nil | refine sb_cons (by repeat (first | exact pick_head | apply pick_tail | apply pick_app)) ?_ | refine sb_app (by repeat (first | exact cut_head | exact cut_all | apply cut_tail | apply cut_app)) ?_ | exact sb_one (by repeat (first | exact cut_head | exact cut_all | apply cut_tail | apply cut_app))))
  rintro _ j W ⟨i, ls, cs, rfl, hi, hL, H⟩
  refine s_asI (s_ite (fun g1 => ?_) (fun g1 => ?_))
  · simp only [decide_eq_true_eq] at g1
    have hlt : i < (KS l).length := by omega
    have hx : (KS l)[i]? = some (KS l)[i] := List.getElem?_eq_getElem hlt
    obtain ⟨g2, off, rfl, p1, p2⟩ := (keysAt_own hok H (by repeat (first | exact cut_head | exact cut_all | apply cut_tail | apply cut_app))).get hx
    refine s_req ⟨by omega, g1⟩ (s_sm (s_loadI p1 (s_loadI p2 ?_)))
    refine s_call (rpart_c (KS l)[i] parts) ?_
    rintro _ u ⟨rfl, f⟩
    have H := H.fr0 f
    obtain ⟨hr1, hr2⟩ := partI_range (KS l)[i] parts
    obtain ⟨p, hp⟩ := Int.eq_ofNat_of_zero_le hr1
    rw [hp]
    have hpM : p < M := by omega
    obtain ⟨v, c, hv, hc, hoc⟩ := hL.2.2 p hpM
    obtain ⟨ov, capv, rfl⟩ := hoc.slice
    have hcell : ls[0 + Int.toNat (p : Int) * 1]? = some (.slice ov (FP parts ((KS l).take i) p).length capv) := by rw [Int.toNat_natCast, Nat.zero_add, Nat.mul_one]; exact hv
    refine ⟨_, rfl, s_asI (h_drew H fun u H => s_req (by omega) (s_sm (h_ldS H (by repeat (first | exact pick_head | apply pick_tail | apply pick_app)) hcell ?_)))⟩
    obtain ⟨_, _, he, q1, q2⟩ := (keysAt_own hok H (by repeat (first | exact cut_head | exact cut_all | apply cut_tail | apply cut_app))).get hx
    cases he
    refine s_req ⟨by omega, g1⟩ (s_sm (s_loadI q1 (s_loadI q2 ?_)))
    (refine h_new H fun n33 u H => ?_)
    refine s_chk (hc_cons H (by repeat (first | exact pick_head | apply pick_tail | apply pick_app)) hcell c_nil) ?_
    have hfl := FP_len parts ((KS l).take i) p
    have htl : ((KS l).take i).length = i := by rw [List.length_take]; omega
    refine h_app1 elemK H (cut_tail (cut_tail (cut_app' (cut_flat hc)))) hoc (by repeat (first | exact pick_head | apply pick_tail | apply pick_app)) rfl (by intro u hu; simp at hu; rcases hu with rfl | rfl <;> rfl) (by omega) (by omega) ?_
    intro v' c' u ho' H
    obtain ⟨ov', capv', rfl⟩ := ho'.slice
    have hlsl : p < ls.length := by rw [hL.1]; exact hpM
    refine s_asS (s_chk c_nil (s_req (by omega) (s_sm (h_st H (by repeat (first | exact pick_head | apply pick_tail | apply pick_app)) (by simpa using hlsl) rfl fun u H => s_chk c_nil (s_next (by first | exact ⟨rfl, rfl⟩ | trivial) ?_)))))
    simp (config := { decide := true }) only [if_true, if_false]
    refine ⟨⟨i + 1, ls.set p (.slice ov' ((FP parts ((KS l).take i) p).length + 1) capv'), cs.set p c', by rw [w_succ (by omega)], by omega, ?_, ?_⟩, by rw [w_succ (by omega)]; simp [intOf] <;> omega⟩
    · refine ⟨by simp [hL.1], by simp [hL.2.1], fun q hq => ?_⟩
      rw [List.take_add_one, hx, Option.toList_some, FP_snoc]
      by_cases hqp : q = p
      · subst hqp
        rw [if_pos hp]
        refine ⟨_, _, by rw [List.getElem?_set, if_pos rfl, if_pos hlsl], by rw [List.getElem?_set, if_pos rfl, if_pos (by rw [hL.2.1]; exact hpM)], ?_⟩
        rw [List.length_append, enc_append]
        exact ho'
      · obtain ⟨v2, c2, e1, e2, e3⟩ := hL.2.2 q hq
        rw [if_neg (by rw [hp]; omega), List.append_nil]
        exact ⟨v2, c2, by rw [List.getElem?_set, if_neg (by omega)]; exact e1, by rw [List.getElem?_set, if_neg (by omega)]; exact e2, e3⟩
    · have hpm := flat_put (cs := cs) (p := p) (by rw [hL.2.1]; exact hpM) c'
      simp only [Int.toNat_natCast, Nat.zero_add, Nat.mul_one] at H
      have H2 : Has w u (cl g 37 (ls.set p (.slice ov' ((FP parts ((KS l).take i) p).length + 1) capv')) :: ((c' ++ (cs.set p []).flatten) ++ ck)) := H.sub (by
        rw [List.append_assoc]
        exact (by repeat (first | exact sb_refl | exact sb_nil | refine sb_cons (by repeat (first | exact pick_head | apply pick_tail | apply pick_app)) ?_ | refine sb_app (by repeat (first | exact cut_head | exact cut_all | apply cut_tail | apply cut_app)) ?_ | exact sb_one (by repeat (first | exact cut_head | exact cut_all | apply cut_tail | apply cut_app)))))
      exact H2.perm (List.Perm.cons _ (List.Perm.append_right ck hpm))
  · simp only [decide_eq_false_iff_not] at g1
    rw [List.take_of_length_le (by omega)] at hL
    rw [hMt]
    exact s_ret ⟨g, ls, cs, rfl, hL, H.sub (by repeat (first | exact sb_refl | exact sb_nil | refine sb_cons (by repeat (first | exact pick_head | apply pick_tail | apply pick_app)) ?_ | refine sb_app (by repeat (first | exact cut_head | exact cut_all | apply cut_tail | apply cut_app)) ?_ | exact sb_one (by repeat (first | exact cut_head | exact cut_all | apply cut_tail | apply cut_app))))⟩

end
end Go.Proofs.Ytndkffhlheaepaa
