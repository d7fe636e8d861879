/- ShardSplits: keys by partitions, lists of pairs as one map; the walk. -/
import Derived.Test.YteimilnigiagjaaLists
import Derived.Test.YteimilnigiagjaaSplit
import Derived.Test.YteimilnigiagjaaWrite
import Derived.Test.YteimilnigiagjaaZeros
set_option linter.unusedVariables false
set_option linter.unusedSimpArgs false
set_option maxRecDepth 100000
set_option maxHeartbeats 1000000
namespace Go.Proofs.Yteimilnigiagjaa
open Go hiding Expr
open Go.RowKit Tr

/-- A list of pairs that was handed in: where it lies, its capacity, the pairs. -/
structure PL where
  o : Option Addr
  cap : Nat
  l : List PR
def plr (x : PL) : List Value := [.slice x.o x.l.length x.cap]
def flatP (ls : List PL) : List PR := (ls.map (·.l)).flatten
theorem flatP_snoc (ls : List PL) (x : PL) : flatP (ls ++ [x]) = flatP ls ++ x.l := by simp [flatP]
theorem flatP_take (ls : List PL) (i : Nat) : (flatP (ls.take i)).length ≤ (flatP ls).length := by
  conv => rhs; rw [← List.take_append_drop i ls]
  simp only [flatP, List.map_append, List.flatten_append, List.length_append]
  omega
def PLAt (w : World) (o : Option Addr) (ls : List PL) : Prop := RowsAt w o 1 (ls.map plr) ∧ ∀ x ∈ ls, PairsAt w x.o x.l

section
variable {w w' : World} {o : Option Addr} {ls : List PL}
theorem PLAt.fr0 (h : PLAt w o ls) (hf : Fr [] w w') : PLAt w' o ls := ⟨h.1.fr hf, fun x hx => (h.2 x hx).fr0 hf⟩
theorem PLAt.get (h : PLAt w o ls) {i : Nat} {x : PL} (hi : ls[i]? = some x) : ∃ g off, o = some ⟨g, off, none⟩ ∧ w.cell? ⟨g, off + i * 1, none⟩ = some (.slice x.o x.l.length x.cap) ∧ PairsAt w x.o x.l := by
  obtain ⟨g, off, rfl, _, hc⟩ := RowsAt.at h.1 (j := i) (r := plr x) (by simp [hi])
  exact ⟨g, off, rfl, hc 0 _ rfl, h.2 x (List.mem_of_getElem? hi)⟩

theorem rsplit_c (parts : Int) {o : Option Addr} {l : List K} {n cap : Nat} (h : KeysAt w o l) (hn : n = l.length) (hsz : l.length * 16 ≤ 140737488355328) : Calls Try.prog 31 #[.int .i64 parts, .slice o n cap] w fun e w' =>
    ∃ g vs cs, e = .returned (.slice (some ⟨g, 0, none⟩) (manyI parts).toNat (manyI parts).toNat) ∧ Lists (manyI parts).toNat (FP parts (KS l)) vs cs ∧ Has w w' (cl g 35 vs :: cs.flatten) := by
  apply c31
  have hm : 1 ≤ manyI parts ∧ manyI parts ≤ 8 := by unfold manyI; omega
  refine s_call (rmany_c parts) ?_
  rintro _ _ ⟨rfl, rfl⟩
  refine ⟨_, rfl, s_asI ?_⟩
  obtain ⟨M, hM⟩ := Int.eq_ofNat_of_zero_le (show 0 ≤ manyI parts by omega)
  have hMt : (manyI parts).toNat = M := by omega
  rw [hMt]
  refine h_make elemLK (Has.init w) (by omega) (by omega) (by omega) fun g u H => ?_
  rw [made_one _ _ rfl, hMt] at H
  refine s_asS (s_call (rkeys_c (h.fr0 H.base) hn hsz) ?_)
  rintro _ u ⟨v, ck, rfl, hok, Hk⟩
  have H := H.join Hk
  obtain ⟨ok, capk, rfl⟩ := hok.slice
  refine ⟨_, rfl, s_asS ?_⟩
  have hKl := KS_len l
  have hinit : Lists M (FP parts []) (List.replicate M (.slice none 0 0)) (List.replicate M []) := by
    refine ⟨by simp, by simp, fun p hp => ⟨.slice none 0 0, [], by simp [hp], by simp [hp], ?_⟩⟩
    exact OwnC.nil
  refine s_loop (fun vs W => ∃ (i : Nat) (ls : List Value) (cs : List Hp), vs = [.int .i64 i] ∧ i ≤ (KS l).length ∧ Lists M (FP parts ((KS l).take i)) ls cs ∧ Has w W (cl g 35 ls :: (cs.flatten ++ ck)))
    (fun vs _ => (KS l).length - (intOf (vs.getD 0 undef)).toNat) ⟨0, _, _, rfl, by omega, hinit, ?_⟩ ?_
  · have : (List.replicate M ([] : Hp)).flatten = [] := by simp
    rw [this]
    exact H.sub (by repeat (first | exact sb_refl | exact sb_nil | refine sb_cons (by repeat (first | exact pick_head | apply pick_tail | apply pick_app)) ?_ | refine sb_app (by repeat (first | exact cut_head | exact cut_all | apply cut_tail | apply cut_app)) ?_ | exact sb_one (by repeat (first | exact cut_head | exact cut_all | apply cut_tail | apply cut_app))))
  rintro _ j W ⟨i, ls, cs, rfl, hi, hL, H⟩
  refine s_asI (s_ite (fun g1 => ?_) (fun g1 => ?_))
  · simp only [decide_eq_true_eq] at g1
    have hlt : i < (KS l).length := by omega
    have hx : (KS l)[i]? = some (KS l)[i] := List.getElem?_eq_getElem hlt
    obtain ⟨g2, off, rfl, p1, p2⟩ := (keysAt_own hok H (by repeat (first | exact cut_head | exact cut_all | apply cut_tail | apply cut_app))).get hx
    refine s_req ⟨by omega, g1⟩ (s_sm (s_loadI p1 (s_loadI p2 ?_)))
    refine s_call (rpart_c (KS l)[i] parts) ?_
    rintro _ u ⟨rfl, f⟩
    have H := H.fr0 f
    obtain ⟨hr1, hr2⟩ := partI_range (KS l)[i] parts
    obtain ⟨p, hp⟩ := Int.eq_ofNat_of_zero_le hr1
    rw [hp]
    have hpM : p < M := by omega
    obtain ⟨v, c, hv, hc, hoc⟩ := hL.2.2 p hpM
    obtain ⟨ov, capv, rfl⟩ := hoc.slice
    have hcell : ls[0 + Int.toNat (p : Int) * 1]? = some (.slice ov (FP parts ((KS l).take i) p).length capv) := by rw [Int.toNat_natCast, Nat.zero_add, Nat.mul_one]; exact hv
    refine ⟨_, rfl, s_asI (h_drew H fun u H => s_req (by omega) (s_sm (h_ldS H (by repeat (first | exact pick_head | apply pick_tail | apply pick_app)) hcell ?_)))⟩
    obtain ⟨_, _, he, q1, q2⟩ := (keysAt_own hok H (by repeat (first | exact cut_head | exact cut_all | apply cut_tail | apply cut_app))).get hx
    cases he
    refine s_req ⟨by omega, g1⟩ (s_sm (s_loadI q1 (s_loadI q2 ?_)))
    (refine h_new H fun n33 u H => ?_)
    refine s_chk (hc_cons H (by repeat (first | exact pick_head | apply pick_tail | apply pick_app)) hcell c_nil) ?_
    have hfl := FP_len parts ((KS l).take i) p
    have htl : ((KS l).take i).length = i := by rw [List.length_take]; omega
    refine h_app1 elemK H (cut_tail (cut_tail (cut_app' (cut_flat hc)))) hoc (by repeat (first | exact pick_head | apply pick_tail | apply pick_app)) rfl (by intro u hu; simp at hu; rcases hu with rfl | rfl <;> rfl) (by omega) (by omega) ?_
    intro v' c' u ho' H
    obtain ⟨ov', capv', rfl⟩ := ho'.slice
    have hlsl : p < ls.length := by rw [hL.1]; exact hpM
    refine s_asS (s_chk c_nil (s_req (by omega) (s_sm (h_st H (by repeat (first | exact pick_head | apply pick_tail | apply pick_app)) (by simpa using hlsl) rfl fun u H => s_chk c_nil (s_next (by first | exact ⟨rfl, rfl⟩ | trivial) ?_)))))
    simp (config := { decide := true }) only [if_true, if_false]
    refine ⟨⟨i + 1, ls.set p (.slice ov' ((FP parts ((KS l).take i) p).length + 1) capv'), cs.set p c', by rw [w_succ (by omega)], by omega, ?_, ?_⟩, by rw [w_succ (by omega)]; simp [intOf] <;> omega⟩
    · refine ⟨by simp [hL.1], by simp [hL.2.1], fun q hq => ?_⟩
      rw [List.take_add_one, hx, Option.toList_some, FP_snoc]
      by_cases hqp : q = p
      · subst hqp
        rw [if_pos hp]
        refine ⟨_, _, by rw [List.getElem?_set, if_pos rfl, if_pos hlsl], by rw [List.getElem?_set, if_pos rfl, if_pos (by rw [hL.2.1]; exact hpM)], ?_⟩
        rw [List.length_append, enc_append]
        exact ho'
      · obtain ⟨v2, c2, e1, e2, e3⟩ := hL.2.2 q hq
        rw [if_neg (by rw [hp]; omega), List.append_nil]
        exact ⟨v2, c2, by rw [List.getElem?_set, if_neg (by omega)]; exact e1, by rw [List.getElem?_set, if_neg (by omega)]; exact e2, e3⟩
    · have hpm := flat_put (cs := cs) (p := p) (by rw [hL.2.1]; exact hpM) c'
      simp only [Int.toNat_natCast, Nat.zero_add, Nat.mul_one] at H
      have H2 : Has w u (cl g 35 (ls.set p (.slice ov' ((FP parts ((KS l).take i) p).length + 1) capv')) :: ((c' ++ (cs.set p []).flatten) ++ ck)) := H.sub (by
        rw [List.append_assoc]
        exact (by repeat (first | exact sb_refl | exact sb_nil | refine sb_cons (by repeat (first | exact pick_head | apply pick_tail | apply pick_app)) ?_ | refine sb_app (by repeat (first | exact cut_head | exact cut_all | apply cut_tail | apply cut_app)) ?_ | exact sb_one (by repeat (first | exact cut_head | exact cut_all | apply cut_tail | apply cut_app)))))
      exact H2.perm (List.Perm.cons _ (List.Perm.append_right ck hpm))
  · simp only [decide_eq_false_iff_not] at g1
    rw [List.take_of_length_le (by omega)] at hL
    rw [hMt]
    exact s_ret ⟨g, ls, cs, rfl, hL, H.sub (by repeat (first | exact sb_refl | exact sb_nil | refine sb_cons (by repeat (first | exact pick_head | apply pick_tail | apply pick_app)) ?_ | refine sb_app (by repeat (first | exact cut_head | exact cut_all | apply cut_tail | apply cut_app)) ?_ | exact sb_one (by repeat (first | exact cut_head | exact cut_all | apply cut_tail | apply cut_app))))⟩

theorem grow_c {n : Nat} (hsz : n * 24 ≤ 140737488355328) : Calls Try.prog 54 #[.slice none 0 0, .int .i64 (n : Int)] w fun e w' =>
    ∃ v c, e = .returned v ∧ OwnC 51 3 v 0 [] c ∧ Has w w' c := by
  apply c54
  refine s_blk (fun vs W => w = W) ?_ ?_
  · rintro vs j W rfl
    have e1 : IntKind.wrap .i64 ((n : Int) - IntKind.wrap .i64 (((0 : Nat) : Int) - ((0 : Nat) : Int))) = (n : Int) := by
      rw [wrap64 (n := ((0 : Nat) : Int) - ((0 : Nat) : Int)) (by omega) (by omega), wrap64 (by omega) (by omega)]
      omega
    rw [e1]
    refine s_ite (fun g => ?_) (fun g => ?_)
    · simp only [decide_eq_true_eq] at g
      refine s_req ⟨by omega, by omega⟩ ?_
      rw [show (sliceBase (none : Option Addr) 0 0 3) = none from rfl, show Int.toNat ((0 : Nat) : Int) = 0 from rfl]
      refine h_appNilZeros elemPr (tn := 3) (kn := .i64) (by kernel_rfl) (Has.init w) (n := n) rfl (by omega) (by omega) (by omega) ?_
      intro r cap sp u h1 h2 h3 H
      refine s_asS (s_req ⟨by omega, by omega⟩ ?_)
      rw [sb_zero]
      refine s_ret ⟨_, _, rfl, ⟨rfl, .inr ⟨r, cap, (Builtin.zeroCells _ n).toList ++ sp, rfl, rfl, Nat.zero_le _, h2, ?_⟩⟩, H⟩
      rw [List.nil_append, List.length_append, h3, Array.length_toList, size_zeroCells]
      have e2 : (Value.agg ⟨[.int .i32 0, .int .i64 0, .int .i64 0]⟩).cells.size = 3 := rfl
      rw [e2, ← Nat.add_mul]
      congr 1
      omega
    · exact s_ret ⟨_, _, rfl, OwnC.nil, Has.init w⟩
  · refine s_ite (fun g => ?_) (fun g => ?_)
    · simp only [decide_eq_true_eq] at g
      omega
    · exact s_next (by simp) (by simp)

theorem concat_c {n cap : Nat} (h : PLAt w o ls) (hn : n = ls.length) (hsz : (flatP ls).length * 24 ≤ 140737488355328) (hls : ls.length < 9223372036854775807) : Calls Try.prog 46 #[.slice o n cap] w fun e w' =>
    ∃ v c, e = .returned v ∧ OwnC 51 3 v (flatP ls).length (encP (flatP ls)) c ∧ Has w w' c := by
  subst hn
  apply c46
  refine s_loop (fun vs W => ∃ i : Nat, vs = [.int .i64 ((flatP (ls.take i)).length : Int), .int .i64 i] ∧ i ≤ ls.length ∧ Has w W []) (fun vs _ => ls.length - (intOf (vs.getD 1 undef)).toNat) ⟨0, rfl, by omega, Has.init w⟩ ?_
  rintro _ j W ⟨i, rfl, hi, H⟩
  refine s_asI (s_asI (s_ite (fun g1 => ?_) (fun g1 => ?_)))
  · simp only [decide_eq_true_eq] at g1
    have hlt : i < ls.length := by omega
    obtain ⟨x, hx⟩ : ∃ x, ls[i]? = some x := ⟨_, List.getElem?_eq_getElem hlt⟩
    obtain ⟨g2, off, rfl, p1, _⟩ := (h.fr0 H.base).get hx
    have ht : ls.take (i + 1) = ls.take i ++ [x] := by rw [List.take_add_one, hx, Option.toList_some]
    have htl := flatP_take ls (i + 1)
    rw [ht, flatP_snoc, List.length_append] at htl
    refine s_req ⟨by omega, g1⟩ (s_sm (s_loadS p1 ?_))
    rw [w_add (by omega)]
    refine s_ite (fun g3 => ?_) (fun g3 => s_next (by first | exact ⟨rfl, rfl⟩ | trivial) ?_)
    · simp only [decide_eq_true_eq] at g3
      omega
    · simp (config := { decide := true }) only [if_true, if_false]
      exact ⟨⟨i + 1, by rw [w_succ (by omega), ht, flatP_snoc, List.length_append], by omega, H⟩, by rw [w_succ (by omega)]; simp [intOf] <;> omega⟩
  · simp only [decide_eq_false_iff_not] at g1
    rw [List.take_of_length_le (by omega)]
    refine s_call (grow_c hsz) ?_
    rintro _ u ⟨v, c, rfl, ho, Hc⟩
    have H := H.join Hc
    obtain ⟨o13, n15, rfl⟩ := ho.slice
    refine ⟨_, rfl, s_asS ?_⟩
    refine s_loop (fun vs W => ∃ (i : Nat) (v : Value) (c : Hp), vs = [v, .int .i64 i] ∧ i ≤ ls.length ∧ OwnC 51 3 v (flatP (ls.take i)).length (encP (flatP (ls.take i))) c ∧ Has w W c) (fun vs _ => ls.length - (intOf (vs.getD 1 undef)).toNat)
      ⟨0, _, c, rfl, by omega, ho, H.sub (by repeat (first | exact sb_refl | exact sb_nil | refine sb_cons (by repeat (first | exact pick_head | apply pick_tail | apply pick_app)) ?_ | refine sb_app (by repeat (first | exact cut_head | exact cut_all | apply cut_tail | apply cut_app)) ?_ | exact sb_one (by repeat (first | exact cut_head | exact cut_all | apply cut_tail | apply cut_app))))⟩ ?_
    rintro _ j W ⟨i, v, c, rfl, hi, ho, H⟩
    obtain ⟨ov, cv, rfl⟩ := ho.slice
    refine s_asS (s_asI (s_ite (fun g1 => ?_) (fun g1 => ?_)))
    · simp only [decide_eq_true_eq] at g1
      have hlt : i < ls.length := by omega
      obtain ⟨x, hx⟩ : ∃ x, ls[i]? = some x := ⟨_, List.getElem?_eq_getElem hlt⟩
      obtain ⟨g2, off, rfl, p1, hP⟩ := (h.fr0 H.base).get hx
      have ht : ls.take (i + 1) = ls.take i ++ [x] := by rw [List.take_add_one, hx, Option.toList_some]
      have htl := flatP_take ls (i + 1)
      rw [ht, flatP_snoc, List.length_append] at htl
      refine s_req ⟨by omega, g1⟩ (s_sm (s_loadS p1 ?_))
      refine h_appAll elemPr (by decide) H (by repeat (first | exact cut_head | exact cut_all | apply cut_tail | apply cut_app)) ho (pr3 x.l) (pr_one x.l) hP (by rw [List.length_map]) (by omega) (by omega) ?_
      intro v' c' u ho' H
      obtain ⟨ov', cv', rfl⟩ := ho'.slice
      refine s_asS (s_next (by first | exact ⟨rfl, rfl⟩ | trivial) ?_)
      simp (config := { decide := true }) only [if_true, if_false]
      refine ⟨⟨i + 1, _, c', by rw [w_succ (by omega)], by omega, ?_, H.sub (by repeat (first | exact sb_refl | exact sb_nil | refine sb_cons (by repeat (first | exact pick_head | apply pick_tail | apply pick_app)) ?_ | refine sb_app (by repeat (first | exact cut_head | exact cut_all | apply cut_tail | apply cut_app)) ?_ | exact sb_one (by repeat (first | exact cut_head | exact cut_all | apply cut_tail | apply cut_app))))⟩, by rw [w_succ (by omega)]; simp [intOf] <;> omega⟩
      rw [ht, flatP_snoc, List.length_append, encP_append]
      exact ho'
    · simp only [decide_eq_false_iff_not] at g1
      rw [List.take_of_length_le (by omega)] at ho
      rw [List.take_of_length_le (by omega)]
      exact s_ret ⟨_, c, rfl, ho, H⟩

theorem merge_c {n cap : Nat} (h : PLAt w o ls) (hin : ∀ p ∈ flatP ls, InK p.k) (hn : n = ls.length) (hsz : (flatP ls).length * 24 ≤ 140737488355328) (hls : ls.length < 9223372036854775807) : Calls Try.prog 32 #[.slice o n cap] w fun e w' =>
    ∃ out v c, IsPairs (flatP ls) out ∧ e = .returned v ∧ OwnC 51 3 v out.length (encP out) c ∧ Has w w' c := by
  apply c32
  refine s_call (concat_c h hn hsz hls) ?_
  rintro _ u ⟨v, c, rfl, ho, H⟩
  obtain ⟨o1, c1, rfl⟩ := ho.slice
  refine ⟨_, rfl, s_asS (s_call (pairs_c (pairsAt_own ho H (by repeat (first | exact cut_head | exact cut_all | apply cut_tail | apply cut_app))) hin rfl hsz) ?_)⟩
  rintro _ u ⟨out, v2, c2, hP, rfl, ho2, H2⟩
  obtain ⟨o2, cap2, rfl⟩ := ho2.slice
  have H := H.join H2
  exact ⟨_, rfl, s_asS (s_ret ⟨out, _, c2, hP, rfl, ho2, H.sub (by repeat (first | exact sb_refl | exact sb_nil | refine sb_cons (by repeat (first | exact pick_head | apply pick_tail | apply pick_app)) ?_ | refine sb_app (by repeat (first | exact cut_head | exact cut_all | apply cut_tail | apply cut_app)) ?_ | exact sb_one (by repeat (first | exact cut_head | exact cut_all | apply cut_tail | apply cut_app))))⟩)⟩

theorem splits_c (parts : Int) {ok : Option Addr} {lk : List K} {nk ck n cap : Nat} (hk : KeysAt w ok lk) (hnk : nk = lk.length) (hszk : lk.length * 16 ≤ 140737488355328)
    (h : PLAt w o ls) (hin : ∀ p ∈ flatP ls, InK p.k) (hn : n = ls.length) (hsz : (flatP ls).length * 24 ≤ 140737488355328) (hls : ls.length < 9223372036854775807) :
    Calls Try.prog 9 #[.slice ok nk ck, .int .i64 parts, .slice o n cap] w fun e w' => e = .returned (.bool true) ∧ Fr [] w w' := by
  subst hn
  apply c9
  have hm : 1 ≤ manyI parts ∧ manyI parts ≤ 8 := by unfold manyI; omega
  obtain ⟨M, hM⟩ := Int.eq_ofNat_of_zero_le (show 0 ≤ manyI parts by omega)
  have hMt : (manyI parts).toNat = M := by omega
  refine s_call (split_c parts hk hnk hszk) ?_
  rintro _ u ⟨g, vs, cs, rfl, hL, H⟩
  refine ⟨_, rfl, s_asS (s_call (rsplit_c parts (hk.fr0 H.base) hnk hszk) ?_)⟩
  rintro _ u ⟨g', vs', cs', rfl, hL', H'⟩
  have H := H.join H'
  rw [hMt] at hL hL' ⊢
  refine ⟨_, rfl, s_asS ?_⟩
  refine s_blk (fun xs W => Has w W (cl g 35 vs :: cl g' 35 vs' :: (cs.flatten ++ cs'.flatten))) ?_ ?_
  · rintro xs j W H
    refine s_loop (fun xs W => ∃ i : Nat, xs = [.int .i64 i] ∧ i ≤ M ∧ Has w W (cl g 35 vs :: cl g' 35 vs' :: (cs.flatten ++ cs'.flatten))) (fun xs _ => M - (intOf (xs.getD 0 undef)).toNat) ⟨0, rfl, by omega, H⟩ ?_
    rintro _ j W ⟨i, rfl, hi, H⟩
    refine s_asI (s_ite (fun g1 => ?_) (fun g1 => ?_))
    · simp only [decide_eq_true_eq] at g1
      have hiM : i < M := by omega
      obtain ⟨v, c, hv, hc, hoc⟩ := hL.2.2 i hiM
      obtain ⟨v', c', hv', hc', hoc'⟩ := hL'.2.2 i hiM
      obtain ⟨ov, capv, rfl⟩ := hoc.slice
      obtain ⟨ov', capv', rfl⟩ := hoc'.slice
      have hcell : vs[0 + Int.toNat (i : Int) * 1]? = some (.slice ov (FP parts (KS lk) i).length capv) := by rw [Int.toNat_natCast, Nat.zero_add, Nat.mul_one]; exact hv
      have hcell' : vs'[0 + Int.toNat (i : Int) * 1]? = some (.slice ov' (FP parts (KS lk) i).length capv') := by rw [Int.toNat_natCast, Nat.zero_add, Nat.mul_one]; exact hv'
      have hfl := FP_len parts (KS lk) i
      have hKl := KS_len lk
      refine h_drew H fun u H => s_req ⟨by omega, g1⟩ (s_sm (h_ldS H (by repeat (first | exact pick_head | apply pick_tail | apply pick_app)) hcell (s_req ⟨by omega, g1⟩ (s_sm (h_ldS H (by repeat (first | exact pick_head | apply pick_tail | apply pick_app)) hcell' ?_)))))
      refine s_call (same_keys_c (keysAt_own hoc H (cut_tail (cut_tail (cut_app' (cut_flat hc))))) (keysAt_own hoc' H (cut_tail (cut_tail (cut_app (cut_flat hc'))))) rfl rfl (by omega)) ?_
      rintro _ u ⟨rfl, f⟩
      have H := H.fr0 f
      refine ⟨_, rfl, s_asB (s_chk c_nil (s_ite (fun g2 => ?_) (fun g2 => s_next (by first | exact ⟨rfl, rfl⟩ | trivial) ?_)))⟩
      · simp at g2
      · simp (config := { decide := true }) only [if_true, if_false]
        exact ⟨⟨i + 1, by rw [w_succ (by omega)], by omega, H⟩, by rw [w_succ (by omega)]; simp [intOf] <;> omega⟩
    · have H : Has w _ [] := H.sub (by repeat (first | exact sb_refl | exact sb_nil | refine sb_cons (by repeat (first | exact pick_head | apply pick_tail | apply pick_app)) ?_ | refine sb_app (by repeat (first | exact cut_head | exact cut_all | apply cut_tail | apply cut_app)) ?_ | exact sb_one (by repeat (first | exact cut_head | exact cut_all | apply cut_tail | apply cut_app))))
      refine s_loop (fun vs W => ∃ (i : Nat) (v : Value) (c : Hp), vs = [v, .int .i64 i] ∧ i ≤ ls.length ∧ OwnC 51 3 v (flatP (ls.take i)).length (encP (flatP (ls.take i))) c ∧ Has w W c) (fun vs _ => ls.length - (intOf (vs.getD 1 undef)).toNat)
        ⟨0, _, [], rfl, by omega, OwnC.nil, H⟩ ?_
      rintro _ j W ⟨i, v, c, rfl, hi, ho, H⟩
      obtain ⟨ov, cv, rfl⟩ := ho.slice
      refine s_asS (s_asI (s_ite (fun g1 => ?_) (fun g1 => ?_)))
      · simp only [decide_eq_true_eq] at g1
        have hlt : i < ls.length := by omega
        obtain ⟨x, hx⟩ : ∃ x, ls[i]? = some x := ⟨_, List.getElem?_eq_getElem hlt⟩
        obtain ⟨g2, off, rfl, p1, hP⟩ := (h.fr0 H.base).get hx
        have ht : ls.take (i + 1) = ls.take i ++ [x] := by rw [List.take_add_one, hx, Option.toList_some]
        have htl := flatP_take ls (i + 1)
        rw [ht, flatP_snoc, List.length_append] at htl
        refine s_req ⟨by omega, g1⟩ (s_sm (s_loadS p1 ?_))
        refine h_appAll elemPr (by decide) H (by repeat (first | exact cut_head | exact cut_all | apply cut_tail | apply cut_app)) ho (pr3 x.l) (pr_one x.l) hP (by rw [List.length_map]) (by omega) (by omega) ?_
        intro v' c' u ho' H
        obtain ⟨ov', cv', rfl⟩ := ho'.slice
        refine s_asS (s_next (by first | exact ⟨rfl, rfl⟩ | trivial) ?_)
        simp (config := { decide := true }) only [if_true, if_false]
        refine ⟨⟨i + 1, _, c', by rw [w_succ (by omega)], by omega, ?_, H.sub (by repeat (first | exact sb_refl | exact sb_nil | refine sb_cons (by repeat (first | exact pick_head | apply pick_tail | apply pick_app)) ?_ | refine sb_app (by repeat (first | exact cut_head | exact cut_all | apply cut_tail | apply cut_app)) ?_ | exact sb_one (by repeat (first | exact cut_head | exact cut_all | apply cut_tail | apply cut_app))))⟩, by rw [w_succ (by omega)]; simp [intOf] <;> omega⟩
        rw [ht, flatP_snoc, List.length_append, encP_append]
        exact ho'
      · simp only [decide_eq_false_iff_not] at g1
        rw [List.take_of_length_le (by omega)] at ho
        rw [List.take_of_length_le (by omega)]
        refine s_call (merge_c (h.fr0 H.base) hin rfl hsz hls) ?_
        rintro _ u ⟨out1, v3, c3, hP1, rfl, ho3, H3⟩
        have H := H.join H3
        obtain ⟨o3, cap3, rfl⟩ := ho3.slice
        refine ⟨_, rfl, s_asS (s_call (rpairs_c (pairsAt_own ho H (by repeat (first | exact cut_head | exact cut_all | apply cut_tail | apply cut_app))) rfl hsz) ?_)⟩
        rintro _ u ⟨out2, v4, c4, hP2, rfl, ho4, H4⟩
        have H := H.join H4
        obtain ⟨o4, cap4, rfl⟩ := ho4.slice
        obtain rfl := hP1.uniq hP2
        have hPl := hP1.len
        refine ⟨_, rfl, s_asS (s_call (same_pairs_c (pairsAt_own ho3 H (by repeat (first | exact cut_head | exact cut_all | apply cut_tail | apply cut_app))) (pairsAt_own ho4 H (by repeat (first | exact cut_head | exact cut_all | apply cut_tail | apply cut_app))) rfl rfl (by omega)) ?_)⟩
        rintro _ u ⟨rfl, f⟩
        have H := H.fr0 f
        exact ⟨_, rfl, s_asB (s_ret ⟨by simp, H.base⟩)⟩
  · refine s_call live_c ?_
    rintro _ u ⟨rfl, f⟩
    have H := H.fr0 f
    refine ⟨_, rfl, s_asB (s_ite (fun g => by simp at g) (fun g => s_ite (fun g => by simp at g) (fun g => s_next (by simp) ?_)))⟩
    simp (config := { decide := true }) only [if_true, if_false]
    exact H.sub (by repeat (first | exact sb_refl | exact sb_nil | refine sb_cons (by repeat (first | exact pick_head | apply pick_tail | apply pick_app)) ?_ | refine sb_app (by repeat (first | exact cut_head | exact cut_all | apply cut_tail | apply cut_app)) ?_ | exact sb_one (by repeat (first | exact cut_head | exact cut_all | apply cut_tail | apply cut_app))))
end
end Go.Proofs.Yteimilnigiagjaa
