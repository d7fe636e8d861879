/- The reference's table of rows in memory. -/
import Derived.Test.YtcmdbaafnbdpbaaFullW
set_option linter.unusedVariables false
set_option linter.unusedSimpArgs false
set_option maxRecDepth 100000
set_option maxHeartbeats 2000000
namespace Go.Proofs.Ytcmdbaafnbdpbaa
open Go hiding Expr
open Go.RowKit Tr

def RTab (p : Nat) (R : List Rw) (c : Hp) : Prop := ∃ (v : Value) (X : List AR) (cr : Hp) (cs : List Hp), c = cl p 50 [v] :: (cr ++ cs.flatten) ∧ X.map AR.row = R ∧ OwnC 56 6 v R.length (encA X) cr ∧ Vals X cs

section
variable {w w' w0 : World} {m c cr : Hp} {p : Nat} {R : List Rw} {s q : Int} {o : Option Addr} {X : List AR} {n cap : Nat}
theorem RowsAt'.fr0 (h : RowsAt' w o X) (hf : Fr [] w w') : RowsAt' w' o X := RowsAt.fr h hf
theorem RowsAt'.get (h : RowsAt' w o X) {i : Nat} {x : AR} (hi : X[i]? = some x) : ∃ g off, o = some ⟨g, off, none⟩ ∧ w.cell? ⟨g, off + i * 6, none⟩ = some (.int .i64 x.s) ∧ w.cell? ⟨g, off + i * 6 + 1, none⟩ = some (.int .i64 x.m) ∧
    w.cell? ⟨g, off + i * 6 + 2, none⟩ = some (.int .i64 x.e) ∧ w.cell? ⟨g, off + i * 6 + 3, none⟩ = some (.slice x.o x.vals.length x.cap) ∧ w.cell? ⟨g, off + i * 6 + 4, none⟩ = some (.int .i64 x.slot) ∧ w.cell? ⟨g, off + i * 6 + 5, none⟩ = some (.int .i64 x.place) := by
  obtain ⟨g, off, rfl, _, hc⟩ := RowsAt.at h (j := i) (r := arr x) (by simp [hi])
  exact ⟨g, off, rfl, hc 0 _ rfl, hc 1 _ rfl, hc 2 _ rfl, hc 3 _ rfl, hc 4 _ rfl, hc 5 _ rfl⟩
theorem rowsAt'_own {e : TypeId} {m' : Hp} (ho : OwnC e 6 (.slice o n cap) n (encA X) c) (H : Has w0 w m) (hp : Cut c m m') : RowsAt' w o X := rowsAt_own (arr6 X) (by decide) ho H hp
theorem rassoc_to {x : Nat × Obj} {a b m : Hp} (H : Has w0 w ((x :: (a ++ b)) ++ m)) : Has w0 w (x :: (a ++ (b ++ m))) := by
  rwa [List.cons_append, List.append_assoc] at H
theorem rassoc_from {x : Nat × Obj} {a b m : Hp} (H : Has w0 w (x :: (a ++ (b ++ m)))) : Has w0 w ((x :: (a ++ b)) ++ m) := by
  rwa [List.cons_append, List.append_assoc]

theorem may_c (x : Int) : Calls Try.prog 32 #[.int .i64 x] w fun e w' => e = .returned (.bool (!outI x)) ∧ w = w' := by
  apply c32
  refine s_ite (fun g => s_ret ⟨?_, rfl⟩) (fun g => s_ret ⟨?_, rfl⟩) <;> simp only [decide_eq_true_eq, decide_eq_false_iff_not] at g
  · have h1 : decide (x < 1) = false := decide_eq_false (by omega)
    simp only [outI, h1, Bool.false_or]
    congr 2
    by_cases h : x ≤ 1099511627776
    · rw [decide_eq_true h, decide_eq_false (by omega)]; rfl
    · rw [decide_eq_false h, decide_eq_true (by omega)]; rfl
  · have h1 : decide (x < 1) = true := decide_eq_true (by omega)
    simp [outI, h1]

theorem row_key {i : Nat} {x : AR} (hX : X.map AR.row = R) (hx : X[i]? = some x) : (R.map (·.s))[i]? = some x.s := by
  rw [← hX, List.map_map, List.getElem?_map, hx]; rfl
theorem row_at {i : Nat} {x : AR} (hX : X.map AR.row = R) (hx : X[i]? = some x) : R[i]? = some x.row := by
  rw [← hX, List.getElem?_map, hx]; rfl

theorem find_c (H : Has w0 w (c ++ m)) (hT : RTab p R c) (hl : R.length < 9223372036854775807) : Calls Try.prog 33 #[.pointer (some ⟨p, 0, none⟩), .int .i64 s] w fun e w' =>
    e = .returned (.tuple #[.int .i64 (posR R s : Nat), .bool (hasR R s)]) ∧ Has w0 w' (c ++ m) := by
  obtain ⟨v, X, cr, cs, rfl, hX, ho, hV⟩ := hT
  have hXl : X.length = R.length := by rw [← hX, List.length_map]
  apply c33
  have H := rassoc_to H
  obtain ⟨o, cap, rfl⟩ := ho.slice
  refine s_blk (fun vs W => vs = [.int .i64 (posR R s : Nat)] ∧ Has w0 W (cl p 50 [.slice o R.length cap] :: (cr ++ (cs.flatten ++ m)))) ?_ ?_
  · rintro _ _ W ⟨rfl, H⟩
    have hle := posR_le R s
    refine s_asI (h_drew H fun u H => h_ldS H (by repeat (first | exact pick_head | apply pick_tail | apply pick_app)) rfl (s_ite (fun g => ?_) (fun g => s_ret ⟨?_, rassoc_from H⟩)))
    · simp only [decide_eq_true_eq] at g
      obtain ⟨x, hx⟩ : ∃ x, X[posR R s]? = some x := ⟨_, List.getElem?_eq_getElem (by omega)⟩
      refine h_ldS H (by repeat (first | exact pick_head | apply pick_tail | apply pick_app)) rfl ?_
      obtain ⟨gg, off, rfl, p0, _⟩ := (rowsAt'_own ho H (by repeat (first | exact cut_head | exact cut_all | apply cut_tail | apply cut_app))).get hx
      refine s_req ⟨by omega, by omega⟩ (s_sm (s_loadI p0 (s_ret ⟨?_, rassoc_from H⟩)))
      unfold hasR
      rw [row_key hX hx]
      congr 4
      simp only [Option.some.injEq]
      by_cases h : x.s = s <;> simp [h]
    · simp only [decide_eq_false_iff_not] at g
      unfold hasR
      rw [List.getElem?_eq_none (by rw [List.length_map]; omega)]
      rfl
  · refine s_loop (fun vs W => ∃ i : Nat, vs = [.int .i64 i] ∧ i ≤ R.length ∧ (∀ k a, k < i → (R.map (·.s))[k]? = some a → a < s) ∧ Has w0 W (cl p 50 [.slice o R.length cap] :: (cr ++ (cs.flatten ++ m)))) (fun vs _ => R.length - (intOf (vs.getD 0 undef)).toNat)
      ⟨0, rfl, by omega, fun k a h => by omega, H⟩ ?_
    rintro _ j W ⟨i, rfl, hi, hlow, H⟩
    refine s_asI (h_ldS H (by repeat (first | exact pick_head | apply pick_tail | apply pick_app)) rfl (s_ite (fun g => ?_) (fun g => ?_)))
    · simp only [decide_eq_true_eq] at g
      obtain ⟨x, hx⟩ : ∃ x, X[i]? = some x := ⟨_, List.getElem?_eq_getElem (by omega)⟩
      refine h_ldS H (by repeat (first | exact pick_head | apply pick_tail | apply pick_app)) rfl ?_
      obtain ⟨gg, off, rfl, p0, _⟩ := (rowsAt'_own ho H (by repeat (first | exact cut_head | exact cut_all | apply cut_tail | apply cut_app))).get hx
      have hk := row_key hX hx
      refine s_req ⟨by omega, by omega⟩ (s_sm (s_loadI p0 (s_ite (fun g2 => s_next (by first | exact ⟨rfl, rfl⟩ | trivial) ?_) (fun g2 => s_next (by first | exact ⟨rfl, rfl⟩ | trivial) ?_))))
      · simp only [decide_eq_true_eq] at g2
        simp (config := { decide := true }) only [if_true, if_false]
        refine ⟨⟨i + 1, by rw [w_succ (by omega)], by omega, fun k a hk' ha => ?_, H⟩, by rw [w_succ (by omega)]; simp [intOf] <;> omega⟩
        rcases Nat.lt_or_ge k i with h | h
        · exact hlow k a h ha
        · obtain rfl : k = i := by omega
          rw [hk] at ha
          cases ha
          exact g2
      · simp only [decide_eq_false_iff_not] at g2
        simp (config := { decide := true }) only [if_true, if_false]
        have : i = posR R s := cutI_of (by rw [List.length_map]; omega) hlow (fun a ha => by rw [hk] at ha; cases ha; omega)
        exact ⟨by rw [← this], H⟩
    · simp only [decide_eq_false_iff_not] at g
      refine s_next (by first | exact ⟨rfl, rfl⟩ | trivial) ?_
      simp (config := { decide := true }) only [if_true, if_false]
      have : i = posR R s := cutI_of (by rw [List.length_map]; omega) hlow (fun a ha => by rw [List.getElem?_eq_none (by rw [List.length_map]; omega)] at ha; cases ha)
      exact ⟨by rw [← this], H⟩

theorem own_cap {e : TypeId} {sz : Nat} {xs : List Value} (ho : OwnC e sz (.slice o n cap) n xs c) : n ≤ cap := by
  rcases ho.2 with ⟨hv, hn, _⟩ | ⟨g, cap', sp, hv, _, h, _⟩
  · cases hv; omega
  · cases hv; exact h

theorem flat_split {cs : List Hp} {i j : Nat} (hij : i ≤ j) (c m : Hp) : Sb ((cs.take i ++ [c] ++ cs.drop j).flatten ++ m) (c ++ (cs.flatten ++ m)) := by
  refine ⟨((cs.drop i).take (j - i)).flatten, ?_⟩
  have h1 : cs = cs.take i ++ ((cs.drop i).take (j - i) ++ cs.drop j) := by
    have h2 : (cs.drop i).take (j - i) ++ (cs.drop i).drop (j - i) = cs.drop i := List.take_append_drop _ _
    rw [List.drop_drop, show i + (j - i) = j by omega] at h2
    rw [h2, List.take_append_drop]
  have e1 : c ++ (cs.flatten ++ m) = c ++ ((cs.take i).flatten ++ (((cs.drop i).take (j - i)).flatten ++ ((cs.drop j).flatten ++ m))) := by
    conv => lhs; rw [h1]
    simp
  have e2 : (cs.take i ++ [c] ++ cs.drop j).flatten ++ m ++ ((cs.drop i).take (j - i)).flatten = (cs.take i).flatten ++ (c ++ (((cs.drop j).flatten ++ m) ++ ((cs.drop i).take (j - i)).flatten)) := by simp
  rw [e1, e2]
  have p1 : (c ++ ((cs.take i).flatten ++ (((cs.drop i).take (j - i)).flatten ++ ((cs.drop j).flatten ++ m)))).Perm ((cs.take i).flatten ++ (c ++ (((cs.drop i).take (j - i)).flatten ++ ((cs.drop j).flatten ++ m)))) := by
    rw [← List.append_assoc, ← List.append_assoc (cs.take i).flatten]
    exact List.Perm.append_right _ List.perm_append_comm
  exact p1.trans (List.Perm.append_left _ (List.Perm.append_left _ List.perm_append_comm))

theorem Vals.part {cs : List Hp} {x : AR} {d : Hp} {i j : Nat} (hv : Vals X cs) (hx : OwnV x d) (hi : i ≤ X.length) (hij : i ≤ j) : Vals (X.take i ++ [x] ++ X.drop j) (cs.take i ++ [d] ++ cs.drop j) := by
  have hl := hv.1
  refine ⟨by simp [hl], fun k y e hy he => ?_⟩
  have h1 : (X.take i).length = i := by rw [List.length_take]; omega
  have h2 : (cs.take i).length = i := by rw [List.length_take]; omega
  rw [List.append_assoc] at hy he
  rcases Nat.lt_or_ge k i with h | h
  · rw [List.getElem?_append_left (by omega), List.getElem?_take, if_pos h] at hy he
    exact hv.2 k y e hy he
  · rw [List.getElem?_append_right (by omega), h1] at hy
    rw [List.getElem?_append_right (by omega), h2] at he
    cases hk : k - i with
    | zero =>
      rw [hk] at hy he
      simp at hy he
      subst hy he
      exact hx
    | succ k' =>
      rw [hk, List.singleton_append, List.getElem?_cons_succ, List.getElem?_drop] at hy he
      exact hv.2 _ y e hy he

theorem rset_c {e slot place : Int} {vals : List Int} (H : Has w0 w (c ++ m)) (hT : RTab p R c) (hI : InvR R) (hv : ∀ u, Has w0 u m → ValsAt u o vals) (hn : n = vals.length)
    (hsz : vals.length * 8 ≤ 140737488355328) : Calls Try.prog 34 #[.pointer (some ⟨p, 0, none⟩), .agg ⟨[.int .i64 s, .int .i64 q, .int .i64 e, .slice o n cap, .int .i64 slot, .int .i64 place]⟩] w fun en w' =>
      ∃ c' v, en = .returned v ∧ RTab p (setR R ⟨s, q, ⟨e, vals, slot, place⟩⟩) c' ∧ Has w0 w' (c' ++ m) := by
  subst hn
  have hRl := hI.len
  apply c34
  refine h_new H fun n10 u H => h_ldI H (by repeat (first | exact pick_head | apply pick_tail | apply pick_app)) rfl ?_
  refine s_call (find_c (s := s) (m := cl n10 56 [.int .i64 s, .int .i64 q, .int .i64 e, .slice o vals.length cap, .int .i64 slot, .int .i64 place] :: m) (H.sub (by repeat (first | exact sb_refl | exact sb_nil | refine sb_cons (by repeat (first | exact pick_head | apply pick_tail | apply pick_app)) ?_ | refine sb_app (by repeat (first | exact cut_head | exact cut_all | apply cut_tail | apply cut_app)) ?_ | exact sb_one (by repeat (first | exact cut_head | exact cut_all | apply cut_tail | apply cut_app))))) hT (by omega)) ?_
  rintro _ u ⟨rfl, H⟩
  obtain ⟨v, X, cr, cs, rfl, hX, ho, hV⟩ := hT
  have hXl : X.length = R.length := by rw [← hX, List.length_map]
  obtain ⟨ox, capx, rfl⟩ := ho.slice
  have H := rassoc_to H
  have hle := posR_le R s
  have hcap := own_cap ho
  have hnone : ∀ {u : World}, RowsAt' u ox X → (ox = none → X.map arr = []) := fun h he => by subst he; exact RowsAt.none h
  refine ⟨_, rfl, s_asU (s_req rfl (s_asI (s_asB (h_ldS H (by repeat (first | exact pick_head | apply pick_tail | apply pick_app)) rfl (s_req ⟨by omega, by omega⟩ ?_)))))⟩
  have hat := rowsAt'_own ho H (by repeat (first | exact cut_head | exact cut_all | apply cut_tail | apply cut_app))
  refine h_appRows elemR (by decide) H cut_nil OwnC.nil (arr6 X) (arr_one X) hat (hnone hat) (i := 0) (j := posR R s) (by rw [List.length_map]; omega) (by rw [List.length_map]; omega) (by omega) (by omega) ?_
  intro v1 c1 u ho1 H
  rw [Nat.zero_add, List.nil_append, List.drop_zero, ← List.map_take] at ho1
  obtain ⟨o1, cap1, rfl⟩ := ho1.slice
  refine s_asS (h_ldS H (by repeat (first | exact pick_head | apply pick_tail | apply pick_app)) rfl ?_)
  refine h_appAll elemI (by decide) H cut_nil OwnC.nil (ir1 vals) (ir_one vals) (hv u (H.sub (by repeat (first | exact sb_refl | exact sb_nil | refine sb_cons (by repeat (first | exact pick_head | apply pick_tail | apply pick_app)) ?_ | refine sb_app (by repeat (first | exact cut_head | exact cut_all | apply cut_tail | apply cut_app)) ?_ | exact sb_one (by repeat (first | exact cut_head | exact cut_all | apply cut_tail | apply cut_app)))))) (by rw [List.length_map]) (by omega) (by omega) ?_
  intro v2 c2 u ho2 H
  rw [Nat.zero_add, List.nil_append] at ho2
  obtain ⟨o2, cap2, rfl⟩ := ho2.slice
  refine s_asS (h_st H (by repeat (first | exact pick_head | apply pick_tail | apply pick_app)) (by simp) rfl fun u H => ?_)
  iterate 3 refine h_ldI H (by repeat (first | exact pick_head | apply pick_tail | apply pick_app)) rfl ?_
  refine h_ldS H (by repeat (first | exact pick_head | apply pick_tail | apply pick_app)) rfl (h_ldI H (by repeat (first | exact pick_head | apply pick_tail | apply pick_app)) rfl (h_ldI H (by repeat (first | exact pick_head | apply pick_tail | apply pick_app)) rfl ?_))
  (refine h_new H fun n38 u H => ?_)
  refine h_app1 elemR H (by repeat (first | exact cut_head | exact cut_all | apply cut_tail | apply cut_app)) ho1 (by repeat (first | exact pick_head | apply pick_tail | apply pick_app)) rfl (arr_one [(⟨s, q, e, o2, cap2, vals, slot, place⟩ : AR)] _ (List.mem_singleton.2 rfl)) (by omega) (by omega) ?_
  intro v3 c3 u ho3 H
  obtain ⟨o3, cap3, rfl⟩ := ho3.slice
  have hj : (if hasR R s then posR R s + 1 else posR R s) ≤ R.length := by
    split
    · rename_i hh
      obtain ⟨r0, hr0⟩ := hasR_look hh
      have := (List.getElem?_eq_some_iff.1 (lookR_some hr0).1).1
      omega
    · exact hle
  refine s_asS (s_blk (fun vs W => vs = [.int .i64 ((if hasR R s then posR R s + 1 else posR R s : Nat) : Int)] ∧ Has w0 W (c3 ++ (c2 ++ (cl p 50 [.slice ox R.length capx] :: (cr ++ (cs.flatten ++ m)))))) ?_ ?_)
  · rintro _ _ W ⟨rfl, H⟩
    generalize hjj : (if hasR R s then posR R s + 1 else posR R s) = jj at hj
    have hpj : posR R s ≤ jj := by rw [← hjj]; split <;> omega
    refine s_asI (h_ldS H (by repeat (first | exact pick_head | apply pick_tail | apply pick_app)) rfl (s_req ⟨by omega, by omega⟩ ?_))
    have hat := rowsAt'_own ho H (by repeat (first | exact cut_head | exact cut_all | apply cut_tail | apply cut_app))
    simp only [Int.toNat_natCast]
    refine h_appRows elemR (by decide) H cut_head ho3 (arr6 X) (arr_one X) hat (hnone hat) (i := jj) (j := R.length - jj) (by rw [List.length_map]; omega) (by rw [List.length_map]; omega) (by omega) (by omega) ?_
    intro v4 c4 u ho4 H
    obtain ⟨o4, cap4, rfl⟩ := ho4.slice
    refine s_asS (h_st H (by repeat (first | exact pick_head | apply pick_tail | apply pick_app)) (by simp) rfl fun u H => s_ret ?_)
    have hset : setR R ⟨s, q, ⟨e, vals, slot, place⟩⟩ = (X.take (posR R s) ++ [(⟨s, q, e, o2, cap2, vals, slot, place⟩ : AR)] ++ X.drop jj).map AR.row := by
      unfold setR
      simp only [List.map_append, List.map_take, List.map_drop, hX, hjj]
      rfl
    have hfin : Has w0 u (cl p 50 [.slice o4 (posR R s + 1 + (R.length - jj)) cap4] :: (c4 ++ ((cs.take (posR R s) ++ [c2] ++ cs.drop jj).flatten ++ m))) := by
      have H2 : Has w0 u (c2 ++ (cs.flatten ++ (cl p 50 [.slice o4 (posR R s + 1 + (R.length - jj)) cap4] :: (c4 ++ m)))) := H.sub (by repeat (first | exact sb_refl | exact sb_nil | refine sb_cons (by repeat (first | exact pick_head | apply pick_tail | apply pick_app)) ?_ | refine sb_app (by repeat (first | exact cut_head | exact cut_all | apply cut_tail | apply cut_app)) ?_ | exact sb_one (by repeat (first | exact cut_head | exact cut_all | apply cut_tail | apply cut_app))))
      have H3 := H2.sub (flat_split hpj c2 _)
      exact H3.sub (by repeat (first | exact sb_refl | exact sb_nil | refine sb_cons (by repeat (first | exact pick_head | apply pick_tail | apply pick_app)) ?_ | refine sb_app (by repeat (first | exact cut_head | exact cut_all | apply cut_tail | apply cut_app)) ?_ | exact sb_one (by repeat (first | exact cut_head | exact cut_all | apply cut_tail | apply cut_app))))
    refine ⟨_, _, rfl, ⟨_, _, c4, _, rfl, hset.symm, ?_, hV.part (x := ⟨s, q, e, o2, cap2, vals, slot, place⟩) ho2 (by omega) hpj⟩, rassoc_from hfin⟩
    have hlen : (setR R ⟨s, q, ⟨e, vals, slot, place⟩⟩).length = posR R s + 1 + (R.length - jj) := by
      rw [hset]
      simp only [List.length_map, List.length_append, List.length_take, List.length_drop, List.length_singleton]
      omega
    rw [hlen, encA_append, encA_append]
    have htk : (((X.map arr).drop jj).take (R.length - jj)).flatten = encA (X.drop jj) := by
      rw [List.take_of_length_le (by simp; omega), ← List.map_drop]
      rfl
    rw [htk] at ho4
    exact ho4
  · refine s_ite (fun g => s_next (by simp) ?_) (fun g => s_next (by simp) ?_)
    · simp (config := { decide := true }) only [if_true, if_false]
      exact ⟨by rw [g, if_pos rfl, w_succ (by omega)], H.sub (by repeat (first | exact sb_refl | exact sb_nil | refine sb_cons (by repeat (first | exact pick_head | apply pick_tail | apply pick_app)) ?_ | refine sb_app (by repeat (first | exact cut_head | exact cut_all | apply cut_tail | apply cut_app)) ?_ | exact sb_one (by repeat (first | exact cut_head | exact cut_all | apply cut_tail | apply cut_app))))⟩
    · simp (config := { decide := true }) only [if_true, if_false]
      exact ⟨by rw [g, if_neg (by simp)], H.sub (by repeat (first | exact sb_refl | exact sb_nil | refine sb_cons (by repeat (first | exact pick_head | apply pick_tail | apply pick_app)) ?_ | refine sb_app (by repeat (first | exact cut_head | exact cut_all | apply cut_tail | apply cut_app)) ?_ | exact sb_one (by repeat (first | exact cut_head | exact cut_all | apply cut_tail | apply cut_app))))⟩
end
end Go.Proofs.Ytcmdbaafnbdpbaa
