/- The locks of a partition. -/
import Derived.Test.YtndkffhlheaepaaLive
set_option linter.unusedVariables false
set_option linter.unusedSimpArgs false
set_option maxRecDepth 100000
set_option maxHeartbeats 2000000
namespace Go.Proofs.Ytndkffhlheaepaa
open Go hiding Expr
open Go.RowKit Tr

def keepL (part parts : Int) (y : Lk) : Bool := decide (partI y.k parts = part)
def atOf (x : TX) (part parts : Int) : List Lk := (locksOf x).filter (keepL part parts)
theorem encL_set (L : List Lk) (i : Nat) (v : Lk) : (((encL L).set (i * 3) (.int .i32 v.k.t)).set (i * 3 + 1) (.int .i64 v.k.r)).set (i * 3 + 2) (.bool v.x) = encL (L.set i v) := by
  induction L generalizing i with
  | nil => simp [encL]
  | cons y L ih =>
    have e1 : encL (y :: L) = .int .i32 y.k.t :: .int .i64 y.k.r :: .bool y.x :: encL L := rfl
    cases i with
    | zero => rw [e1]; rfl
    | succ i =>
      rw [e1, List.set_cons_succ, show (i + 1) * 3 = i * 3 + 1 + 1 + 1 by omega]
      simp only [List.set_cons_succ]
      rw [ih]
      rfl
theorem encL_take (L : List Lk) (i : Nat) : (encL L).take (i * 3) = encL (L.take i) := by
  unfold encL
  rw [List.map_take, ← rows_take (lr3 L)]
theorem encL_len (L : List Lk) : (encL L).length = L.length * 3 := by unfold encL; rw [flat_len (lr3 L), List.length_map]

section
variable {w w' w0 : World} {m c : Hp} {o : Option Addr} {n cap a b : Nat} {part parts : Int} {l : List Lk}
theorem at1_c (h1 : Cells w a 3 [.int .i64 parts]) (h2 : Cells w b 3 [.int .i64 part]) (y : Lk) : Calls Try.prog 45 #[.agg ⟨lr y⟩, .pointer (some ⟨a, 0, none⟩), .pointer (some ⟨b, 0, none⟩)] w fun e w' => e = .returned (.bool (!keepL part parts y)) ∧ Fr [] w w' := by
  apply c45
  refine h_new (Has.init w) fun n7 u H => h_drew H fun u H => h_ldI H (by repeat (first | exact pick_head | apply pick_tail | apply pick_app)) rfl (h_ldI H (by repeat (first | exact pick_head | apply pick_tail | apply pick_app)) rfl ?_)
  refine s_ldI (H.base.cells h1 (by simp)) rfl (s_ldI (H.base.cells h2 (by simp)) rfl ?_)
  refine s_call (part_k_c y.k parts) ?_
  rintro _ u ⟨rfl, f⟩
  have H := H.fr0 f
  refine ⟨_, rfl, s_asI (s_chk ⟨(H.base.cells h2 (by simp)).cell rfl, trivial⟩ (s_ret ⟨?_, H.base⟩))⟩
  unfold keepL
  congr 2

theorem idxb_c (hl : LocksAt w o l) (hn : n = l.length) (hmax : l.length < 9223372036854775807) (h1 : Cells w a 3 [.int .i64 parts]) (h2 : Cells w b 3 [.int .i64 part]) :
    Calls Try.prog 51 #[.slice o n cap, .func (.func 45) #[] #[.pointer (some ⟨a, 0, none⟩), .pointer (some ⟨b, 0, none⟩)]] w fun e w' =>
      ((e = .returned (.int .i64 (-1)) ∧ l.filter (keepL part parts) = l) ∨ ∃ i : Nat, e = .returned (.int .i64 (i : Int)) ∧ i < l.length ∧ (l.take i).filter (keepL part parts) = l.take i ∧ ∃ y, l[i]? = some y ∧ keepL part parts y = false) ∧ Fr [] w w' := by
  subst hn
  apply c51b
  refine s_loop (fun vs W => ∃ i : Nat, vs = [.int .i64 i] ∧ i ≤ l.length ∧ (l.take i).filter (keepL part parts) = l.take i ∧ Fr [] w W) (fun vs _ => l.length - (intOf (vs.getD 0 undef)).toNat) ⟨0, rfl, by omega, by simp, Fr.refl _ _⟩ ?_
  rintro _ j W ⟨i, rfl, hi, hno, hF⟩
  refine s_asI (s_ite (fun g1 => ?_) (fun g1 => ?_))
  · simp only [decide_eq_true_eq] at g1
    have hlt : i < l.length := by omega
    obtain ⟨x, hx⟩ : ∃ x, l[i]? = some x := ⟨_, List.getElem?_eq_getElem hlt⟩
    obtain ⟨g, off, he, p1, p2, p3⟩ := (hl.fr0 hF).get hx
    refine s_req ⟨by omega, g1⟩ ⟨g, off, he, s_loadI p1 (s_loadI p2 (s_loadB p3 (s_call (at1_c (hF.cells h1 (by simp)) (hF.cells h2 (by simp)) x) ?_)))⟩
    rintro _ u ⟨rfl, f⟩
    have hF := hF.trans f
    refine ⟨_, rfl, s_asB (s_ite (fun g2 => ?_) (fun g2 => s_next (by first | exact ⟨rfl, rfl⟩ | trivial) ?_))⟩
    · exact s_ret ⟨.inr ⟨i, rfl, hlt, hno, x, hx, by simpa using g2⟩, hF⟩
    · simp (config := { decide := true }) only [if_true, if_false]
      refine ⟨⟨i + 1, by rw [w_succ (by omega)], by omega, ?_, hF⟩, by rw [w_succ (by omega)]; simp [intOf] <;> omega⟩
      have g2 : keepL part parts x = true := by simpa using g2
      rw [List.take_add_one, hx, Option.toList_some, List.filter_append, hno]
      simp [g2]
  · simp only [decide_eq_false_iff_not] at g1
    rw [List.take_of_length_le (by omega)] at hno
    exact s_ret ⟨.inl ⟨rfl, hno⟩, hF⟩

theorem delf_c (H : Has w0 w (c ++ m)) (ho : OwnC 52 3 (.slice o n cap) n (encL l) c) (hn : n = l.length) (hmax : l.length < 10000000000000) (h1 : ∀ u, Has w0 u m → Cells u a 3 [.int .i64 parts]) (h2 : ∀ u, Has w0 u m → Cells u b 3 [.int .i64 part]) :
    Calls Try.prog 44 #[.slice o n cap, .func (.func 45) #[] #[.pointer (some ⟨a, 0, none⟩), .pointer (some ⟨b, 0, none⟩)]] w fun e w' =>
      ∃ v c', e = .returned v ∧ OwnC 52 3 v (l.filter (keepL part parts)).length (encL (l.filter (keepL part parts))) c' ∧ Has w0 w' (c' ++ m) := by
  subst hn
  apply c44
  refine s_call (idxb_c (locksAt_own ho H cut_head) rfl (by omega) (h1 w H.right) (h2 w H.right)) ?_
  rintro _ u ⟨⟨rfl, hall⟩ | ⟨i0, rfl, hi0, hno, y0, hy0, hk0⟩, f⟩
  · have H := H.fr0 f
    exact ⟨_, rfl, s_asI (s_true rfl (s_ret ⟨_, c, rfl, by rw [hall]; exact ho, H⟩))⟩
  have H := H.fr0 f
  refine ⟨_, rfl, s_asI (s_false (by first | (simp; done) | (simp; omega)) ?_)⟩
  rw [w_succ (by omega)]
  obtain ⟨g, cap', sp0, hv, _⟩ := ho.pos (by omega)
  cases hv
  have hf0 : (l.take (i0 + 1)).filter (keepL part parts) = l.take i0 := by
    rw [List.take_add_one, hy0, Option.toList_some, List.filter_append, hno]
    simp [hk0]
  refine s_loop (fun vs W => ∃ (i j : Nat) (L : List Lk) (c : Hp), vs = [.int .i64 i, .int .i64 j] ∧ i < j ∧ j ≤ l.length ∧ L.length = l.length ∧ L.take i = (l.take j).filter (keepL part parts) ∧ L.drop j = l.drop j ∧
      OwnC 52 3 (.slice (some ⟨g, 0, none⟩) l.length cap) l.length (encL L) c ∧ Has w0 W (c ++ m)) (fun vs _ => l.length - (intOf (vs.getD 1 undef)).toNat)
    ⟨i0, i0 + 1, l, c, rfl, by omega, by omega, rfl, hf0.symm, rfl, ho, H⟩ ?_
  clear H ho
  rintro _ j' W ⟨i, j, L, c, rfl, hij, hj, hLl, htk, hdr, ho, H⟩
  refine s_asI (s_asI (s_ite (fun g1 => ?_) (fun g1 => ?_)))
  · simp only [decide_eq_true_eq] at g1
    have hlt : j < l.length := by omega
    obtain ⟨y, hy⟩ : ∃ y, l[j]? = some y := ⟨_, List.getElem?_eq_getElem hlt⟩
    have hyL : L[j]? = some y := by
      have := congrArg (fun q => q[0]?) hdr
      simp only [List.getElem?_drop, Nat.add_zero] at this
      rw [this, hy]
    have ho2 : OwnC 52 3 (.slice (some ⟨g, 0, none⟩) L.length cap) L.length (encL L) c := by rw [hLl]; exact ho
    obtain ⟨g', off', he, p1, p2, p3⟩ := (locksAt_own ho2 H cut_head).get hyL
    cases he
    refine s_req ⟨by omega, g1⟩ (s_sm (s_loadI p1 (s_loadI p2 (s_loadB p3 ?_))))
    refine h_new H fun n18 u H => ?_
    iterate 3 refine h_st H (by repeat (first | exact pick_head | apply pick_tail | apply pick_app)) (by first | (simp; done) | exact Nat.le_of_ble_eq_true rfl) rfl fun u H => ?_
    refine h_ldI H (by repeat (first | exact pick_head | apply pick_tail | apply pick_app)) rfl (h_ldI H (by repeat (first | exact pick_head | apply pick_tail | apply pick_app)) rfl (h_ldB H (by repeat (first | exact pick_head | apply pick_tail | apply pick_app)) rfl ?_))
    refine s_call (at1_c (h1 u (H.sub (by repeat (first | exact sb_refl | exact sb_nil | refine sb_cons (by repeat (first | exact pick_head | apply pick_tail | apply pick_app)) ?_ | refine sb_app (by repeat (first | exact cut_head | exact cut_all | apply cut_tail | apply cut_app)) ?_ | exact sb_one (by repeat (first | exact cut_head | exact cut_all | apply cut_tail | apply cut_app)))))) (h2 u (H.sub (by repeat (first | exact sb_refl | exact sb_nil | refine sb_cons (by repeat (first | exact pick_head | apply pick_tail | apply pick_app)) ?_ | refine sb_app (by repeat (first | exact cut_head | exact cut_all | apply cut_tail | apply cut_app)) ?_ | exact sb_one (by repeat (first | exact cut_head | exact cut_all | apply cut_tail | apply cut_app)))))) y) ?_
    rintro _ u ⟨rfl, f⟩
    have H := H.fr0 f
    have hnx : (l.take (j + 1)).filter (keepL part parts) = (l.take j).filter (keepL part parts) ++ (if keepL part parts y then [y] else []) := by
      rw [List.take_add_one, hy, Option.toList_some, List.filter_append]
      congr 1
      by_cases h : keepL part parts y <;> simp [h]
    refine ⟨_, rfl, s_asB (s_ite (fun g2 => ?_) (fun g2 => s_next (by first | exact ⟨rfl, rfl⟩ | trivial) ?_))⟩
    · have g2 : keepL part parts y = true := by simpa using g2
      refine h_ldI H (by repeat (first | exact pick_head | apply pick_tail | apply pick_app)) rfl (h_ldI H (by repeat (first | exact pick_head | apply pick_tail | apply pick_app)) rfl (h_ldB H (by repeat (first | exact pick_head | apply pick_tail | apply pick_app)) rfl (s_req ⟨by omega, by omega⟩ (s_sm ?_))))
      have hxl := encL_len L
      refine h_stC (i := i) (f := 0) H (by repeat (first | exact cut_head | exact cut_all | apply cut_tail | apply cut_app)) ho (by rw [hxl]; omega) rfl fun c1 u ho H => ?_
      refine h_stC (i := i) (f := 1) H (by repeat (first | exact cut_head | exact cut_all | apply cut_tail | apply cut_app)) ho (by rw [List.length_set, hxl]; omega) rfl fun c2 u ho H => ?_
      refine h_stC (i := i) (f := 2) H (by repeat (first | exact cut_head | exact cut_all | apply cut_tail | apply cut_app)) ho (by rw [List.length_set, List.length_set, hxl]; omega) rfl fun c3 u ho H => s_next (by first | exact ⟨rfl, rfl⟩ | trivial) ?_
      have hset := encL_set L i y
      rw [Nat.add_zero, hset] at ho
      simp (config := { decide := true }) only [if_true, if_false]
      refine ⟨⟨i + 1, j + 1, L.set i y, c3, by rw [w_succ (by omega), w_succ (by omega)], by omega, by omega, by rw [List.length_set]; exact hLl, ?_, ?_, ho, H.sub (by repeat (first | exact sb_refl | exact sb_nil | refine sb_cons (by repeat (first | exact pick_head | apply pick_tail | apply pick_app)) ?_ | refine sb_app (by repeat (first | exact cut_head | exact cut_all | apply cut_tail | apply cut_app)) ?_ | exact sb_one (by repeat (first | exact cut_head | exact cut_all | apply cut_tail | apply cut_app))))⟩, by rw [w_succ (by omega), w_succ (by omega)]; simp [intOf] <;> omega⟩
      · rw [hnx, if_pos g2, ← htk, List.take_add_one, List.take_set, List.getElem?_set, if_pos rfl, if_pos (by omega), Option.toList_some]
        congr 1
        exact List.set_eq_of_length_le (by rw [List.length_take]; omega)
      · rw [List.drop_set_of_lt (by omega)]
        have := congrArg (List.drop 1) hdr
        rw [List.drop_drop, List.drop_drop] at this
        exact this
    · have g2 : keepL part parts y = false := by simpa using g2
      simp (config := { decide := true }) only [if_true, if_false]
      refine ⟨⟨i, j + 1, L, c, by rw [w_succ (by omega)], by omega, by omega, hLl, ?_, ?_, ho, H.sub (by repeat (first | exact sb_refl | exact sb_nil | refine sb_cons (by repeat (first | exact pick_head | apply pick_tail | apply pick_app)) ?_ | refine sb_app (by repeat (first | exact cut_head | exact cut_all | apply cut_tail | apply cut_app)) ?_ | exact sb_one (by repeat (first | exact cut_head | exact cut_all | apply cut_tail | apply cut_app))))⟩, by rw [w_succ (by omega)]; simp [intOf] <;> omega⟩
      · rw [hnx, if_neg (by simp [g2]), List.append_nil]
        exact htk
      · have := congrArg (List.drop 1) hdr
        rw [List.drop_drop, List.drop_drop] at this
        exact this
  · simp only [decide_eq_false_iff_not] at g1
    obtain rfl : j = l.length := by omega
    rw [List.take_length] at htk
    have hfl : (l.filter (keepL part parts)).length = i := by rw [← htk, List.length_take]; omega
    obtain ⟨g', cap', sp, hv, rfl, hnc, hcm, hcl⟩ := ho.pos (by omega)
    cases hv
    rw [List.length_append, encL_len, hLl] at hcl
    refine s_req ⟨by omega, by omega⟩ ?_
    rw [Int.toNat_natCast]
    have hsb : sliceBase (some ⟨g, 0, none⟩) i cap 3 = some ⟨g, if cap = i then 0 else i * 3, none⟩ := by
      unfold sliceBase
      split
      · rfl
      · simp [add_plain]
    refine s_clear (z := .agg ⟨[.int .i32 0, .int .i64 0, .bool false]⟩) (H.cells pick_head) (by kernel_rfl) (fun w => by kernel_rfl) (by intro u hu; simp [Value.cells] at hu; rcases hu with rfl | rfl | rfl <;> rfl) (by decide) hsb ?_ ?_
    · have e3 : (Value.agg ⟨[.int .i32 0, .int .i64 0, .bool false]⟩).cells.size = 3 := rfl
      rw [e3, List.length_append, encL_len, hLl]
      split <;> omega
    intro l' u hf hc hlen hsame
    have H := H.updc pick_head hf hc
    refine s_req ⟨by omega, by omega⟩ ?_
    rw [sb_zero]
    have htake : l'.take (i * 3) = encL (l.filter (keepL part parts)) := by
      rw [← htk, ← encL_take]
      apply List.ext_getElem?
      intro q
      rw [List.getElem?_take, List.getElem?_take]
      split
      · rename_i hq
        rw [hsame q (by split <;> omega), List.getElem?_append_left (by rw [encL_len]; omega)]
      · rfl
    have hl' : encL (l.filter (keepL part parts)) ++ l'.drop (i * 3) = l' := by rw [← htake, List.take_append_drop]
    refine s_ret ⟨_, [cl g 52 (encL (l.filter (keepL part parts)) ++ l'.drop (i * 3))], rfl, ⟨by rw [encL_len], .inr ⟨g, cap, _, by rw [hfl], rfl, by omega, hcm, ?_⟩⟩, by rw [hl']; exact H⟩
    rw [hl', hlen, List.length_append, encL_len, hLl]
    exact hcl

theorem at_c {x : TX} (h : TxAt w x) (hx : TxOk x) (part parts : Int) : Calls Try.prog 24 #[.agg ⟨txr x⟩, .int .i64 part, .int .i64 parts] w fun en w' =>
    ∃ v c, en = .returned v ∧ OwnC 52 3 v (atOf x part parts).length (encL (atOf x part parts)) c ∧ Has w w' c := by
  have hsz := hx.sz
  apply c24
  refine h_new (Has.init w) fun n16 u H => h_new H fun n17 u H => h_new H fun n18 u H => ?_
  refine h_ldI H (by repeat (first | exact pick_head | apply pick_tail | apply pick_app)) rfl (h_ldI H (by repeat (first | exact pick_head | apply pick_tail | apply pick_app)) rfl (h_ldS H (by repeat (first | exact pick_head | apply pick_tail | apply pick_app)) rfl (h_ldS H (by repeat (first | exact pick_head | apply pick_tail | apply pick_app)) rfl (h_ldS H (by repeat (first | exact pick_head | apply pick_tail | apply pick_app)) rfl (h_ldS H (by repeat (first | exact pick_head | apply pick_tail | apply pick_app)) rfl ?_)))))
  refine s_call (locks_c (h.fr0 H.base) hx) ?_
  rintro _ u ⟨v, c, rfl, ho, Hc⟩
  have H := H.join Hc
  obtain ⟨o1, cap1, rfl⟩ := ho.slice
  have hll := locksOf_len x
  refine ⟨_, rfl, s_asS (s_call (delf_c (parts := parts) (part := part) H ho rfl (by omega) (fun u H => H.cells (by repeat (first | exact pick_head | apply pick_tail | apply pick_app))) (fun u H => H.cells (by repeat (first | exact pick_head | apply pick_tail | apply pick_app)))) ?_)⟩
  rintro _ u ⟨v2, c2, rfl, ho2, H⟩
  obtain ⟨o2, cap2, rfl⟩ := ho2.slice
  exact ⟨_, rfl, s_asS (s_ret ⟨_, c2, rfl, ho2, H.sub (by repeat (first | exact sb_refl | exact sb_nil | refine sb_cons (by repeat (first | exact pick_head | apply pick_tail | apply pick_app)) ?_ | refine sb_app (by repeat (first | exact cut_head | exact cut_all | apply cut_tail | apply cut_app)) ?_ | exact sb_one (by repeat (first | exact cut_head | exact cut_all | apply cut_tail | apply cut_app))))⟩)⟩

theorem rat_c {x : TX} (h : TxAt w x) (hx : TxOk x) (part parts : Int) : Calls Try.prog 25 #[.agg ⟨txr x⟩, .int .i64 part, .int .i64 parts] w fun en w' =>
    ∃ v c, en = .returned v ∧ OwnC 52 3 v (atOf x part parts).length (encL (atOf x part parts)) c ∧ Has w w' c := by
  have hsz := hx.sz
  apply c25
  refine h_new (Has.init w) fun n16 u H => ?_
  refine h_ldI H (by repeat (first | exact pick_head | apply pick_tail | apply pick_app)) rfl (h_ldI H (by repeat (first | exact pick_head | apply pick_tail | apply pick_app)) rfl (h_ldS H (by repeat (first | exact pick_head | apply pick_tail | apply pick_app)) rfl (h_ldS H (by repeat (first | exact pick_head | apply pick_tail | apply pick_app)) rfl (h_ldS H (by repeat (first | exact pick_head | apply pick_tail | apply pick_app)) rfl (h_ldS H (by repeat (first | exact pick_head | apply pick_tail | apply pick_app)) rfl ?_)))))
  refine s_call (rlocks_c (h.fr0 H.base) hx) ?_
  rintro _ u ⟨v, c1, rfl, ho1, Hc⟩
  have H := H.join Hc
  obtain ⟨o1, cap1, rfl⟩ := ho1.slice
  have hll := locksOf_len x
  refine ⟨_, rfl, s_asS ?_⟩
  unfold atOf
  generalize hL : locksOf x = l at *
  refine s_loop (fun vs W => ∃ (i : Nat) (v : Value) (c : Hp), vs = [v, .int .i64 i] ∧ i ≤ l.length ∧ OwnC 52 3 v ((l.take i).filter (keepL part parts)).length (encL ((l.take i).filter (keepL part parts))) c ∧ Has w W (c ++ c1)) (fun vs _ => l.length - (intOf (vs.getD 1 undef)).toNat)
    ⟨0, _, [], rfl, by omega, OwnC.nil, H.sub (by repeat (first | exact sb_refl | exact sb_nil | refine sb_cons (by repeat (first | exact pick_head | apply pick_tail | apply pick_app)) ?_ | refine sb_app (by repeat (first | exact cut_head | exact cut_all | apply cut_tail | apply cut_app)) ?_ | exact sb_one (by repeat (first | exact cut_head | exact cut_all | apply cut_tail | apply cut_app))))⟩ ?_
  clear H
  rintro _ j W ⟨i, v, c, rfl, hi, ho, H⟩
  obtain ⟨ov, cv, rfl⟩ := ho.slice
  refine s_asS (s_asI (s_ite (fun g1 => ?_) (fun g1 => ?_)))
  · simp only [decide_eq_true_eq] at g1
    obtain ⟨y, hy⟩ : ∃ y, l[i]? = some y := ⟨_, List.getElem?_eq_getElem (by omega)⟩
    obtain ⟨g, off, he, p1, p2, p3⟩ := (locksAt_own ho1 H (by repeat (first | exact cut_head | exact cut_all | apply cut_tail | apply cut_app))).get hy
    have hnx : (l.take (i + 1)).filter (keepL part parts) = (l.take i).filter (keepL part parts) ++ (if keepL part parts y then [y] else []) := by
      rw [List.take_add_one, hy, Option.toList_some, List.filter_append]
      congr 1
      by_cases h : keepL part parts y <;> simp [h]
    have hfl := List.length_filter_le (keepL part parts) (l.take i)
    have htl : (l.take i).length = i := by rw [List.length_take]; omega
    refine s_req ⟨by omega, g1⟩ ⟨g, off, he, s_loadI p1 (s_loadI p2 (s_call (rpart_c y.k parts) ?_))⟩
    rintro _ u ⟨rfl, f⟩
    have H := H.fr0 f
    refine ⟨_, rfl, s_asI (s_ite (fun g2 => ?_) (fun g2 => s_next (by first | exact ⟨rfl, rfl⟩ | trivial) ?_))⟩
    · have g2 : keepL part parts y = true := by unfold keepL; simpa using g2
      obtain ⟨g', off', he', p1, p2, p3⟩ := (locksAt_own ho1 H (by repeat (first | exact cut_head | exact cut_all | apply cut_tail | apply cut_app))).get hy
      refine s_req ⟨by omega, g1⟩ ⟨g', off', he', s_loadI p1 (s_loadI p2 (s_loadB p3 ?_))⟩
      (refine h_new H fun n52 u H => ?_)
      refine h_app1 elemL H (by repeat (first | exact cut_head | exact cut_all | apply cut_tail | apply cut_app)) ho (by repeat (first | exact pick_head | apply pick_tail | apply pick_app)) rfl (lr_one [y] _ (List.mem_singleton.2 rfl)) (by omega) (by omega) ?_
      intro v' c' u ho' H
      obtain ⟨ov', cv', rfl⟩ := ho'.slice
      refine s_asS (s_next (by first | exact ⟨rfl, rfl⟩ | trivial) ?_)
      simp (config := { decide := true }) only [if_true, if_false]
      refine ⟨⟨i + 1, _, c', by rw [w_succ (by omega)], by omega, ?_, H.sub (by repeat (first | exact sb_refl | exact sb_nil | refine sb_cons (by repeat (first | exact pick_head | apply pick_tail | apply pick_app)) ?_ | refine sb_app (by repeat (first | exact cut_head | exact cut_all | apply cut_tail | apply cut_app)) ?_ | exact sb_one (by repeat (first | exact cut_head | exact cut_all | apply cut_tail | apply cut_app))))⟩, by rw [w_succ (by omega)]; simp [intOf] <;> omega⟩
      rw [hnx, if_pos g2, List.length_append, encL_append]
      exact ho'
    · have g2 : keepL part parts y = false := by unfold keepL; simpa using g2
      simp (config := { decide := true }) only [if_true, if_false]
      refine ⟨⟨i + 1, _, c, by rw [w_succ (by omega)], by omega, ?_, H⟩, by rw [w_succ (by omega)]; simp [intOf] <;> omega⟩
      rw [hnx, if_neg (by simp [g2]), List.append_nil]
      exact ho
  · simp only [decide_eq_false_iff_not] at g1
    rw [List.take_of_length_le (by omega)] at ho ⊢
    exact s_ret ⟨_, c, rfl, ho, H.sub (by repeat (first | exact sb_refl | exact sb_nil | refine sb_cons (by repeat (first | exact pick_head | apply pick_tail | apply pick_app)) ?_ | refine sb_app (by repeat (first | exact cut_head | exact cut_all | apply cut_tail | apply cut_app)) ?_ | exact sb_one (by repeat (first | exact cut_head | exact cut_all | apply cut_tail | apply cut_app))))⟩
end
end Go.Proofs.Ytndkffhlheaepaa
