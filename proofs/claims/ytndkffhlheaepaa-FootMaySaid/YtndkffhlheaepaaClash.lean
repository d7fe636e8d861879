/- Whether two transactions stand in each other's way. -/
import Derived.Test.YtndkffhlheaepaaLocks2
set_option linter.unusedVariables false
set_option linter.unusedSimpArgs false
set_option maxRecDepth 100000
set_option maxHeartbeats 2000000
namespace Go.Proofs.Ytndkffhlheaepaa
open Go hiding Expr
open Go.RowKit Tr

/-- Two lists of locks clash. -/
def clashL (l m : List Lk) : Bool := l.any (fun a => m.any (fun b => decide (a.k = b.k) && (a.x || b.x)))
def clashB (x y : TX) : Bool := clashL (locksOf x) (locksOf y)
def condB (D : List (K × Bool)) (y : Lk) : Bool := match getAt D y.k with
  | some a => a || y.x
  | none => false
theorem locksOf_x {x : TX} {y : Lk} (h : y ∈ locksOf x) : y.x = decide (y.k ∈ x.wr) := by
  obtain ⟨k, _, rfl⟩ := List.mem_map.1 h
  rfl
theorem locksOf_in {x : TX} (hx : TxOk x) {y : Lk} (h : y ∈ locksOf x) : InK y.k := by
  obtain ⟨k, hk, rfl⟩ := List.mem_map.1 h
  rcases List.mem_append.1 ((KS_mem _ _).1 hk) with h | h
  · exact hx.inr k h
  · exact hx.inw k h
theorem cond_any {D : List (K × Bool)} {l m : List Lk} (hD : ∀ k b, getAt D k = some b ↔ (⟨k, b⟩ : Lk) ∈ l) : m.any (condB D) = clashL l m := by
  unfold clashL
  apply Bool.eq_iff_iff.2
  simp only [List.any_eq_true, Bool.and_eq_true, decide_eq_true_eq, Bool.or_eq_true]
  constructor
  · rintro ⟨y, hy, hc⟩
    unfold condB at hc
    cases hg : getAt D y.k with
    | none => rw [hg] at hc; cases hc
    | some a =>
      rw [hg] at hc
      exact ⟨⟨y.k, a⟩, (hD _ _).1 hg, y, hy, rfl, by simpa using hc⟩
  · rintro ⟨a, ha, y, hy, hk, hc⟩
    refine ⟨y, hy, ?_⟩
    have : getAt D y.k = some a.x := (hD _ _).2 (by rw [← hk]; exact ha)
    unfold condB
    rw [this]
    simpa using hc

section
variable {w w' w0 : World} {o : Option Addr} {n cap p b : Nat} {om : Obj} {D : List (K × Bool)} {m : List Lk}
theorem clash1_c (hc : Cells w p 68 [.map (some b)]) (hb : w.heap[b]? = some om) (hM : MapB om D) {y : Lk} (hy : InK y.k) : Calls Try.prog 36 #[.agg ⟨lr y⟩, .pointer (some ⟨p, 0, none⟩)] w fun e w' => e = .returned (.bool (condB D y)) ∧ Fr [] w w' := by
  apply c36
  refine h_new (Has.init w) fun n5 u H => ?_
  obtain ⟨lk, hkl⟩ := keyOfK hy
  refine s_ldM (H.base.cells hc (by simp)) rfl (h_ldI H (by repeat (first | exact pick_head | apply pick_tail | apply pick_app)) rfl (h_ldI H (by repeat (first | exact pick_head | apply pick_tail | apply pick_app)) rfl ?_))
  have hb2 : u.heap[b]? = some om := by rw [H.base.block b (Array.getElem?_eq_some_iff.1 hb).1 (by simp)]; exact hb
  refine s_look2 (a := y.k) (kf := kfK) (vf := vB) (hM.map hb2) keyedK mapB (zeroB _) (kfK_inj' y.k D) hkl ?_
  unfold condB
  cases hg : getAt D y.k with
  | none => exact s_asU (s_req rfl (s_asB (s_asB (s_false rfl (s_ret ⟨rfl, H.base⟩)))))
  | some a =>
    refine s_asU (s_req rfl (s_asB (s_asB (s_true rfl (s_ite (fun g => s_ret ⟨?_, H.base⟩) (fun g => h_ldB H (by repeat (first | exact pick_head | apply pick_tail | apply pick_app)) rfl (s_ret ⟨?_, H.base⟩)))))))
    · have g : a = true := g
      rw [g]; rfl
    · have g : a = false := g
      rw [g]; rfl

theorem contf_c (hl : LocksAt w o m) (hn : n = m.length) (hmax : m.length < 9223372036854775807) (hc : Cells w p 68 [.map (some b)]) (hb : w.heap[b]? = some om) (hM : MapB om D) (hin : ∀ y ∈ m, InK y.k) :
    Calls Try.prog 35 #[.slice o n cap, .func (.func 36) #[] #[.pointer (some ⟨p, 0, none⟩)]] w fun e w' => e = .returned (.bool (m.any (condB D))) ∧ Fr [] w w' := by
  subst hn
  apply c35
  refine s_call (R := fun e w' => (∃ k : Int, e = .returned (.int .i64 k) ∧ (k ≥ 0 ↔ m.any (condB D) = true)) ∧ Fr [] w w') ?_ ?_
  · apply c51
    refine s_loop (fun vs W => ∃ i : Nat, vs = [.int .i64 i] ∧ i ≤ m.length ∧ (m.take i).any (condB D) = false ∧ Fr [] w W) (fun vs _ => m.length - (intOf (vs.getD 0 undef)).toNat) ⟨0, rfl, by omega, by simp, Fr.refl _ _⟩ ?_
    rintro _ j W ⟨i, rfl, hi, hno, hF⟩
    refine s_asI (s_ite (fun g1 => ?_) (fun g1 => ?_))
    · simp only [decide_eq_true_eq] at g1
      have hlt : i < m.length := by omega
      obtain ⟨x, hx⟩ : ∃ x, m[i]? = some x := ⟨_, List.getElem?_eq_getElem hlt⟩
      obtain ⟨g, off, he, p1, p2, p3⟩ := (hl.fr0 hF).get hx
      have hb2 : W.heap[b]? = some om := by rw [hF.block b (Array.getElem?_eq_some_iff.1 hb).1 (by simp)]; exact hb
      refine s_req ⟨by omega, g1⟩ ⟨g, off, he, s_loadI p1 (s_loadI p2 (s_loadB p3 (s_call (clash1_c (hF.cells hc (by simp)) hb2 hM (hin x (List.mem_of_getElem? hx))) ?_)))⟩
      rintro _ u ⟨rfl, f⟩
      have hF := hF.trans f
      refine ⟨_, rfl, s_asB (s_ite (fun g2 => ?_) (fun g2 => s_next (by first | exact ⟨rfl, rfl⟩ | trivial) ?_))⟩
      · refine s_ret ⟨⟨(i : Int), rfl, ⟨fun _ => ?_, fun _ => by omega⟩⟩, hF⟩
        exact List.any_eq_true.2 ⟨x, List.mem_of_getElem? hx, g2⟩
      · simp (config := { decide := true }) only [if_true, if_false]
        refine ⟨⟨i + 1, by rw [w_succ (by omega)], by omega, ?_, hF⟩, by rw [w_succ (by omega)]; simp [intOf] <;> omega⟩
        rw [List.take_add_one, hx, Option.toList_some, List.any_append, hno]
        simpa using g2
    · simp only [decide_eq_false_iff_not] at g1
      rw [List.take_of_length_le (by omega)] at hno
      exact s_ret ⟨⟨-1, rfl, by rw [hno]; simp⟩, hF⟩
  · rintro _ u ⟨⟨k, rfl, hk⟩, f⟩
    refine ⟨_, rfl, s_asI (s_ret ⟨?_, f⟩)⟩
    congr 2
    cases hb : m.any (condB D) with
    | true => rw [decide_eq_true_eq]; exact hk.2 hb
    | false => rw [decide_eq_false_iff_not]; exact fun hh => by rw [hk.1 hh] at hb; cases hb

theorem clash_c {x y : TX} (h : TxAt w x) (hx : TxOk x) (h' : TxAt w y) (hy : TxOk y) : Calls Try.prog 16 #[.agg ⟨txr x⟩, .agg ⟨txr y⟩] w fun en w' => en = .returned (.bool (clashB x y)) ∧ Fr [] w w' := by
  have hsx := hx.sz
  have hsy := hy.sz
  apply c16
  refine h_new (Has.init w) fun n28 u H => h_new H fun n29 u H => h_newMap H fun n30 u H => h_new H fun n31 u H => ?_
  refine h_st H (by repeat (first | exact pick_head | apply pick_tail | apply pick_app)) (by simp) rfl fun u H => ?_
  refine h_ldI H (by repeat (first | exact pick_head | apply pick_tail | apply pick_app)) rfl (h_ldI H (by repeat (first | exact pick_head | apply pick_tail | apply pick_app)) rfl (h_ldS H (by repeat (first | exact pick_head | apply pick_tail | apply pick_app)) rfl (h_ldS H (by repeat (first | exact pick_head | apply pick_tail | apply pick_app)) rfl (h_ldS H (by repeat (first | exact pick_head | apply pick_tail | apply pick_app)) rfl (h_ldS H (by repeat (first | exact pick_head | apply pick_tail | apply pick_app)) rfl ?_)))))
  refine s_call (locks_c (h.fr0 H.base) hx) ?_
  rintro _ u ⟨v, c, rfl, ho, Hc⟩
  have H := H.join Hc
  obtain ⟨o1, cap1, rfl⟩ := ho.slice
  have hll := locksOf_len x
  refine ⟨_, rfl, s_asS ?_⟩
  refine s_loop (fun vs W => ∃ (i : Nat) (om : Obj) (D : List (K × Bool)), vs = [.int .i64 i] ∧ i ≤ (locksOf x).length ∧ MapB om D ∧ (∀ k b, getAt D k = some b ↔ (⟨k, b⟩ : Lk) ∈ (locksOf x).take i) ∧
      Has w W ((n30, om) :: cl n31 68 [.map (some n30)] :: cl n29 39 (txr y) :: c)) (fun vs _ => (locksOf x).length - (intOf (vs.getD 0 undef)).toNat)
    ⟨0, .map #[] 0, [], rfl, by omega, MapO.new, by intro k b; simp [getAt], H.sub (by repeat (first | exact sb_refl | exact sb_nil | refine sb_cons (by repeat (first | exact pick_head | apply pick_tail | apply pick_app)) ?_ | refine sb_app (by repeat (first | exact cut_head | exact cut_all | apply cut_tail | apply cut_app)) ?_ | exact sb_one (by repeat (first | exact cut_head | exact cut_all | apply cut_tail | apply cut_app))))⟩ ?_
  clear H
  rintro _ j W ⟨i, om, D, rfl, hi, hM, hD, H⟩
  refine s_asI (s_ite (fun g1 => ?_) (fun g1 => ?_))
  · simp only [decide_eq_true_eq] at g1
    have hlt : i < (locksOf x).length := by omega
    obtain ⟨z, hz⟩ : ∃ z, (locksOf x)[i]? = some z := ⟨_, List.getElem?_eq_getElem hlt⟩
    have hzm := List.mem_of_getElem? hz
    obtain ⟨lk, hkl⟩ := keyOfK (locksOf_in hx hzm)
    obtain ⟨g, off, he, p1, p2, p3⟩ := (locksAt_own ho H (by repeat (first | exact cut_head | exact cut_all | apply cut_tail | apply cut_app))).get hz
    refine s_req ⟨by omega, g1⟩ ⟨g, off, he, s_loadI p1 (s_loadI p2 (s_loadB p3 ?_))⟩
    (refine h_new H fun n58 u H => ?_)
    iterate 3 refine h_st H (by repeat (first | exact pick_head | apply pick_tail | apply pick_app)) (by first | (simp; done) | exact Nat.le_of_ble_eq_true rfl) rfl fun u H => ?_
    refine h_ldM H (by repeat (first | exact pick_head | apply pick_tail | apply pick_app)) rfl (h_ldI H (by repeat (first | exact pick_head | apply pick_tail | apply pick_app)) rfl (h_ldI H (by repeat (first | exact pick_head | apply pick_tail | apply pick_app)) rfl (h_ldB H (by repeat (first | exact pick_head | apply pick_tail | apply pick_app)) rfl ?_)))
    refine h_put (a := z.k) (v := z.x) (kf := kfK) (vf := vB) H (b := n30) (o := om) (by repeat (first | exact pick_head | apply pick_tail | apply pick_app)) hM keyedK mapB (kfK_inj' z.k D) hkl fun om' u hM' H => s_next (by first | exact ⟨rfl, rfl⟩ | trivial) ?_
    simp (config := { decide := true }) only [if_true, if_false]
    refine ⟨⟨i + 1, om', _, by rw [w_succ (by omega)], by omega, hM', fun k' b' => ?_, H.sub (by repeat (first | exact sb_refl | exact sb_nil | refine sb_cons (by repeat (first | exact pick_head | apply pick_tail | apply pick_app)) ?_ | refine sb_app (by repeat (first | exact cut_head | exact cut_all | apply cut_tail | apply cut_app)) ?_ | exact sb_one (by repeat (first | exact cut_head | exact cut_all | apply cut_tail | apply cut_app))))⟩, by rw [w_succ (by omega)]; simp [intOf] <;> omega⟩
    rw [getAt_put, List.take_add_one, hz, Option.toList_some, List.mem_append, List.mem_singleton]
    by_cases h1 : z.k = k'
    · rw [if_pos h1]
      subst h1
      constructor
      · intro h
        cases h
        exact .inr rfl
      · rintro (h | h)
        · have e1 := locksOf_x (List.mem_of_mem_take h)
          have e2 := locksOf_x hzm
          simp only at e1
          rw [e2, ← e1]
        · rw [← h]
    · rw [if_neg h1, hD k' b']
      constructor
      · exact fun h => .inl h
      · rintro (h | h)
        · exact h
        · exact absurd (by rw [← h]) h1
  · simp only [decide_eq_false_iff_not] at g1
    rw [List.take_of_length_le (by omega)] at hD
    refine h_ldI H (by repeat (first | exact pick_head | apply pick_tail | apply pick_app)) rfl (h_ldI H (by repeat (first | exact pick_head | apply pick_tail | apply pick_app)) rfl (h_ldS H (by repeat (first | exact pick_head | apply pick_tail | apply pick_app)) rfl (h_ldS H (by repeat (first | exact pick_head | apply pick_tail | apply pick_app)) rfl (h_ldS H (by repeat (first | exact pick_head | apply pick_tail | apply pick_app)) rfl (h_ldS H (by repeat (first | exact pick_head | apply pick_tail | apply pick_app)) rfl ?_)))))
    refine s_call (locks_c (h'.fr0 H.base) hy) ?_
    rintro _ u ⟨v2, c2, rfl, ho2, Hc2⟩
    have H := H.join Hc2
    obtain ⟨o2, cap2, rfl⟩ := ho2.slice
    have hll2 := locksOf_len y
    refine ⟨_, rfl, s_asS ?_⟩
    refine s_call (contf_c (locksAt_own ho2 H (by repeat (first | exact cut_head | exact cut_all | apply cut_tail | apply cut_app))) rfl (by omega) (H.cells (by repeat (first | exact pick_head | apply pick_tail | apply pick_app))) (H.get (e := (n30, om)) (by repeat (first | exact pick_head | apply pick_tail | apply pick_app))) hM (fun z hz => locksOf_in hy hz)) ?_
    rintro _ u ⟨rfl, f⟩
    rw [cond_any hD]
    exact ⟨_, rfl, s_asB (s_ret ⟨rfl, (H.fr0 f).base⟩)⟩

theorem rclash_c {x y : TX} (h : TxAt w x) (hx : TxOk x) (h' : TxAt w y) (hy : TxOk y) : Calls Try.prog 17 #[.agg ⟨txr x⟩, .agg ⟨txr y⟩] w fun en w' => en = .returned (.bool (clashB x y)) ∧ Fr [] w w' := by
  have hsx := hx.sz
  have hsy := hy.sz
  apply c17
  refine h_new (Has.init w) fun n28 u H => h_new H fun n29 u H => h_drew H fun u H => ?_
  refine h_ldI H (by repeat (first | exact pick_head | apply pick_tail | apply pick_app)) rfl (h_ldI H (by repeat (first | exact pick_head | apply pick_tail | apply pick_app)) rfl (h_ldS H (by repeat (first | exact pick_head | apply pick_tail | apply pick_app)) rfl (h_ldS H (by repeat (first | exact pick_head | apply pick_tail | apply pick_app)) rfl (h_ldS H (by repeat (first | exact pick_head | apply pick_tail | apply pick_app)) rfl (h_ldS H (by repeat (first | exact pick_head | apply pick_tail | apply pick_app)) rfl ?_)))))
  refine h_ldI H (by repeat (first | exact pick_head | apply pick_tail | apply pick_app)) rfl (h_ldI H (by repeat (first | exact pick_head | apply pick_tail | apply pick_app)) rfl (h_ldS H (by repeat (first | exact pick_head | apply pick_tail | apply pick_app)) rfl (h_ldS H (by repeat (first | exact pick_head | apply pick_tail | apply pick_app)) rfl (h_ldS H (by repeat (first | exact pick_head | apply pick_tail | apply pick_app)) rfl (h_ldS H (by repeat (first | exact pick_head | apply pick_tail | apply pick_app)) rfl ?_)))))
  refine s_call (rlocks_c (h.fr0 H.base) hx) ?_
  rintro _ u ⟨v, c, rfl, ho, Hc⟩
  have H := H.join Hc
  obtain ⟨o1, cap1, rfl⟩ := ho.slice
  have hll := locksOf_len x
  refine ⟨_, rfl, s_asS (s_chk (hc_cons H (by repeat (first | exact pick_head | apply pick_tail | apply pick_app)) rfl (hc_cons H (by repeat (first | exact pick_head | apply pick_tail | apply pick_app)) rfl (hc_cons H (by repeat (first | exact pick_head | apply pick_tail | apply pick_app)) rfl (hc_cons H (by repeat (first | exact pick_head | apply pick_tail | apply pick_app)) rfl (hc_cons H (by repeat (first | exact pick_head | apply pick_tail | apply pick_app)) rfl (hc_cons H (by repeat (first | exact pick_head | apply pick_tail | apply pick_app)) rfl c_nil)))))) ?_)⟩
  refine s_call (rlocks_c (h'.fr0 H.base) hy) ?_
  rintro _ u ⟨v2, c2, rfl, ho2, Hc2⟩
  have H := H.join Hc2
  obtain ⟨o2, cap2, rfl⟩ := ho2.slice
  have hll2 := locksOf_len y
  refine ⟨_, rfl, s_asS (s_chk c_nil ?_)⟩
  generalize hX : locksOf x = L at *
  generalize hY : locksOf y = M at *
  have hval : clashB x y = clashL L M := by unfold clashB; rw [hX, hY]
  rw [hval]
  refine s_loop (fun vs W => ∃ i : Nat, vs = [.int .i64 i] ∧ i ≤ L.length ∧ clashL (L.take i) M = false ∧ Has w W (c2 ++ c)) (fun vs _ => L.length - (intOf (vs.getD 0 undef)).toNat) ⟨0, rfl, by omega, by simp [clashL], H.sub (by repeat (first | exact sb_refl | exact sb_nil | refine sb_cons (by repeat (first | exact pick_head | apply pick_tail | apply pick_app)) ?_ | refine sb_app (by repeat (first | exact cut_head | exact cut_all | apply cut_tail | apply cut_app)) ?_ | exact sb_one (by repeat (first | exact cut_head | exact cut_all | apply cut_tail | apply cut_app))))⟩ ?_
  clear H
  rintro _ j W ⟨i, rfl, hi, hno, H⟩
  refine s_asI (s_ite (fun g1 => ?_) (fun g1 => ?_))
  · simp only [decide_eq_true_eq] at g1
    obtain ⟨a, ha⟩ : ∃ a, L[i]? = some a := ⟨_, List.getElem?_eq_getElem (by omega)⟩
    refine s_loop (fun vs W => ∃ k : Nat, vs = [.int .i64 k] ∧ k ≤ M.length ∧ (M.take k).any (fun b => decide (a.k = b.k) && (a.x || b.x)) = false ∧ Has w W (c2 ++ c)) (fun vs _ => M.length - (intOf (vs.getD 0 undef)).toNat) ⟨0, rfl, by omega, by simp, H⟩ ?_
    clear H
    rintro _ j2 W ⟨k, rfl, hk, hno2, H⟩
    refine s_asI (s_ite (fun g2 => ?_) (fun g2 => ?_))
    · simp only [decide_eq_true_eq] at g2
      obtain ⟨b, hb⟩ : ∃ b, M[k]? = some b := ⟨_, List.getElem?_eq_getElem (by omega)⟩
      refine h_drew H fun u H => ?_
      obtain ⟨ga, offa, hea, a1, a2, a3⟩ := (locksAt_own ho H (by repeat (first | exact cut_head | exact cut_all | apply cut_tail | apply cut_app))).get ha
      obtain ⟨gb, offb, heb, b1, b2, b3⟩ := (locksAt_own ho2 H (by repeat (first | exact cut_head | exact cut_all | apply cut_tail | apply cut_app))).get hb
      have hyes : (decide (a.k = b.k) && (a.x || b.x)) = true → clashL L M = true := fun h => List.any_eq_true.2 ⟨a, List.mem_of_getElem? ha, List.any_eq_true.2 ⟨b, List.mem_of_getElem? hb, h⟩⟩
      have hnext : (decide (a.k = b.k) && (a.x || b.x)) = false → (M.take (k + 1)).any (fun b => decide (a.k = b.k) && (a.x || b.x)) = false := by
        intro h
        rw [List.take_add_one, hb, Option.toList_some, List.any_append, hno2]
        simpa using h
      refine s_req ⟨by omega, g1⟩ ⟨ga, offa, hea, s_loadI a1 (s_loadI a2 (s_req ⟨by omega, g2⟩ ⟨gb, offb, heb, s_loadI b1 (s_loadI b2 (s_ite (fun g3 => ?_) (fun g3 => s_next (by first | exact ⟨rfl, rfl⟩ | trivial) ?_)))⟩))⟩
      · have hk : a.k = b.k := by
          simp only [Bool.and_eq_true, beq_iff_eq, Bool.and_true] at g3
          exact K.ext' g3.1 g3.2
        refine s_req ⟨by omega, g1⟩ ⟨ga, offa, hea, s_loadB a3 (s_ite (fun g4 => s_ret ⟨?_, H.base⟩) (fun g4 => s_req ⟨by omega, g2⟩ ⟨gb, offb, heb, s_loadB b3 (s_ite (fun g5 => s_ret ⟨?_, H.base⟩) (fun g5 => s_next (by first | exact ⟨rfl, rfl⟩ | trivial) ?_))⟩))⟩
        · rw [hyes (by simp [hk, g4])]
        · rw [hyes (by simp [hk, g5])]
        · simp (config := { decide := true }) only [if_true, if_false]
          exact ⟨⟨k + 1, by rw [w_succ (by omega)], by omega, hnext (by simp [g4, g5]), H⟩, by rw [w_succ (by omega)]; simp [intOf] <;> omega⟩
      · have hk : ¬ a.k = b.k := by
          intro h
          rw [h] at g3
          simp at g3
        simp (config := { decide := true }) only [if_true, if_false]
        exact ⟨⟨k + 1, by rw [w_succ (by omega)], by omega, hnext (by simp [hk]), H⟩, by rw [w_succ (by omega)]; simp [intOf] <;> omega⟩
    · simp only [decide_eq_false_iff_not] at g2
      rw [List.take_of_length_le (by omega)] at hno2
      refine s_next (by first | exact ⟨rfl, rfl⟩ | trivial) ?_
      simp (config := { decide := true }) only [if_true, if_false]
      refine ⟨⟨i + 1, by rw [w_succ (by omega)], by omega, ?_, H⟩, by rw [w_succ (by omega)]; simp [intOf] <;> omega⟩
      unfold clashL at hno ⊢
      rw [List.take_add_one, ha, Option.toList_some, List.any_append, hno]
      simpa using hno2
  · simp only [decide_eq_false_iff_not] at g1
    rw [List.take_of_length_le (by omega)] at hno
    exact s_ret ⟨by rw [hno], H.base⟩
end
end Go.Proofs.Ytndkffhlheaepaa
