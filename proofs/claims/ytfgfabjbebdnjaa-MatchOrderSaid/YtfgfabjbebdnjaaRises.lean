/- The walk of MatchRises. -/
import Derived.Test.YtfgfabjbebdnjaaMost
set_option linter.unusedVariables false
set_option linter.unusedSimpArgs false
set_option maxRecDepth 100000

namespace Go.Proofs.Ytfgfabjbebdnjaa
open Go hiding Expr
open Go.RowKit Tr

structure Up (s s' : MS) : Prop where
  n : s'.n = s.n
  len : s.len ≤ s'.len
  like : ∀ i, (s.at i).2 ≤ (s'.at i).2

theorem at_le {s : MS} (hs : s.Ok) (i : Int) : 0 ≤ (s.at i).2 ∧ (s.at i).2 ≤ (s.at i).1 ∧ (s.at i).1 ≤ s.len := by
  have h0 := hs.len0
  unfold MS.at
  split
  · exact ⟨Int.le_refl _, Int.le_refl _, h0⟩
  · rename_i h
    have hn5 := hs.n5
    have hlt : i.toNat < s.l.length := by rw [hs.five]; omega
    rw [List.getElem?_eq_getElem hlt]
    exact hs.each _ (List.getElem_mem hlt)
theorem Up.refl (s : MS) : Up s s := ⟨rfl, Int.le_refl _, fun _ => Int.le_refl _⟩
theorem up_upd {s : MS} (hs : s.Ok) {i : Int} (h : s.who i = true) {p : Int × Int} (hp : (s.at i).2 ≤ p.2) : Up s (s.upd i.toNat p) := by
  refine ⟨rfl, Int.le_refl _, fun k => ?_⟩
  rw [at_upd hs h]
  split
  · rename_i hk; subst hk; exact hp
  · exact Int.le_refl _
theorem who_of {s : MS} {i : Int} {p : Prop} (h : ¬ (s.who i = false ∨ p)) : s.who i = true := by
  cases hc : s.who i with
  | true => rfl
  | false => exact absurd (.inl hc) h
theorem up_tell {s : MS} (hs : s.Ok) (i : Int) (yes : Bool) (slot : Int) : Up s (s.tellS i yes slot) := by
  unfold MS.tellS
  split
  · exact Up.refl s
  · rename_i h
    have hw := who_of h
    split
    · exact up_upd hs hw (by simp only; omega)
    · split
      · exact up_upd hs hw (by simp only; omega)
      · exact Up.refl s
theorem up_sent {s : MS} (hs : s.Ok) (i to : Int) : Up s (s.sentS i to) := by
  unfold MS.sentS
  split
  · exact Up.refl s
  · rename_i h
    exact up_upd hs (who_of h) (by simp only; omega)
theorem up_grow {s : MS} (hs : s.Ok) (len : Int) : Up s (s.growS len) := by
  unfold MS.growS
  split
  · exact Up.refl s
  · rename_i h
    have h0 := hs.self0
    have h1 := hs.self1
    have h5 := hs.n5
    refine ⟨rfl, by simp only; omega, fun k => ?_⟩
    show (s.at k).2 ≤ (if k < 0 ∨ k ≥ s.n then (0, 0) else ((s.l.set s.self.toNat (len, len))[k.toNat]?).getD (0, 0)).2
    have hk := at_le hs k
    by_cases hb : k < 0 ∨ k ≥ s.n
    · rw [if_pos hb]; unfold MS.at; rw [if_pos hb]; exact Int.le_refl _
    · rw [if_neg hb, List.getElem?_set]
      split
      · rw [if_pos (by rw [hs.five]; omega)]
        simp only [Option.getD_some]
        omega
      · unfold MS.at; rw [if_neg hb]; exact Int.le_refl _
theorem Up.ag {s s' : MS} (h : Up s s') {v v' : Int} (a : IsAg s.likes v) (a' : IsAg s'.likes v') : v ≤ v' := by
  refine a.mono a' (by rw [likes_len, likes_len, h.n]) fun i x y hx hy => ?_
  have hi := (List.getElem?_eq_some_iff.1 hx).1
  rw [likes_len] at hi
  rw [likes_get i (by omega)] at hx
  rw [likes_get i (by rw [h.n]; omega)] at hy
  cases hx
  cases hy
  exact h.like _

def likes5 (s : MS) : List Value := (List.range 5).map fun (i : Nat) => .int .i64 (s.at (i : Int)).2
theorem likes5_get (s : MS) {i : Nat} (h : i < 5) : (likes5 s)[i]? = some (.int .i64 (s.at (i : Int)).2) := by
  simp only [likes5, List.getElem?_map, List.getElem?_range h, Option.map_some]


theorem rises_c {w : World} (n self len : Int) (o : Option Addr) (cap : Nat) (ops : List Opn) (hmax : ops.length ≤ maxLen) (hrows : RowsAt w o 3 (ops.map opRow)) :
    Calls Try.prog 5 #[.agg #[.int .i64 n, .int .i64 self], .int .i64 len, .slice o ops.length cap] w fun e w' => e = .returned (.bool true) ∧ Fr [] w w' := by
  apply c5
  have hmx : ops.length ≤ 9223372036854775807 := by unfold maxLen at hmax; omega
  refine h_new (Has.init w) fun r6 u H => ?_
  (repeat (first | refine s_asI ?_ | refine s_asS ?_ | refine s_asP ?_ | refine s_asB ?_ | refine s_asA ?_ | refine s_asT ?_ | refine s_asM ?_ | refine s_asU ?_ | refine s_asC ?_ | refine s_sm ?_ | refine s_req (by first | rfl | exact ⟨rfl, rfl⟩) ?_ | refine h_ldI H (by repeat (first | exact pick_head | apply pick_tail | apply pick_app)) (by first | rfl | (simp; done)) ?_ | refine h_ldB H (by repeat (first | exact pick_head | apply pick_tail | apply pick_app)) (by first | rfl | (simp; done)) ?_ | refine h_ldP H (by repeat (first | exact pick_head | apply pick_tail | apply pick_app)) (by first | rfl | (simp; done)) ?_ | refine h_ldS H (by repeat (first | exact pick_head | apply pick_tail | apply pick_app)) (by first | rfl | (simp; done)) ?_ | refine h_ldM H (by repeat (first | exact pick_head | apply pick_tail | apply pick_app)) (by first | rfl | (simp; done)) ?_ | refine h_ldT H (by repeat (first | exact pick_head | apply pick_tail | apply pick_app)) (by first | rfl | (simp; done)) ?_ | refine h_ldV H (by repeat (first | exact pick_head | apply pick_tail | apply pick_app)) (by first | rfl | (simp; done)) ?_ | (refine h_st H (by repeat (first | exact pick_head | apply pick_tail | apply pick_app)) (by simp) rfl fun u H => ?_) | (refine h_drew H fun u H => ?_) | refine s_chk c_nil ?_))
  refine s_call (new_c n self len) ?_
  rintro _ u ⟨f, ⟨hn, rfl⟩ | ⟨hn, r, hr, hc, rfl⟩⟩
  · have H := H.fr0 f
    refine ⟨_, rfl, ?_⟩
    (repeat (first | refine s_asI ?_ | refine s_asS ?_ | refine s_asP ?_ | refine s_asB ?_ | refine s_asA ?_ | refine s_asT ?_ | refine s_asM ?_ | refine s_asU ?_ | refine s_asC ?_ | refine s_sm ?_ | refine s_req (by first | rfl | exact ⟨rfl, rfl⟩) ?_ | refine h_ldI H (by repeat (first | exact pick_head | apply pick_tail | apply pick_app)) (by first | rfl | (simp; done)) ?_ | refine h_ldB H (by repeat (first | exact pick_head | apply pick_tail | apply pick_app)) (by first | rfl | (simp; done)) ?_ | refine h_ldP H (by repeat (first | exact pick_head | apply pick_tail | apply pick_app)) (by first | rfl | (simp; done)) ?_ | refine h_ldS H (by repeat (first | exact pick_head | apply pick_tail | apply pick_app)) (by first | rfl | (simp; done)) ?_ | refine h_ldM H (by repeat (first | exact pick_head | apply pick_tail | apply pick_app)) (by first | rfl | (simp; done)) ?_ | refine h_ldT H (by repeat (first | exact pick_head | apply pick_tail | apply pick_app)) (by first | rfl | (simp; done)) ?_ | refine h_ldV H (by repeat (first | exact pick_head | apply pick_tail | apply pick_app)) (by first | rfl | (simp; done)) ?_ | (refine h_st H (by repeat (first | exact pick_head | apply pick_tail | apply pick_app)) (by simp) rfl fun u H => ?_) | (refine h_drew H fun u H => ?_) | refine s_chk c_nil ?_))
    refine s_call begun_c ?_
    rintro _ u ⟨rfl, f⟩
    have H := H.fr0 f
    refine ⟨_, rfl, s_asB (s_false rfl (s_true rfl (s_call begun_c ?_)))⟩
    rintro _ u ⟨rfl, f⟩
    exact ⟨_, rfl, s_asB (s_true rfl (s_ret ⟨rfl, (H.fr0 f).base⟩))⟩
  · have H := H.addc f hr hc
    refine ⟨_, rfl, ?_⟩
    (repeat (first | refine s_asI ?_ | refine s_asS ?_ | refine s_asP ?_ | refine s_asB ?_ | refine s_asA ?_ | refine s_asT ?_ | refine s_asM ?_ | refine s_asU ?_ | refine s_asC ?_ | refine s_sm ?_ | refine s_req (by first | rfl | exact ⟨rfl, rfl⟩) ?_ | refine h_ldI H (by repeat (first | exact pick_head | apply pick_tail | apply pick_app)) (by first | rfl | (simp; done)) ?_ | refine h_ldB H (by repeat (first | exact pick_head | apply pick_tail | apply pick_app)) (by first | rfl | (simp; done)) ?_ | refine h_ldP H (by repeat (first | exact pick_head | apply pick_tail | apply pick_app)) (by first | rfl | (simp; done)) ?_ | refine h_ldS H (by repeat (first | exact pick_head | apply pick_tail | apply pick_app)) (by first | rfl | (simp; done)) ?_ | refine h_ldM H (by repeat (first | exact pick_head | apply pick_tail | apply pick_app)) (by first | rfl | (simp; done)) ?_ | refine h_ldT H (by repeat (first | exact pick_head | apply pick_tail | apply pick_app)) (by first | rfl | (simp; done)) ?_ | refine h_ldV H (by repeat (first | exact pick_head | apply pick_tail | apply pick_app)) (by first | rfl | (simp; done)) ?_ | (refine h_st H (by repeat (first | exact pick_head | apply pick_tail | apply pick_app)) (by simp) rfl fun u H => ?_) | (refine h_drew H fun u H => ?_) | refine s_chk c_nil ?_))
    refine s_call begun_c ?_
    rintro _ u ⟨rfl, f⟩
    have H := H.fr0 f
    refine ⟨_, rfl, s_asB (s_false rfl (s_false rfl ?_))⟩
    refine s_loop (fun vs W => ∃ (i : Nat) (s : MS), vs = [.int .i64 i] ∧ i ≤ ops.length ∧ s.Ok ∧ s.n = n ∧ Has w W (cl r 46 (pm s) :: cl r6 23 [.int .i64 n, .int .i64 self] :: []))
      (fun vs _ => ops.length - (intOf (vs.getD 0 undef)).toNat) ⟨0, newS n self len, rfl, by omega, newS_ok hn, rfl, H⟩ ?_
    rintro _ j W ⟨i, s, rfl, hi, hs, hsn, H⟩
    refine s_asI (s_ite (fun g => ?_) (fun g => s_ret ⟨rfl, H.base⟩))
    simp only [decide_eq_true_eq] at g
    have hw : IntKind.wrap .i64 ((i : Int) + 1) = ((i + 1 : Nat) : Int) := by rw [wrap64 (by omega) (by omega)]; rfl
    obtain ⟨gb, off, rfl, q1, q2, q3⟩ := op_at (H.rows hrows) (i := i) (by omega)
    refine s_req (by omega) (s_sm (s_loadI q1 (s_loadI q2 (s_loadI q3 ?_))))
    (refine h_new H fun n27 u H => ?_)
    (repeat (first | refine s_asI ?_ | refine s_asS ?_ | refine s_asP ?_ | refine s_asB ?_ | refine s_asA ?_ | refine s_asT ?_ | refine s_asM ?_ | refine s_asU ?_ | refine s_asC ?_ | refine s_sm ?_ | refine s_req (by first | rfl | exact ⟨rfl, rfl⟩) ?_ | refine h_ldI H (by repeat (first | exact pick_head | apply pick_tail | apply pick_app)) (by first | rfl | (simp; done)) ?_ | refine h_ldB H (by repeat (first | exact pick_head | apply pick_tail | apply pick_app)) (by first | rfl | (simp; done)) ?_ | refine h_ldP H (by repeat (first | exact pick_head | apply pick_tail | apply pick_app)) (by first | rfl | (simp; done)) ?_ | refine h_ldS H (by repeat (first | exact pick_head | apply pick_tail | apply pick_app)) (by first | rfl | (simp; done)) ?_ | refine h_ldM H (by repeat (first | exact pick_head | apply pick_tail | apply pick_app)) (by first | rfl | (simp; done)) ?_ | refine h_ldT H (by repeat (first | exact pick_head | apply pick_tail | apply pick_app)) (by first | rfl | (simp; done)) ?_ | refine h_ldV H (by repeat (first | exact pick_head | apply pick_tail | apply pick_app)) (by first | rfl | (simp; done)) ?_ | (refine h_st H (by repeat (first | exact pick_head | apply pick_tail | apply pick_app)) (by simp) rfl fun u H => ?_) | (refine h_drew H fun u H => ?_) | refine s_chk c_nil ?_))
    refine s_call (agreed_c (H.cells (by repeat (first | exact pick_head | apply pick_tail | apply pick_app))) hs) ?_
    rintro _ u ⟨v, rfl, hv, f⟩
    have H := H.fr0 f
    refine ⟨_, rfl, s_asI (s_call (length_c (H.cells (by repeat (first | exact pick_head | apply pick_tail | apply pick_app))) hs) ?_)⟩
    rintro _ _ ⟨rfl, rfl⟩
    refine ⟨_, rfl, s_asI ?_⟩
    (refine h_new H fun n32 u H => ?_)
    let st : Nat → List Value := fun k => (List.range 5).map fun (i : Nat) => .int .i64 (if i < k then (s.at (i : Int)).2 else 0)
    refine s_loop (fun vs W => ∃ (k : Nat), vs = [.int .i64 k] ∧ k ≤ 5 ∧ Has w W (cl n32 39 (st k) :: cl n27 31 [.int .i64 ops[i].d, .int .i64 ops[i].who, .int .i64 ops[i].slot] :: cl r 46 (pm s) :: cl r6 23 [.int .i64 n, .int .i64 self] :: []))
      (fun vs _ => 5 - (intOf (vs.getD 0 undef)).toNat) ⟨0, rfl, by omega, H⟩ ?_
    rintro _ j W ⟨k, rfl, hk, H⟩
    refine s_asI (s_ite (fun g => ?_) (fun g => ?_))
    · simp only [decide_eq_true_eq] at g
      have hwk : IntKind.wrap .i64 ((k : Int) + 1) = ((k + 1 : Nat) : Int) := by rw [wrap64 (by omega) (by omega)]; rfl
      refine s_call (like_c (H.cells (by repeat (first | exact pick_head | apply pick_tail | apply pick_app))) hs k) ?_
      rintro _ u ⟨rfl, f⟩
      have H := H.fr0 f
      refine ⟨_, rfl, s_asI (s_req (by omega) (h_st H (by repeat (first | exact pick_head | apply pick_tail | apply pick_app)) (by simp [st]; omega) rfl fun u H => s_next ⟨rfl, rfl⟩ ?_))⟩
      simp only [if_true]
      refine ⟨⟨k + 1, by rw [hwk], by omega, H.sub (sb_eq ?_)⟩, by rw [hwk]; simp [intOf]; omega⟩
      congr 2
      refine List.ext_getElem (by simp [st]) fun q h1 h2 => ?_
      simp only [st, List.getElem_set, List.getElem_map, List.getElem_range, Int.toNat_natCast]
      by_cases hq : k = q
      · subst hq; rw [if_pos (by omega), if_pos (by omega)]
      · rw [if_neg (by omega)]
        by_cases hq' : q < k
        · rw [if_pos hq', if_pos (by omega)]
        · rw [if_neg hq', if_neg (by omega)]
    · simp only [decide_eq_false_iff_not] at g
      obtain rfl : k = 5 := by omega
      have H : Has w W (cl n32 39 (likes5 s) :: cl n27 31 [.int .i64 ops[i].d, .int .i64 ops[i].who, .int .i64 ops[i].slot] :: cl r 46 (pm s) :: cl r6 23 [.int .i64 n, .int .i64 self] :: []) := H
      (repeat (first | refine s_asI ?_ | refine s_asS ?_ | refine s_asP ?_ | refine s_asB ?_ | refine s_asA ?_ | refine s_asT ?_ | refine s_asM ?_ | refine s_asU ?_ | refine s_asC ?_ | refine s_sm ?_ | refine s_req (by first | rfl | exact ⟨rfl, rfl⟩) ?_ | refine h_ldI H (by repeat (first | exact pick_head | apply pick_tail | apply pick_app)) (by first | rfl | (simp; done)) ?_ | refine h_ldB H (by repeat (first | exact pick_head | apply pick_tail | apply pick_app)) (by first | rfl | (simp; done)) ?_ | refine h_ldP H (by repeat (first | exact pick_head | apply pick_tail | apply pick_app)) (by first | rfl | (simp; done)) ?_ | refine h_ldS H (by repeat (first | exact pick_head | apply pick_tail | apply pick_app)) (by first | rfl | (simp; done)) ?_ | refine h_ldM H (by repeat (first | exact pick_head | apply pick_tail | apply pick_app)) (by first | rfl | (simp; done)) ?_ | refine h_ldT H (by repeat (first | exact pick_head | apply pick_tail | apply pick_app)) (by first | rfl | (simp; done)) ?_ | refine h_ldV H (by repeat (first | exact pick_head | apply pick_tail | apply pick_app)) (by first | rfl | (simp; done)) ?_ | (refine h_st H (by repeat (first | exact pick_head | apply pick_tail | apply pick_app)) (by simp) rfl fun u H => ?_) | (refine h_drew H fun u H => ?_) | refine s_chk c_nil ?_))
      refine s_ite (fun gd => ?_) (fun gd => ?_)
      · (repeat (first | refine s_asI ?_ | refine s_asS ?_ | refine s_asP ?_ | refine s_asB ?_ | refine s_asA ?_ | refine s_asT ?_ | refine s_asM ?_ | refine s_asU ?_ | refine s_asC ?_ | refine s_sm ?_ | refine s_req (by first | rfl | exact ⟨rfl, rfl⟩) ?_ | refine h_ldI H (by repeat (first | exact pick_head | apply pick_tail | apply pick_app)) (by first | rfl | (simp; done)) ?_ | refine h_ldB H (by repeat (first | exact pick_head | apply pick_tail | apply pick_app)) (by first | rfl | (simp; done)) ?_ | refine h_ldP H (by repeat (first | exact pick_head | apply pick_tail | apply pick_app)) (by first | rfl | (simp; done)) ?_ | refine h_ldS H (by repeat (first | exact pick_head | apply pick_tail | apply pick_app)) (by first | rfl | (simp; done)) ?_ | refine h_ldM H (by repeat (first | exact pick_head | apply pick_tail | apply pick_app)) (by first | rfl | (simp; done)) ?_ | refine h_ldT H (by repeat (first | exact pick_head | apply pick_tail | apply pick_app)) (by first | rfl | (simp; done)) ?_ | refine h_ldV H (by repeat (first | exact pick_head | apply pick_tail | apply pick_app)) (by first | rfl | (simp; done)) ?_ | (refine h_st H (by repeat (first | exact pick_head | apply pick_tail | apply pick_app)) (by simp) rfl fun u H => ?_) | (refine h_drew H fun u H => ?_) | refine s_chk c_nil ?_))
        refine s_call (grow_c (H.cells (by repeat (first | exact pick_head | apply pick_tail | apply pick_app))) hs _) ?_
        rintro _ u ⟨⟨er, rfl⟩, f, hc⟩
        have H := H.updc (by repeat (first | exact pick_head | apply pick_tail | apply pick_app)) f hc
        have hup := up_grow hs ops[i].slot
        have hs' := growS_ok hs ops[i].slot
        generalize s.growS ops[i].slot = s' at hup hs' H
        refine ⟨_, rfl, s_asI ?_⟩
        refine s_call (agreed_c (H.cells (by repeat (first | exact pick_head | apply pick_tail | apply pick_app))) hs') ?_
        rintro _ u ⟨v', rfl, hv', f⟩
        have H := H.fr0 f
        have hvv := hup.ag hv hv'
        refine ⟨_, rfl, s_asI (s_false (by simp only [decide_eq_false_iff_not]; omega) (s_call (length_c (H.cells (by repeat (first | exact pick_head | apply pick_tail | apply pick_app))) hs') ?_))⟩
        rintro _ _ ⟨rfl, rfl⟩
        have hll := hup.len
        refine ⟨_, rfl, s_asI (s_false (by simp only [decide_eq_false_iff_not]; omega) ?_)⟩
        refine s_loop (fun vs W => ∃ (k : Nat), vs = [.int .i64 k] ∧ k ≤ 5 ∧ Has w W (cl r 46 (pm s') :: cl n32 39 (likes5 s) :: cl r6 23 [.int .i64 n, .int .i64 self] :: []))
          (fun vs _ => 5 - (intOf (vs.getD 0 undef)).toNat) ⟨0, rfl, by omega, H.sub (by repeat (first | exact sb_refl | exact sb_nil | refine sb_cons (by repeat (first | exact pick_head | apply pick_tail | apply pick_app)) ?_ | refine sb_app (by repeat (first | exact cut_head | exact cut_all | apply cut_tail | apply cut_app)) ?_ | exact sb_one (by repeat (first | exact cut_head | exact cut_all | apply cut_tail | apply cut_app))))⟩ ?_
        rintro _ j W ⟨k, rfl, hk, H⟩
        refine s_asI (s_ite (fun g => ?_) (fun g => ?_))
        · simp only [decide_eq_true_eq] at g
          have hw : IntKind.wrap .i64 ((k : Int) + 1) = ((k + 1 : Nat) : Int) := by rw [wrap64 (by omega) (by omega)]; rfl
          have hal := at_le hs' (k : Int)
          have hlk := hup.like (k : Int)
          have hcell : (likes5 s)[0 + Int.toNat (k : Int) * 1]? = some (.int .i64 (s.at (k : Int)).2) := by
            rw [Int.toNat_natCast, Nat.zero_add, Nat.mul_one]; exact likes5_get s (by omega)
          refine h_drew H fun u H => s_req (by omega) (h_ldI H (by repeat (first | exact pick_head | apply pick_tail | apply pick_app)) hcell ?_)
          refine s_call (like_c (H.cells (by repeat (first | exact pick_head | apply pick_tail | apply pick_app))) hs' k) ?_
          rintro _ u ⟨rfl, f⟩
          have H := H.fr0 f
          refine ⟨_, rfl, s_asI (s_chk (hc_cons H (by repeat (first | exact pick_head | apply pick_tail | apply pick_app)) hcell c_nil) (s_false (by simp only [decide_eq_false_iff_not]; omega) (s_call (like_c (H.cells (by repeat (first | exact pick_head | apply pick_tail | apply pick_app))) hs' k) ?_)))⟩
          rintro _ u ⟨rfl, f⟩
          have H := H.fr0 f
          refine ⟨_, rfl, s_asI (s_chk (hc_cons H (by repeat (first | exact pick_head | apply pick_tail | apply pick_app)) hcell c_nil) (s_call (next_c (H.cells (by repeat (first | exact pick_head | apply pick_tail | apply pick_app))) hs' k) ?_))⟩
          rintro _ u ⟨rfl, f⟩
          have H := H.fr0 f
          refine ⟨_, rfl, s_asI (s_chk (hc_cons H (by repeat (first | exact pick_head | apply pick_tail | apply pick_app)) hcell c_nil) (s_false (by simp only [decide_eq_false_iff_not]; omega) (s_call (next_c (H.cells (by repeat (first | exact pick_head | apply pick_tail | apply pick_app))) hs' k) ?_)))⟩
          rintro _ u ⟨rfl, f⟩
          have H := H.fr0 f
          refine ⟨_, rfl, s_asI (s_chk (hc_cons H (by repeat (first | exact pick_head | apply pick_tail | apply pick_app)) hcell c_nil) (s_call (length_c (H.cells (by repeat (first | exact pick_head | apply pick_tail | apply pick_app))) hs') ?_))⟩
          rintro _ _ ⟨rfl, rfl⟩
          refine ⟨_, rfl, s_asI (s_chk (hc_cons H (by repeat (first | exact pick_head | apply pick_tail | apply pick_app)) hcell c_nil) (s_false (by simp only [decide_eq_false_iff_not]; omega) (s_next ⟨rfl, rfl⟩ ?_)))⟩
          simp only [if_true]
          exact ⟨⟨k + 1, by rw [hw], by omega, H⟩, by rw [hw]; simp [intOf]; omega⟩
        · refine s_next ⟨rfl, rfl⟩ ?_
          simp (config := { decide := true }) only [if_true, if_false]
          exact ⟨⟨i + 1, s', by rw [hw], by omega, hs', by rw [hup.n]; exact hsn, H.sub (by repeat (first | exact sb_refl | exact sb_nil | refine sb_cons (by repeat (first | exact pick_head | apply pick_tail | apply pick_app)) ?_ | refine sb_app (by repeat (first | exact cut_head | exact cut_all | apply cut_tail | apply cut_app)) ?_ | exact sb_one (by repeat (first | exact cut_head | exact cut_all | apply cut_tail | apply cut_app))))⟩, by rw [hw]; simp [intOf]; omega⟩
      · refine s_ite (fun gd2 => ?_) (fun gd2 => ?_)
        · (repeat (first | refine s_asI ?_ | refine s_asS ?_ | refine s_asP ?_ | refine s_asB ?_ | refine s_asA ?_ | refine s_asT ?_ | refine s_asM ?_ | refine s_asU ?_ | refine s_asC ?_ | refine s_sm ?_ | refine s_req (by first | rfl | exact ⟨rfl, rfl⟩) ?_ | refine h_ldI H (by repeat (first | exact pick_head | apply pick_tail | apply pick_app)) (by first | rfl | (simp; done)) ?_ | refine h_ldB H (by repeat (first | exact pick_head | apply pick_tail | apply pick_app)) (by first | rfl | (simp; done)) ?_ | refine h_ldP H (by repeat (first | exact pick_head | apply pick_tail | apply pick_app)) (by first | rfl | (simp; done)) ?_ | refine h_ldS H (by repeat (first | exact pick_head | apply pick_tail | apply pick_app)) (by first | rfl | (simp; done)) ?_ | refine h_ldM H (by repeat (first | exact pick_head | apply pick_tail | apply pick_app)) (by first | rfl | (simp; done)) ?_ | refine h_ldT H (by repeat (first | exact pick_head | apply pick_tail | apply pick_app)) (by first | rfl | (simp; done)) ?_ | refine h_ldV H (by repeat (first | exact pick_head | apply pick_tail | apply pick_app)) (by first | rfl | (simp; done)) ?_ | (refine h_st H (by repeat (first | exact pick_head | apply pick_tail | apply pick_app)) (by simp) rfl fun u H => ?_) | (refine h_drew H fun u H => ?_) | refine s_chk c_nil ?_))
          refine s_call (sent_c (H.cells (by repeat (first | exact pick_head | apply pick_tail | apply pick_app))) hs _ _) ?_
          rintro _ u ⟨⟨er, rfl⟩, f, hc⟩
          have H := H.updc (by repeat (first | exact pick_head | apply pick_tail | apply pick_app)) f hc
          have hup := up_sent hs ops[i].who ops[i].slot
          have hs' := sentS_ok hs ops[i].who ops[i].slot
          generalize s.sentS ops[i].who ops[i].slot = s' at hup hs' H
          refine ⟨_, rfl, s_asI ?_⟩
          refine s_call (agreed_c (H.cells (by repeat (first | exact pick_head | apply pick_tail | apply pick_app))) hs') ?_
          rintro _ u ⟨v', rfl, hv', f⟩
          have H := H.fr0 f
          have hvv := hup.ag hv hv'
          refine ⟨_, rfl, s_asI (s_false (by simp only [decide_eq_false_iff_not]; omega) (s_call (length_c (H.cells (by repeat (first | exact pick_head | apply pick_tail | apply pick_app))) hs') ?_))⟩
          rintro _ _ ⟨rfl, rfl⟩
          have hll := hup.len
          refine ⟨_, rfl, s_asI (s_false (by simp only [decide_eq_false_iff_not]; omega) ?_)⟩
          refine s_loop (fun vs W => ∃ (k : Nat), vs = [.int .i64 k] ∧ k ≤ 5 ∧ Has w W (cl r 46 (pm s') :: cl n32 39 (likes5 s) :: cl r6 23 [.int .i64 n, .int .i64 self] :: []))
            (fun vs _ => 5 - (intOf (vs.getD 0 undef)).toNat) ⟨0, rfl, by omega, H.sub (by repeat (first | exact sb_refl | exact sb_nil | refine sb_cons (by repeat (first | exact pick_head | apply pick_tail | apply pick_app)) ?_ | refine sb_app (by repeat (first | exact cut_head | exact cut_all | apply cut_tail | apply cut_app)) ?_ | exact sb_one (by repeat (first | exact cut_head | exact cut_all | apply cut_tail | apply cut_app))))⟩ ?_
          rintro _ j W ⟨k, rfl, hk, H⟩
          refine s_asI (s_ite (fun g => ?_) (fun g => ?_))
          · simp only [decide_eq_true_eq] at g
            have hw : IntKind.wrap .i64 ((k : Int) + 1) = ((k + 1 : Nat) : Int) := by rw [wrap64 (by omega) (by omega)]; rfl
            have hal := at_le hs' (k : Int)
            have hlk := hup.like (k : Int)
            have hcell : (likes5 s)[0 + Int.toNat (k : Int) * 1]? = some (.int .i64 (s.at (k : Int)).2) := by
              rw [Int.toNat_natCast, Nat.zero_add, Nat.mul_one]; exact likes5_get s (by omega)
            refine h_drew H fun u H => s_req (by omega) (h_ldI H (by repeat (first | exact pick_head | apply pick_tail | apply pick_app)) hcell ?_)
            refine s_call (like_c (H.cells (by repeat (first | exact pick_head | apply pick_tail | apply pick_app))) hs' k) ?_
            rintro _ u ⟨rfl, f⟩
            have H := H.fr0 f
            refine ⟨_, rfl, s_asI (s_chk (hc_cons H (by repeat (first | exact pick_head | apply pick_tail | apply pick_app)) hcell c_nil) (s_false (by simp only [decide_eq_false_iff_not]; omega) (s_call (like_c (H.cells (by repeat (first | exact pick_head | apply pick_tail | apply pick_app))) hs' k) ?_)))⟩
            rintro _ u ⟨rfl, f⟩
            have H := H.fr0 f
            refine ⟨_, rfl, s_asI (s_chk (hc_cons H (by repeat (first | exact pick_head | apply pick_tail | apply pick_app)) hcell c_nil) (s_call (next_c (H.cells (by repeat (first | exact pick_head | apply pick_tail | apply pick_app))) hs' k) ?_))⟩
            rintro _ u ⟨rfl, f⟩
            have H := H.fr0 f
            refine ⟨_, rfl, s_asI (s_chk (hc_cons H (by repeat (first | exact pick_head | apply pick_tail | apply pick_app)) hcell c_nil) (s_false (by simp only [decide_eq_false_iff_not]; omega) (s_call (next_c (H.cells (by repeat (first | exact pick_head | apply pick_tail | apply pick_app))) hs' k) ?_)))⟩
            rintro _ u ⟨rfl, f⟩
            have H := H.fr0 f
            refine ⟨_, rfl, s_asI (s_chk (hc_cons H (by repeat (first | exact pick_head | apply pick_tail | apply pick_app)) hcell c_nil) (s_call (length_c (H.cells (by repeat (first | exact pick_head | apply pick_tail | apply pick_app))) hs') ?_))⟩
            rintro _ _ ⟨rfl, rfl⟩
            refine ⟨_, rfl, s_asI (s_chk (hc_cons H (by repeat (first | exact pick_head | apply pick_tail | apply pick_app)) hcell c_nil) (s_false (by simp only [decide_eq_false_iff_not]; omega) (s_next ⟨rfl, rfl⟩ ?_)))⟩
            simp only [if_true]
            exact ⟨⟨k + 1, by rw [hw], by omega, H⟩, by rw [hw]; simp [intOf]; omega⟩
          · refine s_next ⟨rfl, rfl⟩ ?_
            simp (config := { decide := true }) only [if_true, if_false]
            exact ⟨⟨i + 1, s', by rw [hw], by omega, hs', by rw [hup.n]; exact hsn, H.sub (by repeat (first | exact sb_refl | exact sb_nil | refine sb_cons (by repeat (first | exact pick_head | apply pick_tail | apply pick_app)) ?_ | refine sb_app (by repeat (first | exact cut_head | exact cut_all | apply cut_tail | apply cut_app)) ?_ | exact sb_one (by repeat (first | exact cut_head | exact cut_all | apply cut_tail | apply cut_app))))⟩, by rw [hw]; simp [intOf]; omega⟩
        · (repeat (first | refine s_asI ?_ | refine s_asS ?_ | refine s_asP ?_ | refine s_asB ?_ | refine s_asA ?_ | refine s_asT ?_ | refine s_asM ?_ | refine s_asU ?_ | refine s_asC ?_ | refine s_sm ?_ | refine s_req (by first | rfl | exact ⟨rfl, rfl⟩) ?_ | refine h_ldI H (by repeat (first | exact pick_head | apply pick_tail | apply pick_app)) (by first | rfl | (simp; done)) ?_ | refine h_ldB H (by repeat (first | exact pick_head | apply pick_tail | apply pick_app)) (by first | rfl | (simp; done)) ?_ | refine h_ldP H (by repeat (first | exact pick_head | apply pick_tail | apply pick_app)) (by first | rfl | (simp; done)) ?_ | refine h_ldS H (by repeat (first | exact pick_head | apply pick_tail | apply pick_app)) (by first | rfl | (simp; done)) ?_ | refine h_ldM H (by repeat (first | exact pick_head | apply pick_tail | apply pick_app)) (by first | rfl | (simp; done)) ?_ | refine h_ldT H (by repeat (first | exact pick_head | apply pick_tail | apply pick_app)) (by first | rfl | (simp; done)) ?_ | refine h_ldV H (by repeat (first | exact pick_head | apply pick_tail | apply pick_app)) (by first | rfl | (simp; done)) ?_ | (refine h_st H (by repeat (first | exact pick_head | apply pick_tail | apply pick_app)) (by simp) rfl fun u H => ?_) | (refine h_drew H fun u H => ?_) | refine s_chk c_nil ?_))
          refine s_call (told_c (H.cells (by repeat (first | exact pick_head | apply pick_tail | apply pick_app))) hs _ _ _) ?_
          rintro _ u ⟨⟨gw, er, rfl, hgw, _⟩, f, hc⟩
          have H := H.updc (by repeat (first | exact pick_head | apply pick_tail | apply pick_app)) f hc
          have hup := up_tell hs ops[i].who (ops[i].d != 3) ops[i].slot
          have hs' := tellS_ok hs ops[i].who (ops[i].d != 3) ops[i].slot
          generalize s.tellS ops[i].who (ops[i].d != 3) ops[i].slot = s' at hup hs' H hgw
          refine ⟨_, rfl, ?_⟩
          (repeat (first | refine s_asI ?_ | refine s_asS ?_ | refine s_asP ?_ | refine s_asB ?_ | refine s_asA ?_ | refine s_asT ?_ | refine s_asM ?_ | refine s_asU ?_ | refine s_asC ?_ | refine s_sm ?_ | refine s_req (by first | rfl | exact ⟨rfl, rfl⟩) ?_ | refine h_ldI H (by repeat (first | exact pick_head | apply pick_tail | apply pick_app)) (by first | rfl | (simp; done)) ?_ | refine h_ldB H (by repeat (first | exact pick_head | apply pick_tail | apply pick_app)) (by first | rfl | (simp; done)) ?_ | refine h_ldP H (by repeat (first | exact pick_head | apply pick_tail | apply pick_app)) (by first | rfl | (simp; done)) ?_ | refine h_ldS H (by repeat (first | exact pick_head | apply pick_tail | apply pick_app)) (by first | rfl | (simp; done)) ?_ | refine h_ldM H (by repeat (first | exact pick_head | apply pick_tail | apply pick_app)) (by first | rfl | (simp; done)) ?_ | refine h_ldT H (by repeat (first | exact pick_head | apply pick_tail | apply pick_app)) (by first | rfl | (simp; done)) ?_ | refine h_ldV H (by repeat (first | exact pick_head | apply pick_tail | apply pick_app)) (by first | rfl | (simp; done)) ?_ | (refine h_st H (by repeat (first | exact pick_head | apply pick_tail | apply pick_app)) (by simp) rfl fun u H => ?_) | (refine h_drew H fun u H => ?_) | refine s_chk c_nil ?_))
          refine s_call (agreed_c (H.cells (by repeat (first | exact pick_head | apply pick_tail | apply pick_app))) hs') ?_
          rintro _ u ⟨v', rfl, hv', f⟩
          have H := H.fr0 f
          have hvv := hup.ag hv hv'
          refine ⟨_, rfl, s_asI (s_false (by simp only [decide_eq_false_iff_not]; omega) (s_call (length_c (H.cells (by repeat (first | exact pick_head | apply pick_tail | apply pick_app))) hs') ?_))⟩
          rintro _ _ ⟨rfl, rfl⟩
          have hll := hup.len
          refine ⟨_, rfl, s_asI (s_false (by simp only [decide_eq_false_iff_not]; omega) ?_)⟩
          refine s_call (agreed_c (H.cells (by repeat (first | exact pick_head | apply pick_tail | apply pick_app))) hs') ?_
          rintro _ u ⟨v2, rfl, hv2, f⟩
          obtain rfl := hv'.inj hv2
          have H := H.fr0 f
          refine ⟨_, rfl, s_asI (s_false (by rw [hgw v v' hv hv']; cases decide (v' > v) <;> rfl) ?_)⟩
          refine s_loop (fun vs W => ∃ (k : Nat), vs = [.int .i64 k] ∧ k ≤ 5 ∧ Has w W (cl r 46 (pm s') :: cl n32 39 (likes5 s) :: cl r6 23 [.int .i64 n, .int .i64 self] :: []))
            (fun vs _ => 5 - (intOf (vs.getD 0 undef)).toNat) ⟨0, rfl, by omega, H.sub (by repeat (first | exact sb_refl | exact sb_nil | refine sb_cons (by repeat (first | exact pick_head | apply pick_tail | apply pick_app)) ?_ | refine sb_app (by repeat (first | exact cut_head | exact cut_all | apply cut_tail | apply cut_app)) ?_ | exact sb_one (by repeat (first | exact cut_head | exact cut_all | apply cut_tail | apply cut_app))))⟩ ?_
          rintro _ j W ⟨k, rfl, hk, H⟩
          refine s_asI (s_ite (fun g => ?_) (fun g => ?_))
          · simp only [decide_eq_true_eq] at g
            have hw : IntKind.wrap .i64 ((k : Int) + 1) = ((k + 1 : Nat) : Int) := by rw [wrap64 (by omega) (by omega)]; rfl
            have hal := at_le hs' (k : Int)
            have hlk := hup.like (k : Int)
            have hcell : (likes5 s)[0 + Int.toNat (k : Int) * 1]? = some (.int .i64 (s.at (k : Int)).2) := by
              rw [Int.toNat_natCast, Nat.zero_add, Nat.mul_one]; exact likes5_get s (by omega)
            refine h_drew H fun u H => s_req (by omega) (h_ldI H (by repeat (first | exact pick_head | apply pick_tail | apply pick_app)) hcell ?_)
            refine s_call (like_c (H.cells (by repeat (first | exact pick_head | apply pick_tail | apply pick_app))) hs' k) ?_
            rintro _ u ⟨rfl, f⟩
            have H := H.fr0 f
            refine ⟨_, rfl, s_asI (s_chk (hc_cons H (by repeat (first | exact pick_head | apply pick_tail | apply pick_app)) hcell c_nil) (s_false (by simp only [decide_eq_false_iff_not]; omega) (s_call (like_c (H.cells (by repeat (first | exact pick_head | apply pick_tail | apply pick_app))) hs' k) ?_)))⟩
            rintro _ u ⟨rfl, f⟩
            have H := H.fr0 f
            refine ⟨_, rfl, s_asI (s_chk (hc_cons H (by repeat (first | exact pick_head | apply pick_tail | apply pick_app)) hcell c_nil) (s_call (next_c (H.cells (by repeat (first | exact pick_head | apply pick_tail | apply pick_app))) hs' k) ?_))⟩
            rintro _ u ⟨rfl, f⟩
            have H := H.fr0 f
            refine ⟨_, rfl, s_asI (s_chk (hc_cons H (by repeat (first | exact pick_head | apply pick_tail | apply pick_app)) hcell c_nil) (s_false (by simp only [decide_eq_false_iff_not]; omega) (s_call (next_c (H.cells (by repeat (first | exact pick_head | apply pick_tail | apply pick_app))) hs' k) ?_)))⟩
            rintro _ u ⟨rfl, f⟩
            have H := H.fr0 f
            refine ⟨_, rfl, s_asI (s_chk (hc_cons H (by repeat (first | exact pick_head | apply pick_tail | apply pick_app)) hcell c_nil) (s_call (length_c (H.cells (by repeat (first | exact pick_head | apply pick_tail | apply pick_app))) hs') ?_))⟩
            rintro _ _ ⟨rfl, rfl⟩
            refine ⟨_, rfl, s_asI (s_chk (hc_cons H (by repeat (first | exact pick_head | apply pick_tail | apply pick_app)) hcell c_nil) (s_false (by simp only [decide_eq_false_iff_not]; omega) (s_next ⟨rfl, rfl⟩ ?_)))⟩
            simp only [if_true]
            exact ⟨⟨k + 1, by rw [hw], by omega, H⟩, by rw [hw]; simp [intOf]; omega⟩
          · refine s_next ⟨rfl, rfl⟩ ?_
            simp (config := { decide := true }) only [if_true, if_false]
            exact ⟨⟨i + 1, s', by rw [hw], by omega, hs', by rw [hup.n]; exact hsn, H.sub (by repeat (first | exact sb_refl | exact sb_nil | refine sb_cons (by repeat (first | exact pick_head | apply pick_tail | apply pick_app)) ?_ | refine sb_app (by repeat (first | exact cut_head | exact cut_all | apply cut_tail | apply cut_app)) ?_ | exact sb_one (by repeat (first | exact cut_head | exact cut_all | apply cut_tail | apply cut_app))))⟩, by rw [hw]; simp [intOf]; omega⟩
end Go.Proofs.Ytfgfabjbebdnjaa
