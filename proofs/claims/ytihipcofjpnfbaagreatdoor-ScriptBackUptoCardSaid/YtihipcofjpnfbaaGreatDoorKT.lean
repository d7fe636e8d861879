/- Keys and transactions as words, by the program and by the reference. -/
import Derived.Test.YtihipcofjpnfbaaGreatDoorHex
set_option linter.unusedVariables false
set_option linter.unusedSimpArgs false
set_option maxRecDepth 100000
set_option maxHeartbeats 2000000
namespace Go.Proofs.YtihipcofjpnfbaaGreatDoor
open Go hiding Expr
open Go.RowKit Tr

/-! ### Keys -/
structure K where
  t : Int
  r : Int
deriving DecidableEq
def kr (k : K) : List Value := [.int .i32 k.t, .int .i64 k.r]
structure InK (k : K) : Prop where
  t0 : -2147483648 ≤ k.t
  t1 : k.t ≤ 2147483647
  r : In64 k.r
theorem kr2 (l : List K) : ∀ r ∈ l.map kr, r.length = 2 := by
  intro r hr
  obtain ⟨x, _, rfl⟩ := List.mem_map.1 hr
  rfl
def KeysAt (w : World) (o : Option Addr) (l : List K) : Prop := RowsAt w o 2 (l.map kr)
theorem Tr.KeysAt_fr {w w' : World} {o : Option Addr} {l : List K} (h : KeysAt w o l) (hf : Fr [] w w') : KeysAt w' o l := RowsAt.fr h hf
theorem keysGet {w : World} {o : Option Addr} {l : List K} (h : KeysAt w o l) {i : Nat} {x : K} (hi : l[i]? = some x) : ∃ g off, o = some ⟨g, off, none⟩ ∧ w.cell? ⟨g, off + i * 2, none⟩ = some (.int .i32 x.t) ∧ w.cell? ⟨g, off + i * 2 + 1, none⟩ = some (.int .i64 x.r) := by
  obtain ⟨g, off, rfl, _, hc⟩ := RowsAt.at h (j := i) (r := kr x) (by simp [hi])
  exact ⟨g, off, rfl, hc 0 _ rfl, hc 1 _ rfl⟩

/-! ### Words behind one another -/
def jt (r : List (List UInt8)) : List UInt8 := r.flatMap (32 :: ·)
theorem joinL_jt {x : List UInt8} {r : List (List UInt8)} : joinL (x :: r) = x ++ jt r := by
  show Lib.join (x :: r) [32] = _
  rw [Lib.join_cons]
  simp [Lib.joinTail, jt, List.flatMap_def]
theorem jt_nil : jt [] = [] := rfl
theorem jt_cons {x : List UInt8} {r : List (List UInt8)} : jt (x :: r) = 32 :: (x ++ jt r) := by simp [jt]
theorem jt_append {a b : List (List UInt8)} : jt (a ++ b) = jt a ++ jt b := by simp [jt]
theorem jt_len {r : List (List UInt8)} {b : Nat} (h : ∀ x ∈ r, x.length ≤ b) : (jt r).length ≤ r.length * (b + 1) := by
  induction r with
  | nil => simp [jt]
  | cons x r ih =>
    have h1 := ih fun y hy => h y (List.mem_cons_of_mem _ hy)
    have h2 := h x (List.mem_cons_self ..)
    rw [jt_cons, List.length_cons, List.length_cons, List.length_append, Nat.add_mul]
    omega
def kw (l : List K) : List (List UInt8) := l.flatMap fun k => [dI k.t, dI k.r]
theorem kw_snoc (l : List K) (k : K) : kw (l ++ [k]) = kw l ++ [dI k.t, dI k.r] := by simp [kw]
theorem kw_len (l : List K) : (kw l).length = 2 * l.length := by
  induction l with
  | nil => rfl
  | cons a l ih => rw [kw, List.flatMap_cons, List.length_append, ← kw, ih, List.length_cons]; simp; omega
theorem InK.in64 {k : K} (h : InK k) : In64 k.t := ⟨by have := h.t0; omega, by have := h.t1; omega⟩
theorem kw_le {l : List K} (h : ∀ k ∈ l, InK k) : ∀ x ∈ kw l, x.length ≤ 21 := by
  intro x hx
  obtain ⟨k, hk, hx⟩ := List.mem_flatMap.1 hx
  simp at hx
  rcases hx with rfl | rfl
  · exact dI_len (h k hk).in64
  · exact dI_len (h k hk).r
def keysL (l : List K) : List UInt8 := dI l.length ++ jt (kw l)
theorem nat64 {n : Nat} (h : n ≤ 9223372036854775807) : In64 (n : Int) := ⟨by omega, by omega⟩
theorem keysL_len {l : List K} (h : ∀ k ∈ l, InK k) (hsz : l.length ≤ 1048576) : (keysL l).length ≤ 46137365 := by
  have h1 := jt_len (kw_le h)
  have h2 := dI_len (nat64 (n := l.length) (by omega))
  rw [kw_len] at h1
  rw [keysL, List.length_append]
  omega
theorem kwTake {l : List K} (h : ∀ k ∈ l, InK k) (hsz : l.length ≤ 1048576) (i : Nat) : (dI l.length ++ jt (kw (l.take i))).length ≤ 46137365 := by
  have h1 := jt_len (kw_le (l := l.take i) fun k hk => h k (List.mem_of_mem_take hk))
  have h2 := dI_len (nat64 (n := l.length) (by omega))
  rw [kw_len, List.length_take] at h1
  rw [List.length_append]
  omega

theorem elemS : Elem Tryz.prog 45 9 (.string ⟨#[]⟩) 1 16 := ⟨by kernel_rfl, by kernel_rfl, rfl, by decide⟩
theorem ownStrs (g : Nat) (l : List (List UInt8)) (n : Nat) (hn : n = l.length) (hl : l.length ≤ maxLen) : OwnC 9 1 (.slice (some ⟨g, 0, none⟩) n n) n (strs l) [cl g 9 (strs l)] := by
  subst hn
  exact ⟨by rw [strs_len]; omega, .inr ⟨g, l.length, [], rfl, by simp, Nat.le_refl _, hl, by rw [List.append_nil, strs_len]; omega⟩⟩

section
variable {w : World} {o : Option Addr} {l : List K} {n cap : Nat}
theorem keys_c (hT : Tab w) (h : KeysAt w o l) (hn : n = l.length) (hin : ∀ k ∈ l, InK k) (hsz : l.length ≤ 1048576) : Calls Tryz.prog 81 #[.slice o n cap] w fun e w' => e = .returned (.string (S (keysL l))) ∧ Fr [] w w' := by
  subst hn
  have hml : (2097153 : Nat) ≤ maxLen := by decide
  apply c81
  refine s_call (numI_c hT (nat64 (by omega))) ?_
  rintro _ u ⟨rfl, f⟩
  have H := (Has.init w).fr0 f
  refine ⟨_, rfl, s_asT ?_⟩
  (refine h_new H fun n5 u H => ?_)
  refine s_loop (fun vs W => ∃ (i : Nat) (v : Value) (c : Hp), vs = [v, .int .i64 i] ∧ i ≤ l.length ∧ OwnC 9 1 v (1 + 2 * i) (strs (dI l.length :: kw (l.take i))) c ∧ Has w W c) (fun vs _ => l.length - (intOf (vs.getD 1 undef)).toNat)
    ⟨0, _, _, rfl, by omega, ownStrs n5 [dI l.length] 1 rfl (by simp only [List.length_cons, List.length_nil]; omega), H⟩ ?_
  clear H f
  rintro _ j W ⟨i, v, c, rfl, hi, ho, H⟩
  obtain ⟨ov, cv, rfl⟩ := ho.slice
  refine s_asS (s_asI (s_ite (fun g1 => ?_) (fun g1 => ?_)))
  · simp only [decide_eq_true_eq] at g1
    have hlt : i < l.length := by omega
    obtain ⟨x, hx⟩ : ∃ c, l[i]? = some c := ⟨_, List.getElem?_eq_getElem hlt⟩
    have hxk := hin x (List.mem_of_getElem? hx)
    obtain ⟨g2, off, rfl, p1, p2⟩ := keysGet (h.fr H.base) hx
    refine s_req ⟨by omega, by omega⟩ (s_sm (s_loadI p1 (s_loadI p2 ?_)))
    (refine h_new H fun n16 u H => ?_)
    iterate 2 refine h_st H (by repeat (first | exact pick_head | apply pick_tail | apply pick_app)) (by first | (simp; done) | exact Nat.le_of_ble_eq_true rfl) rfl fun u H => ?_
    refine h_drew H fun u H => h_ldI H (by repeat (first | exact pick_head | apply pick_tail | apply pick_app)) rfl (h_ldI H (by repeat (first | exact pick_head | apply pick_tail | apply pick_app)) rfl ?_)
    refine s_call (num32_c (hT.fr H.base) hxk.t0 hxk.t1) ?_
    rintro _ u ⟨rfl, f⟩
    have H := H.fr0 f
    refine ⟨_, rfl, s_asT (s_chk (hc_cons H (b := n16) (by repeat (first | exact pick_head | apply pick_tail | apply pick_app)) rfl c_nil) ?_)⟩
    refine s_call (num64_c (hT.fr H.base) hxk.r) ?_
    rintro _ u ⟨rfl, f⟩
    have H := H.fr0 f
    refine ⟨_, rfl, s_asT (s_chk c_nil ?_)⟩
    (refine h_new H fun n23 u H => ?_)
    refine s_chk c_nil ?_
    have hrd : Reads u ⟨n23, 0, none⟩ (strs [dI x.t, dI x.r]) := (H.cells (by repeat (first | exact pick_head | apply pick_tail | apply pick_app))).reads
    refine h_app (j := 2) (news := strs [dI x.t, dI x.r]) elemS H (by repeat (first | exact cut_head | exact cut_all | apply cut_tail | apply cut_app)) ho rfl hrd (by intro u hu; simp [strs, sr] at hu; rcases hu with rfl | rfl <;> rfl) (by omega) (by omega) ?_
    intro v' c' u ho' H _
    obtain ⟨o', cap', rfl⟩ := ho'.slice
    refine s_asS (s_chk c_nil (s_next (by first | exact ⟨rfl, rfl⟩ | trivial) ?_))
    simp (config := { decide := true }) only [if_true, if_false]
    refine ⟨⟨i + 1, _, c', by rw [w_succ (by omega)], by omega, ?_, H.sub (by repeat (first | exact sb_refl | exact sb_nil | refine sb_cons (by repeat (first | exact pick_head | apply pick_tail | apply pick_app)) ?_ | refine sb_app (by repeat (first | exact cut_head | exact cut_all | apply cut_tail | apply cut_app)) ?_ | exact sb_one (by repeat (first | exact cut_head | exact cut_all | apply cut_tail | apply cut_app))))⟩, by rw [w_succ (by omega)]; simp [intOf] <;> omega⟩
    rw [List.take_add_one, hx, Option.toList_some, kw_snoc, ← List.cons_append, strs_append]
    exact ho'
  · simp only [decide_eq_false_iff_not] at g1
    rw [List.take_of_length_le (by omega)] at ho
    have hl : (dI l.length :: kw l).length = 1 + 2 * i := by rw [List.length_cons, kw_len]; omega
    have hlen : (joinL (dI l.length :: kw l)).length ≤ 140737488355328 := by have := keysL_len hin hsz; rw [joinL_jt]; exact Nat.le_trans this (by decide)
    have hcap : 1 + 2 * i ≤ cv := by
      rcases ho.2 with ⟨he, h0, _⟩ | ⟨_, _, _, he, _, h1, _⟩
      · omega
      · simp only [Value.slice.injEq] at he; omega
    refine s_call (join_c (strsAt_own ho H (by repeat (first | exact cut_head | exact cut_all | apply cut_tail | apply cut_app))) hl.symm hcap (by simp) (by omega) hlen) ?_
    rintro _ u ⟨rfl, f⟩
    rw [joinL_jt]
    exact ⟨_, rfl, s_asT (s_ret ⟨rfl, H.base.trans f⟩)⟩

theorem rkeys_c (hT : Tab w) (h : KeysAt w o l) (hn : n = l.length) (hin : ∀ k ∈ l, InK k) (hsz : l.length ≤ 1048576) : Calls Tryz.prog 57 #[.slice o n cap] w fun e w' => e = .returned (.string (S (keysL l))) ∧ Fr [] w w' := by
  subst hn
  apply c57
  refine s_call (itoa_c hT (nat64 (by omega))) ?_
  rintro _ u ⟨rfl, f⟩
  refine ⟨_, rfl, s_asT ?_⟩
  refine s_loop (fun vs W => ∃ (i : Nat), vs = [.string (S (dI l.length ++ jt (kw (l.take i)))), .int .i64 i] ∧ i ≤ l.length ∧ Fr [] w W) (fun vs _ => l.length - (intOf (vs.getD 1 undef)).toNat)
    ⟨0, by simp [kw, jt], by omega, f⟩ ?_
  clear f
  rintro _ j W ⟨i, rfl, hi, hf⟩
  refine s_asT (s_asI (s_ite (fun g1 => ?_) (fun g1 => ?_)))
  · simp only [decide_eq_true_eq] at g1
    have hlt : i < l.length := by omega
    obtain ⟨x, hx⟩ : ∃ c, l[i]? = some c := ⟨_, List.getElem?_eq_getElem hlt⟩
    have hxk := hin x (List.mem_of_getElem? hx)
    refine s_drew fun u _ f => ?_
    have hf := hf.trans f
    obtain ⟨g2, off, rfl, p1, p2⟩ := keysGet (h.fr hf) hx
    refine s_req ⟨by omega, by omega⟩ (s_sm (s_loadI p1 (s_req ⟨by omega, by omega⟩ (s_sm (s_loadI p2 ?_)))))
    rw [wrapI hxk.in64.1 hxk.in64.2]
    refine s_call (rnum_c (hT.fr hf) hxk.in64) ?_
    rintro _ u2 ⟨rfl, f⟩
    have hf := hf.trans f
    obtain ⟨g3, off3, he, p3, p4⟩ := keysGet (h.fr hf) hx
    simp only [Option.some.injEq, Addr.mk.injEq] at he
    obtain ⟨rfl, rfl, _⟩ := he
    have hb1 := dI_len hxk.in64
    have hb2 := dI_len hxk.r
    have hb3 := kwTake hin hsz i
    refine ⟨_, rfl, s_asT (s_chk ⟨p4, p3, trivial⟩ ?_)⟩
    simp only [S_app, S_size, List.length_append, List.length_cons, List.length_nil, List.cons_append, List.nil_append, ← jt_cons]
    refine s_req (by omega) (s_req (by omega) (s_call (rnum_c (hT.fr hf) hxk.r) ?_))
    rintro _ u3 ⟨rfl, f⟩
    have hf := hf.trans f
    obtain ⟨g4, off4, he, p5, p6⟩ := keysGet (h.fr hf) hx
    simp only [Option.some.injEq, Addr.mk.injEq] at he
    obtain ⟨rfl, rfl, _⟩ := he
    refine ⟨_, rfl, s_asT (s_chk ⟨p5, trivial⟩ ?_)⟩
    rw [List.length_append] at hb3
    simp only [S_app, S_size, List.length_append, List.length_cons, List.length_nil, List.cons_append, List.nil_append]
    refine s_req (by omega) (s_req (by omega) (s_next (by first | exact ⟨rfl, rfl⟩ | trivial) ?_))
    simp (config := { decide := true }) only [if_true, if_false]
    refine ⟨⟨i + 1, ?_, by omega, hf⟩, by rw [w_succ (by omega)]; simp [intOf] <;> omega⟩
    rw [w_succ (by omega), List.take_add_one, hx, Option.toList_some, kw_snoc, jt_append]
    simp [jt]
  · simp only [decide_eq_false_iff_not] at g1
    rw [List.take_of_length_le (by omega)]
    exact s_ret ⟨rfl, hf⟩
end
end Go.Proofs.YtihipcofjpnfbaaGreatDoor
