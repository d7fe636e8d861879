/- New, the first calls; and what the middle one is, in plain counts. -/
import Derived.Test.YtfgfabjbebdnjaaOps
set_option linter.unusedVariables false
set_option linter.unusedSimpArgs false
set_option maxRecDepth 100000

namespace Go.Proofs.Ytfgfabjbebdnjaa
open Go hiding Expr
open Go.RowKit Tr

/-! ### How many have so much -/
def atLeast (ls : List Int) (v : Int) : Nat := ls.countP (fun x => decide (v ≤ x))

theorem count_sorted (ys : List Int) (hu : Upto ys ys.length) (k : Nat) (a v : Int) (hk : ys[k]? = some a) : v ≤ a ↔ ys.length - k ≤ atLeast ys v := by
  have hlt : k < ys.length := (List.getElem?_eq_some_iff.1 hk).1
  have hsplit : ∀ j, atLeast ys v = atLeast (ys.take j) v + atLeast (ys.drop j) v := fun j => by
    unfold atLeast
    rw [← List.countP_append, List.take_append_drop]
  constructor
  · intro h
    rw [hsplit k]
    have : atLeast (ys.drop k) v = (ys.drop k).length := by
      unfold atLeast
      rw [List.countP_eq_length]
      intro x hx
      obtain ⟨i, hi, rfl⟩ := List.getElem_of_mem hx
      rw [List.length_drop] at hi
      rw [List.getElem_drop]
      have hg : ys[k + i]? = some ys[k + i] := List.getElem?_eq_getElem (by omega)
      rcases Nat.eq_zero_or_pos i with h0 | h0
      · subst h0
        simp only [Nat.add_zero] at hg ⊢
        rw [hk] at hg
        simp only [Option.some.injEq] at hg
        simp only [decide_eq_true_eq]
        omega
      · have := hu k (k + i) a _ (by omega) (by omega) hk hg
        simp only [decide_eq_true_eq]
        omega
    rw [this, List.length_drop]
    omega
  · intro h
    rcases Int.lt_or_le a v with hav | hav
    · exfalso
      have : atLeast (ys.take (k + 1)) v = 0 := by
        unfold atLeast
        rw [List.countP_eq_zero]
        intro x hx
        obtain ⟨i, hi, rfl⟩ := List.getElem_of_mem hx
        rw [List.length_take] at hi
        rw [List.getElem_take]
        have hg : ys[i]? = some ys[i] := List.getElem?_eq_getElem (by omega)
        by_cases hik : i = k
        · subst hik
          rw [hk] at hg
          simp only [Option.some.injEq] at hg
          simp only [decide_eq_true_eq]
          omega
        · have := hu i k _ a (by omega) (by omega) hg hk
          simp only [decide_eq_true_eq]
          omega
      have h2 : atLeast (ys.drop (k + 1)) v ≤ (ys.drop (k + 1)).length := List.countP_le_length
      rw [hsplit (k + 1), this] at h
      rw [List.length_drop] at h2
      omega
    · exact hav
theorem IsAg.le {ls : List Int} {a : Int} (h : IsAg ls a) (v : Int) : v ≤ a ↔ ls.length - (ls.length - 1) / 2 ≤ atLeast ls v := by
  obtain ⟨ys, hp, hu, hg⟩ := h
  have := count_sorted ys hu _ a v hg
  rw [hp.length_eq] at this
  rw [this]
  unfold atLeast
  rw [hp.countP_eq]
theorem IsAg.pos {ls : List Int} {a : Int} (h : IsAg ls a) : 0 < ls.length := by
  obtain ⟨ys, hp, hu, hg⟩ := h
  have := (List.getElem?_eq_some_iff.1 hg).1
  rw [hp.length_eq] at this
  omega
theorem IsAg.most {ls : List Int} {a : Int} (h : IsAg ls a) : ls.length < 2 * atLeast ls a ∧ 2 * atLeast ls (a + 1) ≤ ls.length := by
  have h1 := (h.le a).1 (Int.le_refl _)
  have h2 : ¬ (ls.length - (ls.length - 1) / 2 ≤ atLeast ls (a + 1)) := fun hc => by have := (h.le (a + 1)).2 hc; omega
  have := h.pos
  omega
/-- Where each has at least as much, the middle has. -/
theorem IsAg.mono {ls ms : List Int} {a c : Int} (h : IsAg ls a) (h' : IsAg ms c) (hl : ls.length = ms.length) (hle : ∀ (i : Nat) (x y : Int), ls[i]? = some x → ms[i]? = some y → x ≤ y) : a ≤ c := by
  rw [h'.le a, ← hl]
  refine Nat.le_trans ((h.le a).1 (Int.le_refl _)) ?_
  unfold atLeast
  clear h h'
  induction ls generalizing ms with
  | nil => simp
  | cons x r ih =>
    cases ms with
    | nil => simp at hl
    | cons y q =>
      simp only [List.countP_cons]
      have h1 := hle 0 x y rfl rfl
      have h2 := ih (ms := q) (by simpa using hl) (fun i x y hx hy => hle (i + 1) x y (by simpa using hx) (by simpa using hy))
      by_cases hc : a ≤ x
      · have : a ≤ y := by omega
        simp only [hc, this, decide_true, if_true]
        omega
      · simp only [hc, decide_false]
        simp only [Bool.false_eq_true, if_false]
        omega

/-! ### New -/
def newL (n self len : Int) : List (Int × Int) := ((List.range 5).map fun (i : Nat) => if (i : Int) < n then ((len, 0) : Int × Int) else (0, 0)).set self.toNat (len, len)
def newS (n self len : Int) : MS := ⟨n, self, len, newL n self len⟩
def newOk (n self len : Int) : Prop := 1 ≤ n ∧ n ≤ 5 ∧ 0 ≤ self ∧ self < n ∧ 0 ≤ len ∧ len ≤ maxT
theorem newS_ok {n self len : Int} (h : newOk n self len) : (newS n self len).Ok := by
  obtain ⟨h1, h2, h3, h4, h5, h6⟩ := h
  refine ⟨h1, h2, h3, h4, h5, h6, by simp [newS, newL], ?_, ?_⟩
  · simp only [newS, newL]
    rw [List.getElem?_set, if_pos rfl, if_pos (by simp; omega)]
  · intro p hp
    simp only [newS, newL] at hp ⊢
    rcases List.mem_or_eq_of_mem_set hp with hp | rfl
    · obtain ⟨i, hi, rfl⟩ := List.mem_map.1 hp
      split <;> simp only <;> omega
    · simp only; omega

section
variable {w w' : World} {b : Nat} {s : MS}
theorem new_c (n self len : Int) : Calls Try.prog 7 #[.agg #[.int .i64 n, .int .i64 self], .int .i64 len] w fun e w' => Fr [] w w' ∧
    ((¬ newOk n self len ∧ e = .returned (.tuple ⟨[.pointer none, .int .i64 1]⟩)) ∨
     (newOk n self len ∧ ∃ r, w.heap.size ≤ r ∧ Cells w' r 46 (pm (newS n self len)) ∧ e = .returned (.tuple ⟨[.pointer (some ⟨r, 0, none⟩), .int .i64 0]⟩))) := by
  apply c7
  refine h_new (Has.init w) fun n3 w1 H => ?_
  have bad : ∀ {w' : World} (P : Prop), Has w w' [cl n3 23 [.int .i64 n, .int .i64 self]] → ¬ newOk n self len → (T.ret (Value.tuple ⟨[.pointer none, .int .i64 1]⟩)).sem Try.prog (fun e w' => Fr [] w w' ∧
    ((¬ newOk n self len ∧ e = .returned (.tuple ⟨[.pointer none, .int .i64 1]⟩)) ∨
     (newOk n self len ∧ ∃ r, w.heap.size ≤ r ∧ Cells w' r 46 (pm (newS n self len)) ∧ e = .returned (.tuple ⟨[.pointer (some ⟨r, 0, none⟩), .int .i64 0]⟩)))) ρ0 w' := fun P H h => s_ret ⟨H.base, .inl ⟨h, rfl⟩⟩
  (repeat (first | refine s_asI ?_ | refine s_asS ?_ | refine s_asP ?_ | refine s_asB ?_ | refine s_asA ?_ | refine s_asT ?_ | refine s_asM ?_ | refine s_asU ?_ | refine s_asC ?_ | refine s_sm ?_ | refine s_req (by first | rfl | exact ⟨rfl, rfl⟩) ?_ | refine h_ldI H (by repeat (first | exact pick_head | apply pick_tail | apply pick_app)) (by first | rfl | (simp; done)) ?_ | refine h_ldB H (by repeat (first | exact pick_head | apply pick_tail | apply pick_app)) (by first | rfl | (simp; done)) ?_ | refine h_ldP H (by repeat (first | exact pick_head | apply pick_tail | apply pick_app)) (by first | rfl | (simp; done)) ?_ | refine h_ldS H (by repeat (first | exact pick_head | apply pick_tail | apply pick_app)) (by first | rfl | (simp; done)) ?_ | refine h_ldM H (by repeat (first | exact pick_head | apply pick_tail | apply pick_app)) (by first | rfl | (simp; done)) ?_ | refine h_ldT H (by repeat (first | exact pick_head | apply pick_tail | apply pick_app)) (by first | rfl | (simp; done)) ?_ | refine h_ldV H (by repeat (first | exact pick_head | apply pick_tail | apply pick_app)) (by first | rfl | (simp; done)) ?_ | (refine h_new H fun _ u H => ?_) | (refine h_st H (by repeat (first | exact pick_head | apply pick_tail | apply pick_app)) (by simp) rfl fun u H => ?_) | (refine h_drew H fun u H => ?_) | refine s_chk c_nil ?_))
  refine s_ite (fun g1 => bad True H ?_) (fun g1 => ?_)
  · simp only [decide_eq_true_eq] at g1; rintro ⟨h1, _⟩; omega
  (repeat (first | refine s_asI ?_ | refine s_asS ?_ | refine s_asP ?_ | refine s_asB ?_ | refine s_asA ?_ | refine s_asT ?_ | refine s_asM ?_ | refine s_asU ?_ | refine s_asC ?_ | refine s_sm ?_ | refine s_req (by first | rfl | exact ⟨rfl, rfl⟩) ?_ | refine h_ldI H (by repeat (first | exact pick_head | apply pick_tail | apply pick_app)) (by first | rfl | (simp; done)) ?_ | refine h_ldB H (by repeat (first | exact pick_head | apply pick_tail | apply pick_app)) (by first | rfl | (simp; done)) ?_ | refine h_ldP H (by repeat (first | exact pick_head | apply pick_tail | apply pick_app)) (by first | rfl | (simp; done)) ?_ | refine h_ldS H (by repeat (first | exact pick_head | apply pick_tail | apply pick_app)) (by first | rfl | (simp; done)) ?_ | refine h_ldM H (by repeat (first | exact pick_head | apply pick_tail | apply pick_app)) (by first | rfl | (simp; done)) ?_ | refine h_ldT H (by repeat (first | exact pick_head | apply pick_tail | apply pick_app)) (by first | rfl | (simp; done)) ?_ | refine h_ldV H (by repeat (first | exact pick_head | apply pick_tail | apply pick_app)) (by first | rfl | (simp; done)) ?_ | (refine h_new H fun _ u H => ?_) | (refine h_st H (by repeat (first | exact pick_head | apply pick_tail | apply pick_app)) (by simp) rfl fun u H => ?_) | (refine h_drew H fun u H => ?_) | refine s_chk c_nil ?_))
  refine s_ite (fun g2 => bad True H ?_) (fun g2 => ?_)
  · simp only [decide_eq_true_eq] at g2; rintro ⟨_, h1, _⟩; omega
  (repeat (first | refine s_asI ?_ | refine s_asS ?_ | refine s_asP ?_ | refine s_asB ?_ | refine s_asA ?_ | refine s_asT ?_ | refine s_asM ?_ | refine s_asU ?_ | refine s_asC ?_ | refine s_sm ?_ | refine s_req (by first | rfl | exact ⟨rfl, rfl⟩) ?_ | refine h_ldI H (by repeat (first | exact pick_head | apply pick_tail | apply pick_app)) (by first | rfl | (simp; done)) ?_ | refine h_ldB H (by repeat (first | exact pick_head | apply pick_tail | apply pick_app)) (by first | rfl | (simp; done)) ?_ | refine h_ldP H (by repeat (first | exact pick_head | apply pick_tail | apply pick_app)) (by first | rfl | (simp; done)) ?_ | refine h_ldS H (by repeat (first | exact pick_head | apply pick_tail | apply pick_app)) (by first | rfl | (simp; done)) ?_ | refine h_ldM H (by repeat (first | exact pick_head | apply pick_tail | apply pick_app)) (by first | rfl | (simp; done)) ?_ | refine h_ldT H (by repeat (first | exact pick_head | apply pick_tail | apply pick_app)) (by first | rfl | (simp; done)) ?_ | refine h_ldV H (by repeat (first | exact pick_head | apply pick_tail | apply pick_app)) (by first | rfl | (simp; done)) ?_ | (refine h_new H fun _ u H => ?_) | (refine h_st H (by repeat (first | exact pick_head | apply pick_tail | apply pick_app)) (by simp) rfl fun u H => ?_) | (refine h_drew H fun u H => ?_) | refine s_chk c_nil ?_))
  refine s_ite (fun g3 => bad True H ?_) (fun g3 => ?_)
  · simp only [decide_eq_true_eq] at g3; rintro ⟨_, _, h1, _⟩; omega
  (repeat (first | refine s_asI ?_ | refine s_asS ?_ | refine s_asP ?_ | refine s_asB ?_ | refine s_asA ?_ | refine s_asT ?_ | refine s_asM ?_ | refine s_asU ?_ | refine s_asC ?_ | refine s_sm ?_ | refine s_req (by first | rfl | exact ⟨rfl, rfl⟩) ?_ | refine h_ldI H (by repeat (first | exact pick_head | apply pick_tail | apply pick_app)) (by first | rfl | (simp; done)) ?_ | refine h_ldB H (by repeat (first | exact pick_head | apply pick_tail | apply pick_app)) (by first | rfl | (simp; done)) ?_ | refine h_ldP H (by repeat (first | exact pick_head | apply pick_tail | apply pick_app)) (by first | rfl | (simp; done)) ?_ | refine h_ldS H (by repeat (first | exact pick_head | apply pick_tail | apply pick_app)) (by first | rfl | (simp; done)) ?_ | refine h_ldM H (by repeat (first | exact pick_head | apply pick_tail | apply pick_app)) (by first | rfl | (simp; done)) ?_ | refine h_ldT H (by repeat (first | exact pick_head | apply pick_tail | apply pick_app)) (by first | rfl | (simp; done)) ?_ | refine h_ldV H (by repeat (first | exact pick_head | apply pick_tail | apply pick_app)) (by first | rfl | (simp; done)) ?_ | (refine h_new H fun _ u H => ?_) | (refine h_st H (by repeat (first | exact pick_head | apply pick_tail | apply pick_app)) (by simp) rfl fun u H => ?_) | (refine h_drew H fun u H => ?_) | refine s_chk c_nil ?_))
  refine s_ite (fun g4 => bad True H ?_) (fun g4 => ?_)
  · simp only [decide_eq_true_eq] at g4; rintro ⟨_, _, _, h1, _⟩; omega
  refine s_call (may_c len) ?_
  rintro _ _ ⟨rfl, rfl⟩
  refine ⟨_, rfl, s_asB (s_ite (fun g5 => bad True H ?_) (fun g5 => ?_))⟩
  · simp at g5; rintro ⟨_, _, _, _, h1, h2⟩; omega
  simp at g1 g2 g3 g4 g5
  have hok : newOk n self len := ⟨by omega, by omega, by omega, by omega, by omega, by omega⟩
  (repeat (first | refine s_asI ?_ | refine s_asS ?_ | refine s_asP ?_ | refine s_asB ?_ | refine s_asA ?_ | refine s_asT ?_ | refine s_asM ?_ | refine s_asU ?_ | refine s_asC ?_ | refine s_sm ?_ | refine s_req (by first | rfl | exact ⟨rfl, rfl⟩) ?_ | refine h_ldI H (by repeat (first | exact pick_head | apply pick_tail | apply pick_app)) (by first | rfl | (simp; done)) ?_ | refine h_ldB H (by repeat (first | exact pick_head | apply pick_tail | apply pick_app)) (by first | rfl | (simp; done)) ?_ | refine h_ldP H (by repeat (first | exact pick_head | apply pick_tail | apply pick_app)) (by first | rfl | (simp; done)) ?_ | refine h_ldS H (by repeat (first | exact pick_head | apply pick_tail | apply pick_app)) (by first | rfl | (simp; done)) ?_ | refine h_ldM H (by repeat (first | exact pick_head | apply pick_tail | apply pick_app)) (by first | rfl | (simp; done)) ?_ | refine h_ldT H (by repeat (first | exact pick_head | apply pick_tail | apply pick_app)) (by first | rfl | (simp; done)) ?_ | refine h_ldV H (by repeat (first | exact pick_head | apply pick_tail | apply pick_app)) (by first | rfl | (simp; done)) ?_ | (refine h_st H (by repeat (first | exact pick_head | apply pick_tail | apply pick_app)) (by simp) rfl fun u H => ?_) | (refine h_drew H fun u H => ?_) | refine s_chk c_nil ?_))
  (refine h_new H fun r u H => ?_)
  (repeat (first | refine s_asI ?_ | refine s_asS ?_ | refine s_asP ?_ | refine s_asB ?_ | refine s_asA ?_ | refine s_asT ?_ | refine s_asM ?_ | refine s_asU ?_ | refine s_asC ?_ | refine s_sm ?_ | refine s_req (by first | rfl | exact ⟨rfl, rfl⟩) ?_ | refine h_ldI H (by repeat (first | exact pick_head | apply pick_tail | apply pick_app)) (by first | rfl | (simp; done)) ?_ | refine h_ldB H (by repeat (first | exact pick_head | apply pick_tail | apply pick_app)) (by first | rfl | (simp; done)) ?_ | refine h_ldP H (by repeat (first | exact pick_head | apply pick_tail | apply pick_app)) (by first | rfl | (simp; done)) ?_ | refine h_ldS H (by repeat (first | exact pick_head | apply pick_tail | apply pick_app)) (by first | rfl | (simp; done)) ?_ | refine h_ldM H (by repeat (first | exact pick_head | apply pick_tail | apply pick_app)) (by first | rfl | (simp; done)) ?_ | refine h_ldT H (by repeat (first | exact pick_head | apply pick_tail | apply pick_app)) (by first | rfl | (simp; done)) ?_ | refine h_ldV H (by repeat (first | exact pick_head | apply pick_tail | apply pick_app)) (by first | rfl | (simp; done)) ?_ | (refine h_st H (by repeat (first | exact pick_head | apply pick_tail | apply pick_app)) (by simp) rfl fun u H => ?_) | (refine h_drew H fun u H => ?_) | refine s_chk c_nil ?_))
  let st : Nat → MS := fun k => ⟨n, self, len, (List.range 5).map fun (i : Nat) => if i < k then ((len, 0) : Int × Int) else (0, 0)⟩
  have hst : ∀ k, (st k).l.length = 5 := fun k => by simp [st]
  refine s_loop (fun vs W => ∃ i : Nat, vs = [.int .i64 i] ∧ (i : Int) ≤ n ∧ Has w W (cl r 46 (pm (st i)) :: cl n3 23 [.int .i64 n, .int .i64 self] :: [])) (fun vs _ => n.toNat - (intOf (vs.getD 0 undef)).toNat) ⟨0, rfl, by omega, H⟩ ?_
  rintro _ j W ⟨i, rfl, hi, H⟩
  refine s_asI (s_ite (fun g => ?_) (fun g => ?_))
  · simp only [decide_eq_true_eq] at g
    have hw : IntKind.wrap .i64 ((i : Int) + 1) = ((i + 1 : Nat) : Int) := by rw [wrap64 (by omega) (by omega)]; rfl
    have hg : (st i).l[i]? = some ((0, 0) : Int × Int) := by simp only [st, List.getElem?_map, List.getElem?_range (show i < 5 by omega), Option.map_some, Nat.lt_irrefl, if_false]
    refine s_req (by omega) ?_
    refine h_st H (by repeat (first | exact pick_head | apply pick_tail | apply pick_app)) (by rw [pm_len, hst]; simp; omega) rfl fun u H => h_st H (by repeat (first | exact pick_head | apply pick_tail | apply pick_app)) (by rw [List.length_set, pm_len, hst]; simp; omega) rfl fun u H => s_next ⟨rfl, rfl⟩ ?_
    simp only [if_true]
    refine ⟨⟨i + 1, by rw [hw], by omega, H.sub (sb_eq ?_)⟩, by rw [hw]; simp [intOf]; omega⟩
    have e1 := (pm_set hg len).1
    have e2 := (pm_set (s := (st i).upd i (len, 0)) (i := i) (p := (len, 0)) (by simp only [MS.upd]; rw [List.getElem?_set, if_pos rfl, if_pos (by rw [hst]; omega)]) 0).2
    simp only at e1
    simp only [Int.toNat_natCast, e1, e2, upd_upd]
    have : (st i).upd i (len, 0) = st (i + 1) := by
      simp only [MS.upd, st, MS.mk.injEq, true_and]
      refine List.ext_getElem (by simp) fun k h1 h2 => ?_
      simp only [List.getElem_set, List.getElem_map, List.getElem_range]
      split
      · rw [if_pos (by omega)]
      · by_cases hk : k < i
        · rw [if_pos hk, if_pos (by omega)]
        · rw [if_neg hk, if_neg (by omega)]
    rw [this]
  · simp only [decide_eq_false_iff_not] at g
    obtain rfl : (i : Int) = n := by omega
    (repeat (first | refine s_asI ?_ | refine s_asS ?_ | refine s_asP ?_ | refine s_asB ?_ | refine s_asA ?_ | refine s_asT ?_ | refine s_asM ?_ | refine s_asU ?_ | refine s_asC ?_ | refine s_sm ?_ | refine s_req (by first | rfl | exact ⟨rfl, rfl⟩) ?_ | refine h_ldI H (by repeat (first | exact pick_head | apply pick_tail | apply pick_app)) (by first | rfl | (simp; done)) ?_ | refine h_ldB H (by repeat (first | exact pick_head | apply pick_tail | apply pick_app)) (by first | rfl | (simp; done)) ?_ | refine h_ldP H (by repeat (first | exact pick_head | apply pick_tail | apply pick_app)) (by first | rfl | (simp; done)) ?_ | refine h_ldS H (by repeat (first | exact pick_head | apply pick_tail | apply pick_app)) (by first | rfl | (simp; done)) ?_ | refine h_ldM H (by repeat (first | exact pick_head | apply pick_tail | apply pick_app)) (by first | rfl | (simp; done)) ?_ | refine h_ldT H (by repeat (first | exact pick_head | apply pick_tail | apply pick_app)) (by first | rfl | (simp; done)) ?_ | refine h_ldV H (by repeat (first | exact pick_head | apply pick_tail | apply pick_app)) (by first | rfl | (simp; done)) ?_ | (refine h_new H fun _ u H => ?_) | (refine h_st H (by repeat (first | exact pick_head | apply pick_tail | apply pick_app)) (by simp) rfl fun u H => ?_) | (refine h_drew H fun u H => ?_) | refine s_chk c_nil ?_))
    have hlt : self.toNat < (st i).l.length := by rw [hst]; omega
    refine s_req (by omega) ?_
    refine h_st H (by repeat (first | exact pick_head | apply pick_tail | apply pick_app)) (by rw [pm_len, hst]; omega) rfl fun u H => h_st H (by repeat (first | exact pick_head | apply pick_tail | apply pick_app)) (by rw [List.length_set, pm_len, hst]; omega) rfl fun u H => s_chk c_nil (s_ret ⟨H.base, .inr ⟨hok, r, ?_, ?_, rfl⟩⟩)
    · have := H.new _ (List.mem_cons_self ..); exact this
    · have hc := H.cells pick_head
      have e1 := (pm_set (s := st i) (i := self.toNat) (p := (st i).l[self.toNat]) (List.getElem?_eq_getElem hlt) len).1
      have e2 := (pm_set (s := (st i).upd self.toNat (len, ((st i).l[self.toNat]).2)) (i := self.toNat) (p := (len, ((st i).l[self.toNat]).2)) (by simp only [MS.upd]; rw [List.getElem?_set, if_pos rfl, if_pos hlt]) len).2
      rw [e1, e2, upd_upd] at hc
      have : (st i).upd self.toNat (len, len) = newS i self len := by
        simp only [MS.upd, st, newS, newL, MS.mk.injEq, true_and]
        congr 1
        refine List.map_congr_left fun k hk => ?_
        by_cases h : k < i
        · rw [if_pos h, if_pos (by omega)]
        · rw [if_neg h, if_neg (by omega)]
      rw [this] at hc
      exact hc

theorem ag_of {ls ys : List Int} {v : Int} (hp : ys.Perm ls) (hu : ys.Pairwise (· ≤ ·)) (hv : ys[(ls.length - 1) / 2]? = some v) : IsAg ls v := by
  refine ⟨ys, hp, fun p q a b h1 h2 ha hb => ?_, hv⟩
  obtain ⟨hp, rfl⟩ := List.getElem?_eq_some_iff.1 ha
  obtain ⟨hq, rfl⟩ := List.getElem?_eq_some_iff.1 hb
  exact List.pairwise_iff_getElem.1 hu p q hp hq h1

theorem begun_c : Calls Try.prog 8 #[] w fun e w' => e = .returned (.bool true) ∧ Fr [] w w' := by
  apply c8
  refine s_call (new_c 3 0 5) ?_
  rintro _ w1 ⟨f1, ⟨hn, rfl⟩ | ⟨hn, r, hr, h, rfl⟩⟩
  · exact absurd (show newOk 3 0 5 by unfold newOk; decide) hn
  have hs := newS_ok hn
  refine ⟨_, rfl, s_asU (s_req rfl (s_asP (s_asI (s_false rfl (s_false rfl (s_call (told_c h hs 1 false 2) ?_))))))⟩
  rintro _ w2 ⟨⟨a1, er1, rfl, ha1, he1⟩, f2, h2⟩
  have hs2 := tellS_ok hs 1 false 2
  refine ⟨_, rfl, s_asU (s_req rfl (s_asB (s_asI (s_call (next_c h2 hs2 1) ?_))))⟩
  rintro _ w3 ⟨rfl, f3⟩
  have h3 := f3.cells h2 (by simp)
  refine ⟨_, rfl, s_asI (s_call (told_c h3 hs2 1 true 4) ?_)⟩
  rintro _ w4 ⟨⟨a4, er4, rfl, ha4, he4⟩, f4, h4⟩
  have hs4 := tellS_ok hs2 1 true 4
  have i0 : IsAg (newS 3 0 5).likes 0 := ag_of (ys := [0, 0, 5]) (by decide) (by decide) (by decide)
  have i2 : IsAg ((newS 3 0 5).tellS 1 false 2).likes 0 := ag_of (ys := [0, 0, 5]) (by decide) (by decide) (by decide)
  have i4 : IsAg (((newS 3 0 5).tellS 1 false 2).tellS 1 true 4).likes 4 := ag_of (ys := [0, 4, 5]) (by decide) (by decide) (by decide)
  obtain rfl := ha1 0 0 i0 i2
  obtain rfl := ha4 0 4 i2 i4
  obtain rfl := he1 (by decide) (by decide) (by decide)
  obtain rfl := he4 (by decide) (by decide) (by decide)
  have ff : ∀ {w' : World}, Fr [r] w1 w' → Fr [] w w' := fun f => f1.trans' f (fun x hx => by simp at hx; exact .inr (by omega))
  refine ⟨_, rfl, s_asU (s_req rfl (s_asB (s_asI (s_true rfl (s_true rfl (s_true (by decide) (s_true rfl (s_true rfl (s_call (agreed_c h4 hs4) ?_)))))))))⟩
  rintro _ w5 ⟨v, rfl, hv, f5⟩
  obtain rfl := i4.inj hv
  have h5 := f5.cells h4 (by simp)
  refine ⟨_, rfl, s_asI (s_true rfl (s_call (like_c h5 hs4 0) ?_))⟩
  rintro _ w6 ⟨rfl, f6⟩
  exact ⟨_, rfl, s_asI (s_ret ⟨by rw [show ((((newS 3 0 5).tellS 1 false 2).tellS 1 true 4).at 0).2 = 5 from by decide]; rfl, ff ((((f2.trans f3.nil).trans f4).trans f5.nil).trans f6.nil)⟩)⟩
end
end Go.Proofs.Ytfgfabjbebdnjaa
