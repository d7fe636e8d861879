/- What the book's operations do: New, Grow, Sent, Told, Clone; over their trees. -/
import Derived.Test.YtfgfabjbebdnjaaAgreed
set_option linter.unusedVariables false
set_option linter.unusedSimpArgs false
set_option maxRecDepth 100000

namespace Go.Proofs.Ytfgfabjbebdnjaa
open Go hiding Expr
open Go.RowKit Tr

theorem upto_mid {xs ys : List Int} (hp : xs.Perm ys) (hx : Upto xs xs.length) (hy : Upto ys ys.length) : xs = ys := by
  refine List.Perm.eq_of_pairwise (le := fun a b : Int => a ≤ b) ?_ ?_ ?_ hp
  · intro a b _ _ h1 h2; omega
  · rw [List.pairwise_iff_getElem]; intro i j hi hj hij
    exact hx i j _ _ hij hj (List.getElem?_eq_getElem hi) (List.getElem?_eq_getElem hj)
  · rw [List.pairwise_iff_getElem]; intro i j hi hj hij
    exact hy i j _ _ hij hj (List.getElem?_eq_getElem hi) (List.getElem?_eq_getElem hj)
theorem IsAg.inj {ls : List Int} {v v' : Int} (h : IsAg ls v) (h' : IsAg ls v') : v = v' := by
  obtain ⟨xs, p, u, g⟩ := h
  obtain ⟨ys, p', u', g'⟩ := h'
  obtain rfl := upto_mid (p.trans p'.symm) u u'
  rw [g] at g'
  exact Option.some.inj g'

def MS.upd (s : MS) (k : Nat) (p : Int × Int) : MS := { s with l := s.l.set k p }
def MS.tellS (s : MS) (i : Int) (yes : Bool) (slot : Int) : MS :=
  if s.who i = false ∨ slot < 0 ∨ (yes = true ∧ slot > s.len) then s
  else if yes = true then s.upd i.toNat (max (s.at i).1 (max (s.at i).2 slot), max (s.at i).2 slot)
  else if slot < (s.at i).1 then s.upd i.toNat (max slot (s.at i).2, (s.at i).2) else s
def MS.growS (s : MS) (len : Int) : MS :=
  if len < s.len ∨ len > maxT then s else { s with len := len, l := s.l.set s.self.toNat (len, len) }
def MS.sentS (s : MS) (i to : Int) : MS :=
  if s.who i = false ∨ to < (s.at i).1 ∨ to > s.len then s else s.upd i.toNat (to, (s.at i).2)

theorem pairs_set : ∀ (l : List (Int × Int)) (i : Nat) (p : Int × Int) (a : Int), l[i]? = some p →
    (pairs l).set (i * 2) (.int .i64 a) = pairs (l.set i (a, p.2)) ∧ (pairs l).set (i * 2 + 1) (.int .i64 a) = pairs (l.set i (p.1, a))
  | [], i, p, a, h => by simp at h
  | q :: r, 0, p, a, h => by simp at h; subst h; exact ⟨rfl, rfl⟩
  | q :: r, i + 1, p, a, h => by
    have := pairs_set r i p a (by simpa using h)
    rw [Nat.succ_mul]
    simp only [pairs, List.set_cons_succ, this.1, this.2, and_self]
theorem pm_set {s : MS} {i : Nat} {p : Int × Int} (h : s.l[i]? = some p) (a : Int) :
    (pm s).set (3 + i * 2) (.int .i64 a) = pm (s.upd i (a, p.2)) ∧ (pm s).set (3 + i * 2 + 1) (.int .i64 a) = pm (s.upd i (p.1, a)) := by
  have := pairs_set s.l i p a h
  rw [Nat.add_comm 3, show i * 2 + 3 + 1 = i * 2 + 1 + 3 by omega]
  simp only [pm, MS.upd, List.set_cons_succ, this.1, this.2, and_self]
theorem pairs_len (l : List (Int × Int)) : (pairs l).length = l.length * 2 := by
  induction l with
  | nil => rfl
  | cons p r ih => simp only [pairs, List.length_cons, ih]; omega
theorem pm_len (s : MS) : (pm s).length = 3 + s.l.length * 2 := by simp [pm, pairs_len]; omega
theorem upd_upd (s : MS) (k : Nat) (p q : Int × Int) : (s.upd k p).upd k q = s.upd k q := by simp [MS.upd]

section
variable {s : MS}
theorem at_get (hs : s.Ok) {i : Int} (h : s.who i = true) : s.l[i.toNat]? = some (s.at i) ∧ i.toNat < s.l.length := by
  have hn5 := hs.n5
  simp [MS.who] at h
  have hlt : i.toNat < s.l.length := by rw [hs.five]; omega
  refine ⟨?_, hlt⟩
  unfold MS.at
  rw [if_neg (by omega), List.getElem?_eq_getElem hlt]
  rfl
theorem at_upd (hs : s.Ok) {i : Int} (h : s.who i = true) (k : Int) (p : Int × Int) : (s.upd i.toNat p).at k = if k = i then p else s.at k := by
  have hn5 := hs.n5
  have hlt := (at_get hs h).2
  have hw := h
  simp [MS.who] at hw
  show (if k < 0 ∨ k ≥ s.n then (0, 0) else ((s.l.set i.toNat p)[k.toNat]?).getD (0, 0)) = _
  by_cases hk : k = i
  · subst hk
    rw [if_neg (by omega), if_pos rfl, List.getElem?_set, if_pos rfl, if_pos hlt]
    rfl
  · rw [if_neg hk]
    unfold MS.at
    split
    · rfl
    · rw [List.getElem?_set, if_neg (by omega)]
theorem at_ok (hs : s.Ok) {i : Int} (h : s.who i = true) : 0 ≤ (s.at i).2 ∧ (s.at i).2 ≤ (s.at i).1 ∧ (s.at i).1 ≤ s.len :=
  hs.each _ (List.mem_of_getElem? (at_get hs h).1)
theorem upd_ok (hs : s.Ok) {i : Int} (h : s.who i = true) {p : Int × Int} (hp : 0 ≤ p.2 ∧ p.2 ≤ p.1 ∧ p.1 ≤ s.len) : (s.upd i.toNat p).Ok := by
  have hw := h
  simp [MS.who] at hw
  have h0 := hs.self0
  refine ⟨hs.n1, hs.n5, hs.self0, hs.self1, hs.len0, hs.len1, by simp [MS.upd, hs.five], ?_, ?_⟩
  · simp only [MS.upd]
    rw [List.getElem?_set, if_neg (by omega)]
    exact hs.mine
  · intro q hq
    rcases List.mem_or_eq_of_mem_set hq with hq | rfl
    · exact hs.each q hq
    · exact hp
theorem tellS_ok (hs : s.Ok) (i : Int) (yes : Bool) (slot : Int) : (s.tellS i yes slot).Ok := by
  unfold MS.tellS
  split
  · exact hs
  · rename_i h
    have hw : s.who i = true := by
      cases hc : s.who i with
      | true => rfl
      | false => exact absurd (.inl hc) h
    have := at_ok hs hw
    have hsl : ¬ slot < 0 := fun hc => h (.inr (.inl hc))
    split
    · rename_i hy
      have : ¬ slot > s.len := fun hc => h (.inr (.inr ⟨hy, hc⟩))
      refine upd_ok hs hw ?_
      simp only
      omega
    · split
      · refine upd_ok hs hw ?_
        simp only
        omega
      · exact hs
theorem growS_ok (hs : s.Ok) (len : Int) : (s.growS len).Ok := by
  unfold MS.growS
  split
  · exact hs
  · have h0 := hs.self0
    have h1 := hs.self1
    have h5 := hs.n5
    have := hs.len0
    refine ⟨hs.n1, hs.n5, hs.self0, hs.self1, by simp only; omega, by simp only; omega, by simp [hs.five], ?_, ?_⟩
    · simp only
      rw [List.getElem?_set, if_pos rfl, if_pos (by rw [hs.five]; omega)]
    · intro q hq
      rcases List.mem_or_eq_of_mem_set hq with hq | rfl
      · have := hs.each q hq
        simp only
        omega
      · simp only; omega
theorem sentS_ok (hs : s.Ok) (i to : Int) : (s.sentS i to).Ok := by
  unfold MS.sentS
  split
  · exact hs
  · rename_i h
    have hw : s.who i = true := by
      cases hc : s.who i with
      | true => rfl
      | false => exact absurd (.inl hc) h
    have := at_ok hs hw
    refine upd_ok hs hw ?_
    simp only
    omega
end

section
variable {w w' : World} {b : Nat} {s : MS}

theorem grow_c (h : Cells w b 46 (pm s)) (hs : s.Ok) (len : Int) : Calls Try.prog 13 #[.pointer (some ⟨b, 0, none⟩), .int .i64 len] w fun e w' =>
    (∃ er, e = .returned (.int .i64 er)) ∧ Fr [b] w w' ∧ Cells w' b 46 (pm (s.growS len)) := by
  apply c13
  have h0 := hs.self0
  have h1 := hs.self1
  have h5 := hs.n5
  have hl0 := hs.len0
  refine s_call (none_c h hs) ?_
  rintro _ _ ⟨rfl, rfl⟩
  refine ⟨_, rfl, s_asB (s_false rfl (s_ldI h rfl (s_ite (fun g1 => s_ret ⟨⟨_, rfl⟩, Fr.refl _ _, ?_⟩) (fun g1 => s_call (may_c len) ?_))))⟩
  · simp only [decide_eq_true_eq] at g1
    unfold MS.growS; rw [if_pos (.inl g1)]; exact h
  · simp only [decide_eq_false_iff_not] at g1
    rintro _ _ ⟨rfl, rfl⟩
    refine ⟨_, rfl, s_asB (s_ite (fun g2 => s_ret ⟨⟨_, rfl⟩, Fr.refl _ _, ?_⟩) (fun g2 => ?_))⟩
    · simp at g2
      unfold MS.growS; rw [if_pos (.inr (by omega))]; exact h
    · simp at g2
      have hlt : s.self.toNat < s.l.length := by rw [hs.five]; omega
      refine s_st h (by simp [pm]) rfl fun w1 z1 f1 h => s_drew fun w2 z2 f2 => ?_
      have h := f2.cells h (by simp)
      refine s_ldI h rfl (s_req (by omega) ?_)
      have hset : (pm s).set (0 + 2) (.int .i64 len) = pm { s with len := len } := rfl
      rw [hset] at h
      simp only [Nat.zero_add]
      refine s_st h (by rw [pm_len]; simp only; omega) rfl fun w3 z3 f3 h => s_st h (by rw [List.length_set, pm_len]; simp only; omega) rfl fun w4 z4 f4 h => s_chk c_nil (s_ret ⟨⟨_, rfl⟩, ((f1.trans f2.nil).trans f3).trans f4, ?_⟩)
      have e1 := (pm_set (s := { s with len := len }) (i := s.self.toNat) (p := s.l[s.self.toNat]) (List.getElem?_eq_getElem hlt) len).1
      have e2 := (pm_set (s := { s with len := len }.upd s.self.toNat (len, (s.l[s.self.toNat]).2)) (i := s.self.toNat) (p := (len, (s.l[s.self.toNat]).2)) (by simp [MS.upd, hlt]) len).2
      rw [e1, e2, upd_upd] at h
      unfold MS.growS; rw [if_neg (by omega)]
      exact h

theorem sent_c (h : Cells w b 46 (pm s)) (hs : s.Ok) (i to : Int) : Calls Try.prog 14 #[.pointer (some ⟨b, 0, none⟩), .int .i64 i, .int .i64 to] w fun e w' =>
    (∃ er, e = .returned (.int .i64 er)) ∧ Fr [b] w w' ∧ Cells w' b 46 (pm (s.sentS i to)) := by
  apply c14
  refine s_call (other_c h hs i) ?_
  rintro _ _ ⟨rfl, ⟨hw, rfl⟩ | ⟨hw, rfl⟩⟩
  · refine ⟨_, rfl, s_asU (s_req rfl (s_asP (s_asI (s_true rfl (s_ret ⟨⟨_, rfl⟩, Fr.refl _ _, ?_⟩)))))⟩
    unfold MS.sentS; rw [if_pos (.inl hw)]; exact h
  · obtain ⟨g, hlt⟩ := at_get hs hw
    obtain ⟨p1, p2⟩ := pm_get g
    refine ⟨_, rfl, s_asU (s_req rfl (s_asP (s_asI (s_false rfl (s_sm (s_ldI h p1 (s_ite (fun g1 => s_ret ⟨⟨_, rfl⟩, Fr.refl _ _, ?_⟩) (fun g1 => s_ldI h rfl (s_ite (fun g2 => s_ret ⟨⟨_, rfl⟩, Fr.refl _ _, ?_⟩) (fun g2 => s_sm (s_st h (by rw [pm_len]; omega) rfl fun w1 z1 f1 h => s_ret ⟨⟨_, rfl⟩, f1, ?_⟩)))))))))))⟩
    · simp only [decide_eq_true_eq] at g1
      unfold MS.sentS; rw [if_pos (.inr (.inl g1))]; exact h
    · simp only [decide_eq_true_eq] at g2
      unfold MS.sentS; rw [if_pos (.inr (.inr g2))]; exact h
    · simp only [decide_eq_false_iff_not] at g1 g2
      rw [(pm_set g to).1] at h
      unfold MS.sentS; rw [if_neg (by simp [hw]; omega)]; exact h

theorem told_c (h : Cells w b 46 (pm s)) (hs : s.Ok) (i : Int) (yes : Bool) (slot : Int) : Calls Try.prog 9 #[.pointer (some ⟨b, 0, none⟩), .int .i64 i, .bool yes, .int .i64 slot] w fun e w' =>
    (∃ grew er, e = .returned (.tuple ⟨[.bool grew, .int .i64 er]⟩) ∧ (∀ v v', IsAg s.likes v → IsAg (s.tellS i yes slot).likes v' → grew = decide (v' > v)) ∧ (s.who i = true → 0 ≤ slot → (yes = true → slot ≤ s.len) → er = 0)) ∧ Fr [b] w w' ∧ Cells w' b 46 (pm (s.tellS i yes slot)) := by
  apply c9
  have same : ∀ (v v' : Int), IsAg s.likes v → IsAg s.likes v' → false = decide (v' > v) := fun v v' a c => by
    obtain rfl := a.inj c
    simp
  refine s_call (other_c h hs i) ?_
  rintro _ _ ⟨rfl, ⟨hw, rfl⟩ | ⟨hw, rfl⟩⟩
  · have hst : s.tellS i yes slot = s := by unfold MS.tellS; rw [if_pos (.inl hw)]
    rw [hst]
    exact ⟨_, rfl, s_asU (s_req rfl (s_asP (s_asI (s_true rfl (s_ret ⟨⟨_, _, rfl, same, fun hc => by simp [hw] at hc⟩, Fr.refl _ _, h⟩)))))⟩
  · obtain ⟨g, hlt⟩ := at_get hs hw
    obtain ⟨p1, p2⟩ := pm_get g
    have hok := at_ok hs hw
    refine ⟨_, rfl, s_asU (s_req rfl (s_asP (s_asI (s_false rfl (s_ite (fun g1 => ?_) (fun g1 => ?_))))))⟩
    · simp only [decide_eq_true_eq] at g1
      have hst : s.tellS i yes slot = s := by unfold MS.tellS; rw [if_pos (.inr (.inl g1))]
      rw [hst]
      exact s_ret ⟨⟨_, _, rfl, same, fun _ _ _ => by first | rfl | omega | (rename_i hc; have := hc rfl; omega)⟩, Fr.refl _ _, h⟩
    · simp only [decide_eq_false_iff_not] at g1
      cases yes
      · refine s_false rfl (s_true rfl (s_sm (s_ldI h p1 (s_ite (fun g2 => ?_) (fun g2 => ?_)))))
        · simp only [decide_eq_true_eq] at g2
          refine s_sm (s_ldI h p2 (s_max (s_asI (s_sm (s_st h (by rw [pm_len]; omega) rfl fun w1 z1 f1 h => s_ret ?_)))))
          rw [(pm_set g _).1] at h
          have hst : s.tellS i false slot = s.upd i.toNat (max slot (s.at i).2, (s.at i).2) := by
            unfold MS.tellS; rw [if_neg (by simp [hw]; omega), if_neg (by simp), if_pos g2]
          rw [hst]
          have hlk : (s.upd i.toNat (max slot (s.at i).2, (s.at i).2)).likes = s.likes := by
            unfold MS.likes
            refine List.map_congr_left fun k hk => ?_
            rw [at_upd hs hw]
            split
            · rename_i hki; rw [hki]
            · rfl
          rw [hlk]
          exact ⟨⟨_, _, rfl, same, fun _ _ _ => rfl⟩, f1, h⟩
        · simp only [decide_eq_false_iff_not] at g2
          have hst : s.tellS i false slot = s := by unfold MS.tellS; rw [if_neg (by simp [hw]; omega), if_neg (by simp), if_neg g2]
          rw [hst]
          exact s_ret ⟨⟨_, _, rfl, same, fun _ _ _ => by first | rfl | omega | (rename_i hc; have := hc rfl; omega)⟩, Fr.refl _ _, h⟩
      · refine s_true rfl (s_ldI h rfl (s_ite (fun g2 => ?_) (fun g2 => ?_)))
        · simp only [decide_eq_true_eq] at g2
          have hst : s.tellS i true slot = s := by unfold MS.tellS; rw [if_pos (.inr (.inr ⟨rfl, g2⟩))]
          rw [hst]
          exact s_ret ⟨⟨_, _, rfl, same, fun _ _ _ => by first | rfl | omega | (rename_i hc; have := hc rfl; omega)⟩, Fr.refl _ _, h⟩
        · simp only [decide_eq_false_iff_not] at g2
          refine s_false rfl (s_call (agreed_c h hs) ?_)
          rintro _ w1 ⟨v0, rfl, ha, f1⟩
          have h := f1.cells h (by simp)
          refine ⟨_, rfl, s_asI (s_sm (s_ldI h p2 (s_max (s_asI (s_sm (s_st h (by rw [pm_len]; omega) rfl fun w2 z2 f2 h => s_drew fun w3 z3 f3 => ?_))))))⟩
          have h := f3.cells h (by simp)
          have e2 : (pm s).set (3 + i.toNat * 2 + 1) (.int .i64 (max (s.at i).2 slot)) = _ := (pm_set g (max (s.at i).2 slot)).2
          rw [show 0 + 3 + i.toNat * 2 + 1 = 3 + i.toNat * 2 + 1 by omega, e2] at h
          have g' : (s.upd i.toNat ((s.at i).1, max (s.at i).2 slot)).l[i.toNat]? = some ((s.at i).1, max (s.at i).2 slot) := by simp [MS.upd, hlt]
          obtain ⟨q1, q2⟩ := pm_get g'
          refine s_sm (s_ldI h q1 (s_sm (s_ldI h q2 (s_max (s_asI (s_chk c_nil (s_sm (s_st h (by rw [pm_len]; simp [MS.upd]; omega) rfl fun w4 z4 f4 h => s_chk c_nil ?_))))))))
          rw [(pm_set g' _).1, upd_upd] at h
          have hst : s.tellS i true slot = s.upd i.toNat (max (s.at i).1 (max (s.at i).2 slot), max (s.at i).2 slot) := by
            unfold MS.tellS; rw [if_neg (by simp [hw]; omega), if_pos rfl]
          have hs' := tellS_ok hs i true slot
          rw [hst] at hs' ⊢
          refine s_call (agreed_c h hs') ?_
          rintro _ w5 ⟨v1, rfl, ha1, f5⟩
          refine ⟨_, rfl, s_asI (s_ret ⟨⟨_, _, rfl, fun v v' a c => ?_, fun _ _ _ => rfl⟩, (((f1.nil.trans f2).trans f3.nil).trans f4).trans f5.nil, f5.cells h (by simp)⟩)⟩
          obtain rfl := ha.inj a
          obtain rfl := ha1.inj c
          rfl
end
end Go.Proofs.Ytfgfabjbebdnjaa
