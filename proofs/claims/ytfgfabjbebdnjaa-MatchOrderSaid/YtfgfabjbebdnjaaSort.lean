/- Sorting few whole numbers: insertion sort, over its tree. -/
import Derived.Test.YtfgfabjbebdnjaaMatch
set_option linter.unusedVariables false
set_option linter.unusedSimpArgs false
set_option maxRecDepth 100000

namespace Go.Proofs.Ytfgfabjbebdnjaa
open Go hiding Expr
open Go.RowKit Tr

def ints (l : List Int) : List Value := l.map (Value.int .i64)

theorem nan_c {w : World} (a : Int) : Calls Try.prog 45 #[.int .i64 a] w fun e w' => e = .returned (.bool false) ∧ w = w' := by
  apply c45
  exact s_ret ⟨by simp, rfl⟩
theorem less_c {w : World} (a b : Int) : Calls Try.prog 35 #[.int .i64 a, .int .i64 b] w fun e w' => e = .returned (.bool (decide (a < b))) ∧ Fr [] w w' := by
  apply c35
  refine s_call (nan_c a) ?_
  rintro _ _ ⟨rfl, rfl⟩
  exact ⟨_, rfl, s_asB (s_false rfl (s_ret ⟨rfl, Fr.refl _ _⟩))⟩

/-- Sorted up to and with i, but for what stands at j. -/
def Near (xs : List Int) (i j : Nat) : Prop := ∀ p q (a b : Int), p < q → q ≤ i → q ≠ j → xs[p]? = some a → xs[q]? = some b → a ≤ b
def Upto (xs : List Int) (i : Nat) : Prop := ∀ p q (a b : Int), p < q → q < i → xs[p]? = some a → xs[q]? = some b → a ≤ b

theorem near_begin {xs : List Int} {i : Nat} (h : Upto xs i) : Near xs i i := fun p q a b h1 h2 h3 => h p q a b h1 (by omega)
theorem near_end {xs : List Int} {i j : Nat} (h : Near xs i j) (hj : j ≤ i) (hx : ∀ a b, 0 < j → xs[j - 1]? = some a → xs[j]? = some b → a ≤ b) : Upto xs (i + 1) := by
  intro p q a b h1 h2 ha hb
  by_cases hq : q = j
  · subst hq
    by_cases hp : p = q - 1
    · subst hp; exact hx a b (by omega) ha hb
    · have hlt : q - 1 < xs.length := by have := (List.getElem?_eq_some_iff.1 hb).1; omega
      have h3 := h p (q - 1) a _ (by omega) (by omega) (by omega) ha (List.getElem?_eq_getElem hlt)
      have h4 := hx _ b (by omega) (List.getElem?_eq_getElem hlt) hb
      omega
  · exact h p q a b h1 (by omega) hq ha hb
theorem near_swap {xs : List Int} {i j : Nat} {x y : Int} (h : Near xs i j) (hj0 : 0 < j) (hj : j ≤ i) (hx : xs[j]? = some x) (hy : xs[j - 1]? = some y) (hlt : x < y) : Near ((xs.set j y).set (j - 1) x) i (j - 1) := by
  have hl : j < xs.length := (List.getElem?_eq_some_iff.1 hx).1
  have hget : ∀ q, ((xs.set j y).set (j - 1) x)[q]? = if q = j - 1 then some x else if q = j then some y else xs[q]? := fun q => by
    by_cases h1 : q = j - 1
    · rw [List.getElem?_set, if_pos h1.symm, if_pos (by simp; omega), if_pos h1]
    · rw [List.getElem?_set, if_neg (fun e => h1 e.symm), if_neg h1, List.getElem?_set]
      by_cases h2 : q = j
      · rw [if_pos h2.symm, if_pos hl, if_pos h2]
      · rw [if_neg (fun e => h2 e.symm), if_neg h2]
  intro p q a b h1 h2 h3 ha hb
  rw [hget] at ha hb
  rw [if_neg h3] at hb
  by_cases hqj : q = j
  · rw [if_pos hqj] at hb
    cases hb
    by_cases hp1 : p = j - 1
    · rw [if_pos hp1] at ha; cases ha; omega
    · rw [if_neg hp1, if_neg (by omega)] at ha
      exact h p (j - 1) a y (by omega) (by omega) (by omega) ha hy
  · rw [if_neg hqj] at hb
    by_cases hp1 : p = j - 1
    · rw [if_pos hp1] at ha
      cases ha
      have := h (j - 1) q y b (by omega) h2 hqj hy hb
      omega
    · rw [if_neg hp1] at ha
      by_cases hpj : p = j
      · rw [if_pos hpj] at ha
        cases ha
        exact h (j - 1) q y b (by omega) h2 hqj hy hb
      · rw [if_neg hpj] at ha
        exact h p q a b h1 h2 hqj ha hb

theorem swap_perm {xs : List Int} {j : Nat} {x y : Int} (hj0 : 0 < j) (hx : xs[j]? = some x) (hy : xs[j - 1]? = some y) : ((xs.set j y).set (j - 1) x).Perm xs := by
  obtain ⟨hl, hx'⟩ := List.getElem?_eq_some_iff.1 hx
  obtain ⟨hl', hy'⟩ := List.getElem?_eq_some_iff.1 hy
  rw [List.perm_iff_count]
  intro a
  rw [List.count_set (by simp; omega), List.count_set hl, List.getElem_set, if_neg (show ¬ j = j - 1 by omega), hx', hy']
  have hcx : 0 < xs.count x := List.count_pos_iff.2 (hx' ▸ List.getElem_mem hl)
  have hcy : 0 < xs.count y := List.count_pos_iff.2 (hy' ▸ List.getElem_mem hl')
  by_cases h1 : x = a <;> by_cases h2 : y = a <;> simp [h1, h2] <;> (try subst h1) <;> (try subst h2) <;> omega

theorem ints_set (l : List Int) (rest : List Value) (i : Nat) (x : Int) (hi : i < l.length) : (ints l ++ rest).set i (.int .i64 x) = ints (l.set i x) ++ rest := by
  rw [List.set_append_left _ _ (by simpa [ints] using hi)]
  simp [ints, List.map_set]
theorem ints_get {l : List Int} {rest : List Value} {i : Nat} {x : Int} (h : l[i]? = some x) : (ints l ++ rest)[i]? = some (.int .i64 x) := by
  rw [List.getElem?_append_left (by simpa [ints] using (List.getElem?_eq_some_iff.1 h).1)]
  simp [ints, h]

theorem insertion_c {w : World} {g cap : Nat} {ty : TypeId} {xs : List Int} {rest : List Value} (h : Cells w g ty (ints xs ++ rest)) (hfew : xs.length ≤ 1000) :
    Calls Try.prog 29 #[.slice (some ⟨g, 0, none⟩) xs.length cap, .int .i64 0, .int .i64 xs.length] w fun e w' =>
      (∃ v, e = .returned v) ∧ Fr [g] w w' ∧ ∃ ys, ys.Perm xs ∧ Upto ys ys.length ∧ Cells w' g ty (ints ys ++ rest) := by
  apply c29
  refine s_loop (fun vs W => ∃ (i : Nat) (ys : List Int), vs = [.int .i64 i] ∧ 1 ≤ i ∧ Fr [g] w W ∧ ys.Perm xs ∧ Upto ys (min i ys.length) ∧ Cells W g ty (ints ys ++ rest)) (fun vs _ => xs.length - (intOf (vs.getD 0 undef)).toNat)
    ⟨1, xs, rfl, by omega, Fr.refl _ _, List.Perm.refl _, fun p q a b h1 h2 => by omega, h⟩ ?_
  rintro _ j W ⟨i, ys, rfl, hi1, fW, hperm, hup, hc⟩
  have hlen := hperm.length_eq
  refine s_asI (s_ite (fun g1 => ?_) (fun g1 => ?_))
  · simp only [decide_eq_true_eq] at g1
    have hi : i < ys.length := by omega
    rw [Nat.min_eq_left (by omega)] at hup
    refine s_loop (fun vs W => ∃ (j : Nat) (zs : List Int), vs = [.int .i64 j] ∧ j ≤ i ∧ Fr [g] w W ∧ zs.Perm xs ∧ Near zs i j ∧ Cells W g ty (ints zs ++ rest)) (fun vs _ => (intOf (vs.getD 0 undef)).toNat)
      ⟨i, ys, rfl, Nat.le_refl _, fW, hperm, near_begin hup, hc⟩ ?_
    clear hup hc hperm fW hlen hi
    rintro _ j' W ⟨j, zs, rfl, hj, fW, hperm, hnear, hc⟩
    have hlen := hperm.length_eq
    have hw : IntKind.wrap .i64 ((i : Int) + 1) = ((i + 1 : Nat) : Int) := by rw [wrap64 (by omega) (by omega)]; rfl
    have fin : ∀ {W' : World}, Fr [g] w W' → Cells W' g ty (ints zs ++ rest) → Upto zs (i + 1) →
        (∃ (i' : Nat) (ys : List Int), ([Value.int .i64 (IntKind.wrap .i64 ((i : Int) + 1))] : List Value) = [.int .i64 i'] ∧ 1 ≤ i' ∧ Fr [g] w W' ∧ ys.Perm xs ∧ Upto ys (min i' ys.length) ∧ Cells W' g ty (ints ys ++ rest)) ∧
          xs.length - (intOf (([Value.int .i64 (IntKind.wrap .i64 ((i : Int) + 1))] : List Value).getD 0 undef)).toNat < xs.length - (intOf (([Value.int .i64 (i : Int)] : List Value).getD 0 undef)).toNat := fun f' hc' hu => by
      refine ⟨⟨i + 1, zs, by rw [hw], by omega, f', hperm, fun p q a b h1 h2 => hu p q a b h1 (by omega), hc'⟩, ?_⟩
      rw [hw]; simp [intOf]; omega
    refine s_asI (s_drew fun W1 hq f1 => ?_)
    have hc := f1.cells hc (by simp)
    have fW := fW.trans f1.nil
    refine s_ite (fun g2 => ?_) (fun g2 => ?_)
    · simp only [decide_eq_true_eq] at g2
      have hjl : j < zs.length := by omega
      have hjl' : j - 1 < zs.length := by omega
      have hw1 : IntKind.wrap .i64 ((j : Int) - 1) = ((j - 1 : Nat) : Int) := by rw [wrap64 (by omega) (by omega)]; omega
      have hx := List.getElem?_eq_getElem hjl
      have hy := List.getElem?_eq_getElem hjl'
      rw [hw1]
      refine s_req ⟨by omega, by omega⟩ (s_sm (s_ldI hc (n := zs[j]) (by simpa using ints_get hx) (s_req ⟨by omega, by omega⟩ (s_sm (s_ldI hc (n := zs[j - 1]) (by simpa using ints_get hy) ?_)))))
      refine s_call (less_c _ _) ?_
      rintro _ W2 ⟨rfl, f2⟩
      have hc := f2.cells hc (by simp)
      have fW := fW.trans f2.nil
      refine ⟨_, rfl, s_asB (s_chk c_nil (s_ite (fun g3 => ?_) (fun g3 => ?_)))⟩
      · simp only [decide_eq_true_eq] at g3
        refine s_drew fun W3 hq3 f3 => ?_
        have hc := f3.cells hc (by simp)
        have fW := fW.trans f3.nil
        refine s_req ⟨by omega, by omega⟩ (s_sm (s_ldI hc (n := zs[j - 1]) (by simpa using ints_get hy) (s_req ⟨by omega, by omega⟩ (s_sm (s_ldI hc (n := zs[j]) (by simpa using ints_get hx) ?_)))))
        refine s_req ⟨by omega, by omega⟩ (s_sm (s_st hc (by simp [ints]; omega) rfl fun W4 z4 f4 hc => s_chk c_nil (s_req ⟨by omega, by omega⟩ (s_sm (s_st hc (by simp [ints]; omega) rfl fun W5 z5 f5 hc => s_chk c_nil (s_next ⟨rfl, rfl⟩ ?_))))))
        simp only [if_true]
        rw [show 0 + ((j : Int)).toNat * 1 = j by omega, show 0 + (((j - 1 : Nat) : Int)).toNat * 1 = j - 1 by omega, ints_set _ _ _ _ hjl, ints_set _ _ _ _ (by simpa using hjl')] at hc
        refine ⟨⟨j - 1, _, rfl, by omega, (fW.trans f4).trans f5, (swap_perm (by omega) hx hy).trans hperm, near_swap hnear (by omega) hj hx hy g3, hc⟩, ?_⟩
        simp [intOf]; omega
      · simp only [decide_eq_false_iff_not] at g3
        refine s_next ⟨rfl, rfl⟩ ?_
        rw [if_neg (by decide), if_pos rfl]
        exact fin fW hc (near_end hnear hj (fun a b _ ha hb => by rw [hy] at ha; rw [hx] at hb; cases ha; cases hb; omega))
    · simp only [decide_eq_false_iff_not] at g2
      refine s_chk c_nil (s_next ⟨rfl, rfl⟩ ?_)
      rw [if_neg (by decide), if_pos rfl]
      exact fin fW hc (near_end hnear hj (fun a b h0 => by omega))
  · simp only [decide_eq_false_iff_not] at g1
    rw [Nat.min_eq_right (by omega)] at hup
    exact s_ret ⟨⟨_, rfl⟩, fW, ys, hperm, hup, hc⟩
end Go.Proofs.Ytfgfabjbebdnjaa
