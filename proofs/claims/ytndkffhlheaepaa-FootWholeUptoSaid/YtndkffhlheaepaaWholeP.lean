/- FootWhole: a transaction's locks are those of its partitions together; the walk. -/
import Derived.Test.YtndkffhlheaepaaSame
import Derived.Test.YtndkffhlheaepaaTreesL
set_option linter.unusedVariables false
set_option linter.unusedSimpArgs false
set_option maxRecDepth 100000
set_option maxHeartbeats 1000000
namespace Go.Proofs.Ytndkffhlheaepaa
open Go hiding Expr
open Go.RowKit Tr

/-! ### Plain -/
theorem locks_iff {x : TX} {y : Lk} : y ∈ locksOf x ↔ y.k ∈ x.rd ++ x.wr ∧ y.x = decide (y.k ∈ x.wr) := by
  unfold locksOf
  rw [List.mem_map]
  constructor
  · rintro ⟨k, hk, rfl⟩
    exact ⟨(KS_mem _ _).1 hk, rfl⟩
  · rintro ⟨h1, h2⟩
    refine ⟨y.k, (KS_mem _ _).2 h1, ?_⟩
    obtain ⟨k, b⟩ := y
    simp only at h2 ⊢
    rw [h2]
theorem at_iff {x : TX} {y : Lk} {part parts : Int} : y ∈ atOf x part parts ↔ y ∈ locksOf x ∧ partI y.k parts = part := by
  unfold atOf keepL
  rw [List.mem_filter, decide_eq_true_eq]
theorem fp_iff {parts : Int} {l : List K} {p : Nat} {k : K} : k ∈ FP parts (KS l) p ↔ k ∈ l ∧ partI k parts = (p : Int) := by
  unfold FP
  rw [List.mem_filter, KS_mem, beq_iff_eq]
theorem at_touch (x : TX) (parts : Int) (p : Nat) : decide (0 < (atOf x (p : Int) parts).length) = touchN parts x p := by
  have h : (0 < (atOf x (p : Int) parts).length) ↔ 0 < (FP parts (KS x.rd) p).length + (FP parts (KS x.wr) p).length := by
    constructor
    · intro h
      obtain ⟨y, hy⟩ := List.exists_mem_of_length_pos h
      obtain ⟨h1, h2⟩ := at_iff.1 hy
      rcases List.mem_append.1 (locks_iff.1 h1).1 with h3 | h3
      · have := List.length_pos_of_mem (fp_iff.2 ⟨h3, h2⟩)
        omega
      · have := List.length_pos_of_mem (fp_iff.2 ⟨h3, h2⟩)
        omega
    · intro h
      have : ∃ k, k ∈ x.rd ++ x.wr ∧ partI k parts = (p : Int) := by
        rcases (show 0 < (FP parts (KS x.rd) p).length ∨ 0 < (FP parts (KS x.wr) p).length by omega) with h | h
        · obtain ⟨k, hk⟩ := List.exists_mem_of_length_pos h
          exact ⟨k, List.mem_append_left _ (fp_iff.1 hk).1, (fp_iff.1 hk).2⟩
        · obtain ⟨k, hk⟩ := List.exists_mem_of_length_pos h
          exact ⟨k, List.mem_append_right _ (fp_iff.1 hk).1, (fp_iff.1 hk).2⟩
      obtain ⟨k, h1, h2⟩ := this
      exact List.length_pos_of_mem ((at_iff (y := ⟨k, decide (k ∈ x.wr)⟩)).2 ⟨(locks_iff (y := ⟨k, decide (k ∈ x.wr)⟩)).2 ⟨h1, rfl⟩, h2⟩)
  unfold touchN
  exact decide_eq_decide.2 h
def allU (x : TX) (parts : Int) (k : Nat) : List Lk := (List.range k).flatMap (fun p : Nat => atOf x (p : Int) parts)
theorem allU_succ (x : TX) (parts : Int) (k : Nat) : allU x parts (k + 1) = allU x parts k ++ atOf x (k : Int) parts := by
  unfold allU
  rw [List.range_succ, List.flatMap_append, List.flatMap_singleton]
theorem filt_len (l : List Lk) (parts : Int) (k : Nat) : (l.filter (fun y => decide (partI y.k parts < ((k + 1 : Nat) : Int)))).length = (l.filter (fun y => decide (partI y.k parts < (k : Int)))).length + (l.filter (keepL (k : Int) parts)).length := by
  induction l with
  | nil => rfl
  | cons y l ih =>
    rw [List.filter_cons, List.filter_cons, List.filter_cons]
    by_cases h1 : partI y.k parts < (k : Int)
    · rw [if_pos (decide_eq_true (show partI y.k parts < ((k + 1 : Nat) : Int) by omega)), if_pos (decide_eq_true h1), if_neg (show ¬ keepL (k : Int) parts y = true by unfold keepL; rw [decide_eq_true_eq]; omega), List.length_cons, List.length_cons, ih]
      omega
    · by_cases h3 : partI y.k parts = (k : Int)
      · rw [if_pos (decide_eq_true (show partI y.k parts < ((k + 1 : Nat) : Int) by omega)), if_neg (show ¬ decide (partI y.k parts < (k : Int)) = true by rw [decide_eq_true_eq]; exact h1), if_pos (show keepL (k : Int) parts y = true by unfold keepL; exact decide_eq_true h3), List.length_cons, List.length_cons, ih]
        omega
      · rw [if_neg (show ¬ decide (partI y.k parts < ((k + 1 : Nat) : Int)) = true by rw [decide_eq_true_eq]; omega), if_neg (show ¬ decide (partI y.k parts < (k : Int)) = true by rw [decide_eq_true_eq]; exact h1), if_neg (show ¬ keepL (k : Int) parts y = true by unfold keepL; rw [decide_eq_true_eq]; exact h3), ih]
theorem allU_len (x : TX) (parts : Int) (k : Nat) : (allU x parts k).length = ((locksOf x).filter (fun y => decide (partI y.k parts < (k : Int)))).length := by
  induction k with
  | zero =>
    have : (locksOf x).filter (fun y => decide (partI y.k parts < ((0 : Nat) : Int))) = [] := by
      rw [List.filter_eq_nil_iff]
      intro y _
      have := (partI_range y.k parts).1
      simp only [decide_eq_true_eq]
      omega
    rw [this]
    simp [allU]
  | succ k ih => rw [allU_succ, List.length_append, ih, filt_len]; rfl
theorem allU_le (x : TX) (parts : Int) (k : Nat) : (allU x parts k).length ≤ (locksOf x).length := by rw [allU_len]; exact List.length_filter_le _ _
theorem part_lt8 (k : K) (parts : Int) : partI k parts < 8 := by
  have hm : manyI parts ≤ 8 := by unfold manyI; omega
  have := (partI_range k parts).2
  omega
theorem allU_full (x : TX) (parts : Int) : (allU x parts 8).length = (locksOf x).length := by
  rw [allU_len]
  congr 1
  rw [List.filter_eq_self]
  intro y _
  have := part_lt8 y.k parts
  exact decide_eq_true (show partI y.k parts < ((8 : Nat) : Int) by omega)
theorem allU_mem {x : TX} {parts : Int} {y : Lk} (h : y ∈ locksOf x) : y ∈ allU x parts 8 := by
  unfold allU
  rw [List.mem_flatMap]
  have h1 := (partI_range y.k parts).1
  have h2 := part_lt8 y.k parts
  obtain ⟨p, hp⟩ := Int.eq_ofNat_of_zero_le h1
  exact ⟨p, List.mem_range.2 (by omega), at_iff.2 ⟨h, hp⟩⟩
theorem partsU_mem {c : Nat → Bool} {k p : Nat} : (p : Int) ∈ partsU c k ↔ p < k ∧ c p = true := by
  unfold partsU
  rw [List.mem_map]
  constructor
  · rintro ⟨q, hq, he⟩
    obtain rfl : q = p := by omega
    rw [List.mem_filter, List.mem_range] at hq
    exact hq
  · intro h
    exact ⟨p, by rw [List.mem_filter, List.mem_range]; exact h, rfl⟩
theorem touch_parts {parts : Int} {x : TX} {p : Nat} (hp : p < 8) (h : touchN parts x p = true) : (p : Int) ∈ partsOf parts x := by
  have h1 : (p : Int) ∈ partsU (touchN parts x) 8 := partsU_mem.2 ⟨hp, h⟩
  unfold partsOf
  rw [if_neg (by have := List.length_pos_of_mem h1; omega)]
  exact h1
theorem active_parts {parts : Int} {x : TX} {z : Int} (h : z ∈ activeOf parts x) : z ∈ partsOf parts x := by
  unfold activeOf at h
  split at h
  · rw [List.mem_singleton] at h
    subst h
    have := partsOf_pos parts x
    cases hq : partsOf parts x with
    | nil => rw [hq] at this; simp at this
    | cons a l => simp
  · have h2 := h
    unfold partsU at h2
    obtain ⟨p, hp, rfl⟩ := List.mem_map.1 h2
    obtain ⟨hp8, hact⟩ := partsU_mem.1 h
    refine touch_parts hp8 ?_
    unfold actN at hact
    unfold touchN
    simp only [decide_eq_true_eq] at hact ⊢
    omega
theorem activeOf_pos (parts : Int) (x : TX) : 0 < (activeOf parts x).length := by
  unfold activeOf
  split
  · simp
  · omega

section
variable {w : World} {o : Option Addr} {n cap : Nat}
theorem conti_c {l : List Int} (h : ValsAt w o l) (hn : n = l.length) (hmax : l.length < 9223372036854775807) (z : Int) : Calls Try.prog 32 #[.slice o n cap, .int .i64 z] w fun e w' => e = .returned (.bool (decide (z ∈ l))) ∧ Fr [] w w' := by
  subst hn
  have idx : Calls Try.prog 49 #[.slice o l.length cap, .int .i64 z] w fun e w' => ((e = .returned (.int .i64 (-1)) ∧ z ∉ l) ∨ ∃ i : Nat, e = .returned (.int .i64 i) ∧ z ∈ l) ∧ Fr [] w w' := by
    apply c49
    refine s_loop (fun vs W => ∃ i : Nat, vs = [.int .i64 i] ∧ i ≤ l.length ∧ z ∉ l.take i ∧ Fr [] w W) (fun vs _ => l.length - (intOf (vs.getD 0 undef)).toNat) ⟨0, rfl, by omega, by simp, Fr.refl _ _⟩ ?_
    rintro _ j W ⟨i, rfl, hi, hno, hF⟩
    refine s_asI (s_ite (fun g1 => ?_) (fun g1 => ?_))
    · simp only [decide_eq_true_eq] at g1
      have hlt : i < l.length := by omega
      obtain ⟨x, hx⟩ : ∃ x, l[i]? = some x := ⟨_, List.getElem?_eq_getElem hlt⟩
      obtain ⟨g, off, he, p1⟩ := (ValsAt.fr0 h hF).get hx
      refine s_req ⟨by omega, g1⟩ ⟨g, off, he, s_loadI (by simpa using p1) (s_ite (fun g2 => s_ret ⟨.inr ⟨i, rfl, ?_⟩, hF⟩) (fun g2 => s_next (by first | exact ⟨rfl, rfl⟩ | trivial) ?_))⟩
      · have g2 : z = x := by simpa using g2
        rw [g2]
        exact List.mem_of_getElem? hx
      · have g2 : ¬ z = x := by simpa using g2
        simp (config := { decide := true }) only [if_true, if_false]
        refine ⟨⟨i + 1, by rw [w_succ (by omega)], by omega, ?_, hF⟩, by rw [w_succ (by omega)]; simp [intOf] <;> omega⟩
        rw [List.take_add_one, hx, Option.toList_some, List.mem_append, not_or]
        exact ⟨hno, by simpa using g2⟩
    · simp only [decide_eq_false_iff_not] at g1
      rw [List.take_of_length_le (by omega)] at hno
      exact s_ret ⟨.inl ⟨rfl, hno⟩, hF⟩
  apply c32
  refine s_call idx ?_
  rintro _ u ⟨⟨rfl, hz⟩ | ⟨i, rfl, hz⟩, f⟩
  · exact ⟨_, rfl, s_asI (s_ret ⟨by rw [decide_eq_false hz]; rfl, f⟩)⟩
  · refine ⟨_, rfl, s_asI (s_ret ⟨?_, f⟩)⟩
    rw [decide_eq_true hz, decide_eq_true (show (i : Int) ≥ 0 by omega)]
theorem contl_c {l : List Lk} (h : LocksAt w o l) (hn : n = l.length) (hmax : l.length < 9223372036854775807) (z : Lk) : Calls Try.prog 33 #[.slice o n cap, .agg ⟨lr z⟩] w fun e w' => e = .returned (.bool (decide (z ∈ l))) ∧ Fr [] w w' := by
  subst hn
  have idx : ∀ {w : World}, LocksAt w o l → Calls Try.prog 50 #[.slice o l.length cap, .agg ⟨lr z⟩] w fun e w' => ((e = .returned (.int .i64 (-1)) ∧ z ∉ l) ∨ ∃ i : Nat, e = .returned (.int .i64 i) ∧ z ∈ l) ∧ Fr [] w w' := by
    intro w h
    apply c50
    refine h_new (Has.init w) fun n6 u H => ?_
    refine s_loop (fun vs W => ∃ i : Nat, vs = [.int .i64 i] ∧ i ≤ l.length ∧ z ∉ l.take i ∧ Has w W [cl n6 52 (lr z)]) (fun vs _ => l.length - (intOf (vs.getD 0 undef)).toNat) ⟨0, rfl, by omega, by simp, H⟩ ?_
    clear H
    rintro _ j W ⟨i, rfl, hi, hno, H⟩
    refine s_asI (s_ite (fun g1 => ?_) (fun g1 => ?_))
    · simp only [decide_eq_true_eq] at g1
      have hlt : i < l.length := by omega
      obtain ⟨x, hx⟩ : ∃ x, l[i]? = some x := ⟨_, List.getElem?_eq_getElem hlt⟩
      refine h_drew H fun u H => h_ldI H (by repeat (first | exact pick_head | apply pick_tail | apply pick_app)) rfl (h_ldI H (by repeat (first | exact pick_head | apply pick_tail | apply pick_app)) rfl (h_ldB H (by repeat (first | exact pick_head | apply pick_tail | apply pick_app)) rfl ?_))
      obtain ⟨g, off, he, p1, p2, p3⟩ := (h.fr0 H.base).get hx
      refine s_req ⟨by omega, g1⟩ ⟨g, off, he, s_loadI p1 (s_loadI p2 (s_loadB p3 (s_ite (fun g2 => s_ret ⟨.inr ⟨i, rfl, ?_⟩, H.base⟩) (fun g2 => s_next (by first | exact ⟨rfl, rfl⟩ | trivial) ?_))))⟩
      · have g2 : z = x := by
          obtain ⟨⟨a, b⟩, c⟩ := z
          obtain ⟨⟨a', b'⟩, c'⟩ := x
          simp only [Bool.and_eq_true, beq_iff_eq, Bool.and_true] at g2
          obtain ⟨⟨rfl, rfl⟩, rfl⟩ := g2
          rfl
        rw [g2]
        exact List.mem_of_getElem? hx
      · have g2 : ¬ z = x := by
          rintro rfl
          simp at g2
        simp (config := { decide := true }) only [if_true, if_false]
        refine ⟨⟨i + 1, by rw [w_succ (by omega)], by omega, ?_, H⟩, by rw [w_succ (by omega)]; simp [intOf] <;> omega⟩
        rw [List.take_add_one, hx, Option.toList_some, List.mem_append, not_or]
        exact ⟨hno, by simpa using g2⟩
    · simp only [decide_eq_false_iff_not] at g1
      rw [List.take_of_length_le (by omega)] at hno
      exact s_ret ⟨.inl ⟨rfl, hno⟩, H.base⟩
  apply c33
  refine h_new (Has.init w) fun n6 u H => h_ldI H (by repeat (first | exact pick_head | apply pick_tail | apply pick_app)) rfl (h_ldI H (by repeat (first | exact pick_head | apply pick_tail | apply pick_app)) rfl (h_ldB H (by repeat (first | exact pick_head | apply pick_tail | apply pick_app)) rfl ?_))
  refine s_call (idx (h.fr0 H.base)) ?_
  rintro _ u ⟨⟨rfl, hz⟩ | ⟨i, rfl, hz⟩, f⟩
  · exact ⟨_, rfl, s_asI (s_ret ⟨by rw [decide_eq_false hz]; rfl, (H.fr0 f).base⟩)⟩
  · refine ⟨_, rfl, s_asI (s_ret ⟨?_, (H.fr0 f).base⟩)⟩
    rw [decide_eq_true hz, decide_eq_true (show (i : Int) ≥ 0 by omega)]
end
end Go.Proofs.Ytndkffhlheaepaa
