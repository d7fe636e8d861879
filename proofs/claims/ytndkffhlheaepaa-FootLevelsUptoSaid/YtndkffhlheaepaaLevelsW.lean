/- What levels are; the walk of FootLevels. -/
import Derived.Test.YtndkffhlheaepaaOrderW
set_option linter.unusedVariables false
set_option linter.unusedSimpArgs false
set_option maxRecDepth 100000
set_option maxHeartbeats 4000000
namespace Go.Proofs.Ytndkffhlheaepaa
open Go hiding Expr
open Go.RowKit Tr

/-! ### What levels are -/
def lvU (X : List TX) (k : Nat) : List Int := (ordU X k).foldl stepLv (List.replicate X.length 0)
def lvK (X : List TX) (k j : Nat) : List Int := (ordU X k ++ ordK X k j).foldl stepLv (List.replicate X.length 0)
theorem lvK_zero (X : List TX) (k : Nat) : lvK X k 0 = lvU X k := by simp [lvK, lvU, ordK]
theorem lvK_full (X : List TX) (k : Nat) : lvK X k k = lvU X (k + 1) := by unfold lvK lvU; rw [ordU_succ]
theorem lvK_succ (X : List TX) (k j : Nat) : lvK X k (j + 1) = if clAt X j k then stepLv (lvK X k j) (j, k) else lvK X k j := by
  unfold lvK
  rw [ordK_succ, ← List.append_assoc, List.foldl_append (l' := if clAt X j k then [(j, k)] else [])]
  split <;> rfl
theorem lvK_len (X : List TX) (k j : Nat) : (lvK X k j).length = X.length := by unfold lvK; rw [fold_len, List.length_replicate]
theorem lv_set_ne {v : List Int} {i j : Nat} {z : Int} (h : i ≠ j) : lv (v.set i z) j = lv v j := by
  unfold lv
  rw [List.getElem?_set, if_neg h]
theorem lv_set_eq {v : List Int} {i : Nat} {z : Int} (h : i < v.length) : lv (v.set i z) i = z := by
  unfold lv
  rw [List.getElem?_set, if_pos rfl, if_pos h]
  rfl
theorem lvK_ne {X : List TX} {k j i : Nat} (h : i ≠ k) : lv (lvK X k j) i = lv (lvU X k) i := by
  induction j with
  | zero => rw [lvK_zero]
  | succ j ih =>
    rw [lvK_succ]
    split
    · unfold stepLv
      rw [lv_set_ne (by omega)]
      exact ih
    · exact ih
theorem lvU_high {X : List TX} {k i : Nat} (h : k ≤ i) (hi : i < X.length) : lv (lvU X k) i = 0 := by
  induction k with
  | zero =>
    unfold lvU ordU lv
    simp [hi]
  | succ k ih =>
    rw [← lvK_full, lvK_ne (by omega)]
    exact ih (by omega)
theorem lvU_keep {X : List TX} {k i : Nat} (h : i < k) : lv (lvU X k) i = lv (lvU X (i + 1)) i := by
  induction k with
  | zero => omega
  | succ k ih =>
    rcases Nat.lt_or_ge i k with h1 | h1
    · rw [← lvK_full, lvK_ne (by omega)]
      exact ih h1
    · obtain rfl : i = k := by omega
      rfl
/-- What the level of k is, once those below j have been looked at. -/
theorem lvK_spec {X : List TX} {k : Nat} (hk : k < X.length) (j : Nat) (hj : j ≤ k) : (∀ i, i < j → clAt X i k = true → lv (lvU X k) i < lv (lvK X k j) k) ∧
    (lv (lvK X k j) k = 0 ∨ ∃ i, i < j ∧ clAt X i k = true ∧ lv (lvU X k) i = lv (lvK X k j) k - 1) := by
  induction j with
  | zero => exact ⟨fun i hi => by omega, .inl (by rw [lvK_zero]; exact lvU_high (Nat.le_refl _) hk)⟩
  | succ j ih =>
    obtain ⟨h1, h2⟩ := ih (by omega)
    rw [lvK_succ]
    cases hc : clAt X j k with
    | false =>
      rw [if_neg (by simp)]
      refine ⟨fun i hi hci => ?_, ?_⟩
      · rcases Nat.lt_or_ge i j with h | h
        · exact h1 i h hci
        · obtain rfl : i = j := by omega
          rw [hc] at hci; cases hci
      · rcases h2 with h | ⟨i, hi, hci, he⟩
        · exact .inl h
        · exact .inr ⟨i, by omega, hci, he⟩
    | true =>
      rw [if_pos rfl]
      have hj' : lv (lvK X k j) j = lv (lvU X k) j := lvK_ne (by omega)
      have hnew : lv (stepLv (lvK X k j) (j, k)) k = max (lv (lvK X k j) k) (lv (lvU X k) j + 1) := by
        unfold stepLv
        rw [lv_set_eq (by rw [lvK_len]; exact hk), hj']
      rw [hnew]
      refine ⟨fun i hi hci => ?_, ?_⟩
      · rcases Nat.lt_or_ge i j with h | h
        · have := h1 i h hci
          omega
        · obtain rfl : i = j := by omega
          omega
      · rcases Int.le_total (lv (lvK X k j) k) (lv (lvU X k) j + 1) with h | h
        · refine .inr ⟨j, by omega, hc, ?_⟩
          omega
        · rw [Int.max_eq_left h]
          rcases h2 with h' | ⟨i, hi, hci, he⟩
          · exact .inl h'
          · exact .inr ⟨i, by omega, hci, he⟩
theorem levels_spec {X : List TX} {k : Nat} (hk : k < X.length) : (∀ i, i < k → clAt X i k = true → lv (levelsOf X) i < lv (levelsOf X) k) ∧
    (lv (levelsOf X) k = 0 ∨ ∃ i, i < k ∧ clAt X i k = true ∧ lv (levelsOf X) i = lv (levelsOf X) k - 1) := by
  have hL : levelsOf X = lvU X X.length := rfl
  have hkk : lv (levelsOf X) k = lv (lvK X k k) k := by rw [hL, lvU_keep hk, lvK_full]
  have hik : ∀ i, i < k → lv (levelsOf X) i = lv (lvU X k) i := fun i hi => by rw [hL, lvU_keep (by omega : i < X.length), lvU_keep hi]
  obtain ⟨h1, h2⟩ := lvK_spec hk k (Nat.le_refl _)
  rw [hkk]
  refine ⟨fun i hi hc => by rw [hik i hi]; exact h1 i hi hc, ?_⟩
  rcases h2 with h | ⟨i, hi, hc, he⟩
  · exact .inl h
  · exact .inr ⟨i, hi, hc, by rw [hik i hi]; exact he⟩

section
variable {w : World} {o : Option Addr} {n cap : Nat} {X : List TX}
theorem flevels_c (h : TxsAt w o X) (hX : ∀ x ∈ X, TxOk x) (hn : n = X.length) (hcap : n ≤ cap) (hl : X.length ≤ 1048576) : Calls Try.prog 4 #[.slice o n cap] w fun en w' => en = .returned (.bool true) ∧ Fr [] w w' := by
  subst hn
  apply c4
  refine s_min (s_asI ?_)
  obtain ⟨m, hm⟩ : ∃ m : Nat, m = min X.length 40 := ⟨_, rfl⟩
  have hmi : min (X.length : Int) 40 = (m : Int) := by omega
  rw [hmi]
  have hml : m = (X.take m).length := by rw [List.length_take]; omega
  refine s_req ⟨by omega, by omega⟩ ?_
  rw [sb_zero, Int.toNat_natCast]
  have h := h.take m
  have hX : ∀ x ∈ X.take m, TxOk x := fun x hx => hX x (List.mem_of_mem_take hx)
  generalize X.take m = Y at *
  subst hml
  have hYl : Y.length ≤ 40 := by omega
  refine s_call (levels_c h hX rfl (by omega)) ?_
  rintro _ u ⟨v, c, rfl, ho, H⟩
  obtain ⟨o6, c8, rfl⟩ := ho.slice
  have hsq : Y.length * Y.length ≤ 1600 := Nat.le_trans (Nat.mul_le_mul hYl hYl) (by decide)
  have hPl := ordU_len Y Y.length
  have hup : Upto' (levelsOf Y) 1600 := by
    have := upto_fold (ordL Y) (upto_zero Y.length)
    rw [Nat.zero_add] at this
    intro z hz
    have := this z hz
    have h2 : (ordL Y).length ≤ Y.length * Y.length := hPl
    omega
  have hll := levelsOf_len Y
  have hlv : ∀ {i : Nat}, i < Y.length → (levelsOf Y)[i]? = some (lv (levelsOf Y) i) := by
    intro i hi
    unfold lv
    rw [List.getElem?_eq_getElem (by omega)]
    rfl
  refine ⟨_, rfl, s_asS (h_blk (fun _ => True) H ?_ ?_)⟩
  · refine s_ite (fun g => ?_) (fun g => ?_)
    · simp at g
    refine s_call live_c ?_
    rintro _ u ⟨rfl, f⟩
    have H := H.fr0 f
    refine ⟨_, rfl, s_asB (s_false rfl (s_next (by simp) ?_))⟩
    simp (config := { decide := true }) only [if_true, if_false]
    exact ⟨H, trivial⟩
  · rintro _ _ W H _
    refine s_loop (fun vs W => ∃ k : Nat, vs = [.int .i64 k] ∧ k ≤ Y.length ∧ Has w W c) (fun vs _ => Y.length - (intOf (vs.getD 0 undef)).toNat) ⟨0, rfl, by omega, H⟩ ?_
    clear H
    rintro _ j W ⟨k, rfl, hk, H⟩
    refine s_asI (s_ite (fun g1 => ?_) (fun g1 => s_ret ⟨rfl, H.base⟩))
    simp only [decide_eq_true_eq] at g1
    have hkY : k < Y.length := by omega
    obtain ⟨s1, s2⟩ := levels_spec hkY
    obtain ⟨b, hb⟩ : ∃ b, Y[k]? = some b := ⟨_, List.getElem?_eq_getElem hkY⟩
    have hbk := lv_upto hup k
    obtain ⟨gk, offk, hek, pk⟩ := (valsAt_own (l := levelsOf Y) (n := Y.length) (by rw [← hll]; rw [← hll] at ho; exact ho) H cut_all).get (hlv hkY)
    refine s_req ⟨by omega, g1⟩ ⟨gk, offk, hek, s_loadI pk ?_⟩
    refine s_loop (fun vs W => ∃ (i : Nat) (bl : Bool), vs = [.bool bl, .int .i64 i] ∧ i ≤ k ∧ (bl = true ↔ (lv (levelsOf Y) k = 0 ∨ ∃ i', i' < i ∧ clAt Y i' k = true ∧ lv (levelsOf Y) i' = lv (levelsOf Y) k - 1)) ∧ Has w W c) (fun vs _ => k - (intOf (vs.getD 1 undef)).toNat)
      ⟨0, _, rfl, by omega, by simp, H⟩ ?_
    clear H
    rintro _ j2 W ⟨i, bl, rfl, hi, hbl, H⟩
    refine s_asB (s_asI (s_ite (fun g2 => ?_) (fun g2 => ?_)))
    · simp only [decide_eq_true_eq] at g2
      have hik : i < k := by omega
      obtain ⟨a, ha⟩ : ∃ a, Y[i]? = some a := ⟨_, List.getElem?_eq_getElem (by omega)⟩
      have hcl := clAt_of ha hb
      have hbi := lv_upto hup i
      refine h_drew H fun u H => ?_
      obtain ⟨ga, offa, hea, ⟨a0, a1, a2, a3, a4, a5⟩, hat⟩ := (h.fr0 H.base).get ha
      obtain ⟨gb, offb, heb, ⟨b0, b1, b2, b3, b4, b5⟩, hbt⟩ := (h.fr0 H.base).get hb
      refine s_req ⟨by omega, by omega⟩ ⟨ga, offa, hea, s_loadI a0 (s_loadI a1 (s_loadS a2 (s_loadS a3 (s_loadS a4 (s_loadS a5 (s_req ⟨by omega, g1⟩ ⟨gb, offb, heb, s_loadI b0 (s_loadI b1 (s_loadS b2 (s_loadS b3 (s_loadS b4 (s_loadS b5 ?_)))))⟩))))))⟩
      refine s_call (clash_c hat (hX a (List.mem_of_getElem? ha)) hbt (hX b (List.mem_of_getElem? hb))) ?_
      rintro _ u ⟨rfl, f⟩
      have H := H.fr0 f
      have hget : ∀ {u : World} {q : Nat}, Has w u c → q < Y.length → ∃ g off, o6 = some ⟨g, off, none⟩ ∧ u.cell? ⟨g, off + q * 1, none⟩ = some (.int .i64 (lv (levelsOf Y) q)) := fun H hq =>
        (valsAt_own (l := levelsOf Y) (n := Y.length) (by rw [← hll]; rw [← hll] at ho; exact ho) H cut_all).get (hlv hq)
      refine ⟨_, rfl, s_asB (s_chk c_nil ?_)⟩
      refine s_blk (fun _ W => Has w W c) ?_ ?_
      · clear H
        rintro _ _ W H
        have hstep : ∀ (bl' : Bool), (bl' = true ↔ (lv (levelsOf Y) k = 0 ∨ ∃ i', i' < i + 1 ∧ clAt Y i' k = true ∧ lv (levelsOf Y) i' = lv (levelsOf Y) k - 1)) → ∀ {u : World}, Has w u c →
            ((∃ (i_1 : Nat) (bl : Bool), [Value.bool bl', .int .i64 (IntKind.wrap .i64 ((i : Int) + 1))] = [.bool bl, .int .i64 (i_1 : Int)] ∧ i_1 ≤ k ∧ (bl = true ↔ (lv (levelsOf Y) k = 0 ∨ ∃ i', i' < i_1 ∧ clAt Y i' k = true ∧ lv (levelsOf Y) i' = lv (levelsOf Y) k - 1)) ∧ Has w u c) ∧
              k - (intOf ([Value.bool bl', .int .i64 (IntKind.wrap .i64 ((i : Int) + 1))].getD 1 undef)).toNat < k - (intOf ([Value.bool bl, .int .i64 (i : Int)].getD 1 undef)).toNat) := by
          intro bl' hb' u H
          exact ⟨⟨i + 1, bl', by rw [w_succ (by omega)], by omega, hb', H⟩, by rw [w_succ (by omega)]; simp [intOf] <;> omega⟩
        refine h_drew H fun u H => s_ite (fun g3 => s_next (by first | exact ⟨rfl, rfl⟩ | trivial) ?_) (fun g3 => s_ite (fun g4 => ?_) (fun g4 => s_next (by first | exact ⟨rfl, rfl⟩ | trivial) ?_))
        · simp (config := { decide := true }) only [if_true, if_false]
          refine hstep true ⟨fun _ => ?_, fun _ => rfl⟩ H
          rcases hbl.1 g3 with h1 | ⟨i', h1, h2, h3⟩
          · exact .inl h1
          · exact .inr ⟨i', by omega, h2, h3⟩
        · obtain ⟨gi, offi, hei, pi⟩ := hget H (show i < Y.length by omega)
          obtain ⟨gk, offk, hek, pk⟩ := hget H hkY
          refine s_req ⟨by omega, by omega⟩ ⟨gi, offi, hei, s_loadI pi (s_req ⟨by omega, by omega⟩ ⟨gk, offk, hek, s_loadI pk (s_next (by first | exact ⟨rfl, rfl⟩ | trivial) ?_)⟩)⟩
          simp (config := { decide := true }) only [if_true, if_false]
          refine hstep _ ?_ H
          rw [wrap64 (n := lv (levelsOf Y) k - 1) (by omega) (by omega)]
          have hno : ¬ (lv (levelsOf Y) k = 0 ∨ ∃ i', i' < i ∧ clAt Y i' k = true ∧ lv (levelsOf Y) i' = lv (levelsOf Y) k - 1) := fun h => by rw [hbl.2 h] at g3; cases g3
          constructor
          · intro h
            exact .inr ⟨i, by omega, by rw [hcl]; exact g4, by simpa using h⟩
          · rintro (h | ⟨i', h1, h2, h3⟩)
            · exact absurd (.inl h) hno
            · rcases Nat.lt_or_ge i' i with h4 | h4
              · exact absurd (.inr ⟨i', h4, h2, h3⟩) hno
              · obtain rfl : i' = i := by omega
                simpa using h3
        · simp (config := { decide := true }) only [if_true, if_false]
          refine hstep false ⟨fun h => (by cases h), ?_⟩ H
          have hno : ¬ (lv (levelsOf Y) k = 0 ∨ ∃ i', i' < i ∧ clAt Y i' k = true ∧ lv (levelsOf Y) i' = lv (levelsOf Y) k - 1) := fun h => by rw [hbl.2 h] at g3; cases g3
          rintro (h | ⟨i', h1, h2, h3⟩)
          · exact absurd (.inl h) hno
          · rcases Nat.lt_or_ge i' i with h4 | h4
            · exact absurd (.inr ⟨i', h4, h2, h3⟩) hno
            · obtain rfl : i' = i := by omega
              rw [hcl, g4] at h2
              cases h2
      · refine h_drew H fun u H => s_ite (fun g3 => ?_) (fun g3 => s_next (by first | exact ⟨rfl, rfl⟩ | trivial) ?_)
        · obtain ⟨gi, offi, hei, pi⟩ := hget H (show i < Y.length by omega)
          obtain ⟨gk, offk, hek, pk⟩ := hget H hkY
          have hlt := s1 i hik (by rw [hcl]; exact g3)
          refine s_req ⟨by omega, by omega⟩ ⟨gi, offi, hei, s_loadI pi (s_req ⟨by omega, by omega⟩ ⟨gk, offk, hek, s_loadI pk (s_false (decide_eq_false (by omega)) (s_next (by first | exact ⟨rfl, rfl⟩ | trivial) ?_))⟩)⟩
          simp (config := { decide := true }) only [if_true, if_false]
          exact H
        · simp (config := { decide := true }) only [if_true, if_false]
          exact H
    · simp only [decide_eq_false_iff_not] at g2
      obtain rfl : i = k := by omega
      have hbt : bl = true := hbl.2 (by
        rcases s2 with h1 | ⟨i', h1, h2, h3⟩
        · exact .inl h1
        · exact .inr ⟨i', h1, h2, h3⟩)
      subst hbt
      refine s_false rfl (s_next (by first | exact ⟨rfl, rfl⟩ | trivial) ?_)
      simp (config := { decide := true }) only [if_true, if_false]
      exact ⟨⟨i + 1, by rw [w_succ (by omega)], by omega, H⟩, by rw [w_succ (by omega)]; simp [intOf] <;> omega⟩
end
end Go.Proofs.Ytndkffhlheaepaa
