/- slices.Compact of numbers. -/
import Derived.Test.YtpjcfnnnciknmaaGreatIntsP
import Derived.Test.YtpjcfnnnciknmaaGreatInts
import Derived.Test.YtpjcfnnnciknmaaGreatSortK
import Derived.Test.YtpjcfnnnciknmaaGreatTreesA
set_option linter.unusedVariables false
set_option linter.unusedSimpArgs false
set_option maxRecDepth 100000
set_option maxHeartbeats 4000000
namespace Go.Proofs.YtpjcfnnnciknmaaGreat
open Go hiding Expr
open Go.RowKit Tr

section
variable {w w' w0 : World} {m m' c : Hp} {o : Option Addr} {cap n g : Nat} {l X : List Int} {sp : List Value}

theorem take_succ' {α : Type} {l : List α} {i : Nat} {x : α} (h : l[i]? = some x) : l.take (i + 1) = l.take i ++ [x] := by
  obtain ⟨hi, rfl⟩ := List.getElem?_eq_some_iff.1 h
  rw [List.take_succ_eq_append_getElem hi]
theorem is_len : (ints X ++ sp).length = X.length + sp.length := by rw [List.length_append, ints_len]
theorem is_get {j : Nat} {x : Int} (h : X[j]? = some x) : (ints X ++ sp)[j]? = some (.int .i64 x) := by
  have := (List.getElem?_eq_some_iff.1 h).1
  rw [List.getElem?_append_left (by rw [ints_len]; exact this)]
  exact ints_get h
theorem is_set {a : Nat} {x : Int} (h : a < X.length) : (ints X ++ sp).set a (.int .i64 x) = ints (X.set a x) ++ sp := by
  rw [List.set_append_left _ _ (by rw [ints_len]; exact h), ints_eq, ints_eq, List.map_set]

theorem compactI_c (h : Cells w g 3 (ints l ++ sp)) (hcap : (ints l ++ sp).length = cap) (hle : l.length ≤ cap) (hsz : l.length < 1152921504606846976) :
    Calls Tryz.prog 32 #[.slice (some ⟨g, 0, none⟩) l.length cap] w fun e w' =>
      ∃ sp', e = .returned (.slice (some ⟨g, 0, none⟩) (compN none l).length cap) ∧ Fr [g] w w' ∧ Cells w' g 3 (ints (compN none l) ++ sp') ∧ (ints (compN none l) ++ sp').length = cap := by
  apply c32
  refine s_ite (fun g1 => ?_) (fun g1 => ?_)
  · simp only [decide_eq_true_eq] at g1
    have hc : compN none l = l := by
      match l, g1 with
      | [], _ => rfl
      | [a], _ => simp [compN]
      | _ :: _ :: _, h => simp at h; omega
    rw [hc]
    exact s_ret ⟨sp, rfl, Fr.refl _ _, h, hcap⟩
  simp only [decide_eq_false_iff_not] at g1
  refine s_loop (fun vs W => ∃ i : Nat, vs = [.int .i64 i] ∧ 1 ≤ i ∧ i ≤ l.length ∧ compN none (l.take i) = l.take i ∧ Fr [g] w W ∧ Cells W g 3 (ints l ++ sp)) (fun vs _ => l.length - (intOf (vs.getD 0 undef)).toNat)
    ⟨1, rfl, by omega, by omega, ?_, Fr.refl _ _, h⟩ ?_
  · match l, g1 with
    | [], h => simp at h
    | a :: r, _ => simp [compN]
  rintro _ j W ⟨i, rfl, hi1, hi2, hcomp, hf, h1⟩
  refine s_asI (s_ite (fun g2 => ?_) (fun g2 => ?_))
  · simp only [decide_eq_true_eq] at g2
    have hlt : i < l.length := by omega
    obtain ⟨x, hx⟩ : ∃ x, l[i - 1]? = some x := ⟨_, List.getElem?_eq_getElem (by omega)⟩
    obtain ⟨y, hy⟩ : ∃ y, l[i]? = some y := ⟨_, List.getElem?_eq_getElem hlt⟩
    refine s_drew fun W2 _ f2 => ?_
    have h2 := f2.cells h1 (by simp)
    rw [w_pred hi1 (by omega)]
    simp only [Int.toNat_natCast, Nat.mul_one]
    refine s_req ⟨by omega, by omega⟩ (s_sm ?_)
    simp only [Nat.zero_add]
    refine s_ldI h2 (is_get hy) (s_req ⟨by omega, by omega⟩ (s_sm ?_))
    simp only [Nat.zero_add]
    refine s_ldI h2 (is_get hx) ?_
    have hst := compN_step hx (show l[i - 1 + 1]? = some y by rw [show i - 1 + 1 = i by omega]; exact hy)
    rw [show i - 1 + 2 = i + 1 by omega, show i - 1 + 1 = i by omega] at hst
    refine s_ite (fun g3 => ?_) (fun g3 => s_next (by first | exact ⟨rfl, rfl⟩ | trivial) ?_)
    · have heq : y = x := by simpa using g3
      subst heq
      rw [if_pos rfl, List.append_nil] at hst
      refine s_req ⟨by omega, by omega⟩ ?_
      refine s_loop (fun vs W => ∃ (a b : Nat) (X : List Int), vs = [.int .i64 a, .int .i64 b] ∧ 1 ≤ b ∧ i + b ≤ l.length ∧ a + 1 ≤ i + b ∧ X.length = l.length ∧ (∀ j, i + b ≤ j + 1 → X[j]? = l[j]?) ∧ X.take a = compN none (l.take (i + b)) ∧ Fr [g] w W ∧ Cells W g 3 (ints X ++ sp))
        (fun vs _ => l.length - (intOf (vs.getD 1 undef)).toNat) ⟨i, 1, l, rfl, by omega, by omega, by omega, rfl, fun _ _ => rfl, by rw [hst, hcomp], hf.trans f2.nil, h2⟩ ?_
      rintro _ j3 W3 ⟨a, b, X, rfl, hb1, hb2, hab, hXl, hX, htk, hf3, h3⟩
      have hsb : i < l.length → sliceBase (some ⟨g, 0, none⟩) i cap 1 = some ⟨g, i * 1, none⟩ := fun _ => by
        unfold sliceBase
        rw [if_neg (by omega)]
        simp [add_plain]
      refine s_asI (s_asI (s_ite (fun g4 => ?_) (fun g4 => ?_)))
      · simp only [decide_eq_true_eq, Int.toNat_natCast] at g4
        have hib : i + b < l.length := by omega
        refine s_drew fun W4 _ f4 => ?_
        have h4 := f4.cells h3 (by simp)
        simp only [Int.toNat_natCast]
        rw [hsb hlt, w_pred hb1 (by omega)]
        simp only [Int.toNat_natCast, Nat.mul_one]
        obtain ⟨x2, hx2⟩ : ∃ x, l[i + (b - 1)]? = some x := ⟨_, List.getElem?_eq_getElem (by omega)⟩
        obtain ⟨y2, hy2⟩ : ∃ y, l[i + b]? = some y := ⟨_, List.getElem?_eq_getElem hib⟩
        have hXx : X[i + (b - 1)]? = some x2 := by rw [hX _ (by omega), hx2]
        have hXy : X[i + b]? = some y2 := by rw [hX _ (by omega), hy2]
        refine s_req ⟨by omega, by omega⟩ (s_sm (s_ldI h4 (is_get hXy) (s_req ⟨by omega, by omega⟩ (s_sm (s_ldI h4 (is_get hXx) ?_)))))
        have hst2 := compN_step hx2 (show l[i + (b - 1) + 1]? = some y2 by rw [show i + (b - 1) + 1 = i + b by omega]; exact hy2)
        rw [show i + (b - 1) + 2 = i + (b + 1) by omega, show i + (b - 1) + 1 = i + b by omega] at hst2
        refine s_ite (fun g5 => ?_) (fun g5 => s_next (by first | exact ⟨rfl, rfl⟩ | trivial) ?_)
        · have hne : ¬ x2 = y2 := fun e => by rw [e] at g5; simp at g5
          rw [if_neg hne] at hst2
          refine s_req ⟨by omega, by omega⟩ (s_sm (s_ldI h4 (is_get hXy) (s_req ⟨by omega, by omega⟩ (s_sm ?_))))
          simp only [Nat.zero_add]
          refine s_st h4 (by rw [is_len]; omega) rfl fun W5 _ f5 h5 => s_next (by first | exact ⟨rfl, rfl⟩ | trivial) ?_
          rw [is_set (by omega)] at h5
          simp (config := { decide := true }) only [if_true, if_false]
          rw [w_succ (by omega), w_succ (by omega)]
          refine ⟨⟨a + 1, b + 1, _, rfl, by omega, by omega, by omega, by simp [hXl], fun j hj => ?_, ?_, (hf3.trans f4.nil).trans f5, h5⟩, by simp [intOf] <;> omega⟩
          · rw [List.getElem?_set_ne (by omega)]
            exact hX j (by omega)
          · rw [hst2, ← htk]
            rw [List.take_add_one, List.getElem?_set_self (by omega), List.take_set_of_le (by omega)]
            rfl
        · have hee : x2 = y2 := by
            have : y2 = x2 := by simpa using g5
            exact this.symm
          rw [if_pos hee, List.append_nil] at hst2
          simp (config := { decide := true }) only [if_true, if_false]
          rw [w_succ (by omega)]
          exact ⟨⟨a, b + 1, X, rfl, by omega, by omega, by omega, hXl, fun j hj => hX j (by omega), by rw [hst2]; exact htk, hf3.trans f4.nil, h4⟩, by simp [intOf] <;> omega⟩
      · simp only [decide_eq_false_iff_not, Int.toNat_natCast] at g4
        have hib : i + b = l.length := by omega
        rw [hib, List.take_length] at htk
        simp only [Int.toNat_natCast]
        have hla : (compN none l).length = a := by rw [← htk, List.length_take]; omega
        have hlen3 : (ints X ++ sp).length = cap := by rw [is_len, hXl, ← hcap, is_len]
        have fin : ∀ (l' : List Value) (W' : World), l'.length = (ints X ++ sp).length → (∀ i, i < a → l'[i]? = (ints X ++ sp)[i]?) → Fr [g] w W' → Cells W' g 3 l' →
            ∃ sp', Ending.returned (.slice (sliceBase (some ⟨g, 0, none⟩) 0 cap 1) a cap) = .returned (.slice (some ⟨g, 0, none⟩) (compN none l).length cap) ∧ Fr [g] w W' ∧ Cells W' g 3 (ints (compN none l) ++ sp') ∧ (ints (compN none l) ++ sp').length = cap := by
          intro l' W' hl1 hl2 hf' hc'
          have hpre : l'.take a = ints (compN none l) := by
            have he : (ints X ++ sp).take a = ints (compN none l) := by
              rw [← htk, List.take_append_of_le_length (by rw [ints_len]; omega), ints_eq, ints_eq, List.map_take]
            rw [← he]
            refine List.ext_getElem? fun k => ?_
            rw [List.getElem?_take, List.getElem?_take]
            split
            · exact hl2 k (by assumption)
            · rfl
          refine ⟨l'.drop a, by rw [hla, sb_zero], hf', ?_, ?_⟩
          · rw [← hpre, List.take_append_drop]; exact hc'
          · rw [← hpre, List.take_append_drop, hl1, hlen3]
        refine s_req ⟨by omega, by omega⟩ ?_
        refine s_clear (z := .int .i64 0) h3 (by kernel_rfl) (fun w => by kernel_rfl) (by intro u hu; simp [Value.cells] at hu; subst hu; rfl) (by decide) (o := if cap = a then 0 else a * 1) ?_ ?_ ?_
        · unfold sliceBase
          split
          · rfl
          · simp [add_plain]
        · show _ + (l.length - a) * 1 ≤ _
          rw [hlen3]; split <;> omega
        · intro l' W4 f4 h4 hl1 hl2
          refine s_req ⟨by omega, by omega⟩ (s_ret (fin l' W4 hl1 (fun k hk => ?_) (hf3.trans f4) h4))
          by_cases hca : cap = a
          · have : l.length - a = 0 := by omega
            exact hl2 k (.inr this)
          · exact hl2 k (.inl (by rw [if_neg hca]; omega))
    · have hne : ¬ x = y := fun e => by rw [e] at g3; simp at g3
      rw [if_neg hne] at hst
      simp (config := { decide := true }) only [if_true, if_false]
      rw [w_succ (by omega)]
      refine ⟨⟨i + 1, rfl, by omega, by omega, ?_, hf.trans f2.nil, h2⟩, by simp [intOf] <;> omega⟩
      rw [hst, hcomp, take_succ' hy]
  · simp only [decide_eq_false_iff_not] at g2
    have : i = l.length := by omega
    rw [this, List.take_length] at hcomp
    rw [hcomp]
    exact s_ret ⟨sp, rfl, hf, h1, hcap⟩
end
end Go.Proofs.YtpjcfnnnciknmaaGreat
