/- The program's line of a step is the reference's: plain. -/
import Derived.Test.YtihipcofjpnfbaaGreatDoorRStep
import Derived.Test.YtihipcofjpnfbaaGreatDoorStepM
set_option linter.unusedVariables false
set_option linter.unusedSimpArgs false
set_option maxRecDepth 100000
set_option maxHeartbeats 2000000
namespace Go.Proofs.YtihipcofjpnfbaaGreatDoor
open Go hiding Expr
open Go.RowKit Tr

def bareZ (k : Int) : ST := ⟨k, 0, 0, TX.none, [], 0, 0, 0, 0, 0, 0⟩
theorem isNone_eq (y : ST) : isNone y = decide (y = bareZ y.kind) := by
  rw [Bool.eq_iff_iff, decide_eq_true_iff]
  obtain ⟨kind, at_, client, ⟨s, q, code, args, rd, wr⟩, keys, frm, dst, place, wth, keep, count⟩ := y
  simp only [isNone, bareZ, TX.none, Bool.and_eq_true, beq_iff_eq, ST.mk.injEq, TX.mk.injEq, true_and]
  constructor
  · rintro ⟨⟨⟨⟨⟨⟨⟨⟨⟨⟨h1, h2⟩, h3⟩, h4⟩, h5⟩, h6⟩, h7⟩, h8⟩, h9⟩, h10⟩, h11⟩
    exact ⟨h1, h2, ⟨h3, h4, List.eq_nil_of_length_eq_zero (by omega), List.eq_nil_of_length_eq_zero (by omega), List.eq_nil_of_length_eq_zero (by omega), List.eq_nil_of_length_eq_zero (by omega)⟩, List.eq_nil_of_length_eq_zero (by omega), h6, h7, h8, h9, h10, h11⟩
  · rintro ⟨h1, h2, ⟨h3, h4, rfl, rfl, rfl, rfl⟩, rfl, h6, h7, h8, h9, h10, h11⟩
    exact ⟨⟨⟨⟨⟨⟨⟨⟨⟨⟨h1, h2⟩, h3⟩, h4⟩, rfl⟩, h6⟩, h7⟩, h8⟩, h9⟩, h10⟩, h11⟩

theorem resT_or (t : TX) : (resT t).2 = 0 ∨ resT t = ([], 1) := by
  unfold resT
  split
  · exact .inr rfl
  · exact .inl rfl

theorem run0 {x : ST} {wd : List UInt8} (hb : x = bareZ x.kind ↔ bareS x = x) : runF x [] [wd] = if bareS x ≠ x then ([], 1) else (wd, 0) := by
  rw [runF, isNone_eq]
  by_cases h : bareS x = x
  · rw [if_pos (by rw [decide_eq_true_eq]; exact hb.2 h), if_neg (by simp [h]), joinL_one]
  · rw [if_neg (by rw [decide_eq_true_eq]; exact fun e => h (hb.1 e)), if_pos h]
theorem join2 (a b : Int) : joinL [dI a, dI b] = dI a ++ 32 :: dI b := by
  rw [joinL_jt]
  simp [jt]
theorem ways (wd : List UInt8) (a b : Int) : wd ++ 32 :: joinL [dI a, dI b] = wd ++ (32 :: dI a ++ (32 :: dI b)) := by rw [join2]; simp
theorem ways3 (wd : List UInt8) (a b c d : Int) : wd ++ (32 :: joinL [dI a, dI b] ++ (32 :: dI c ++ (32 :: dI d))) = wd ++ (32 :: dI a ++ (32 :: dI b ++ (32 :: dI c ++ (32 :: dI d)))) := by rw [join2]; simp
theorem rline2 {a b : Int} {tx : TX} {keys : List K} {c d e f g i : Int} : rline ⟨2, a, b, tx, keys, c, d, e, f, g, i⟩ = if (resT tx).2 ≠ 0 then ([], (resT tx).2) else (wordK 2 ++ (32 :: dI b ++ (32 :: dI a ++ (32 :: (resT tx).1))), 0) := rfl
theorem run1 {x : ST} {f : Int} {wd : List UInt8} (h0 : (fieldR x f).2 = 0) (hb : zf x f = bareZ x.kind ↔ bareS x = x) (hk : (zf x f).kind = x.kind) :
    runF x [f] [wd] = if bareS x ≠ x then ([], 1) else (wd ++ 32 :: (fieldR x f).1, 0) := by
  rw [runF, if_neg (by simp [h0]), runF, isNone_eq, hk]
  by_cases h : bareS x = x
  · rw [if_pos (by simp [hb.2 h]), if_neg (by simp [h]), List.singleton_append, joinL_jt]
    simp [jt]
  · rw [if_neg (by simp; exact fun e => h (hb.1 e)), if_pos h]
theorem run2 {x : ST} {f g : Int} {wd : List UInt8} (h0 : (fieldR x f).2 = 0) (h1 : (fieldR (zf x f) g).2 = 0) (hb : zf (zf x f) g = bareZ x.kind ↔ bareS x = x) (hk : (zf (zf x f) g).kind = x.kind) :
    runF x [f, g] [wd] = if bareS x ≠ x then ([], 1) else (wd ++ (32 :: (fieldR x f).1 ++ (32 :: (fieldR (zf x f) g).1)), 0) := by
  rw [runF, if_neg (by simp [h0]), runF, if_neg (by simp [h1]), runF, isNone_eq, hk]
  by_cases h : bareS x = x
  · rw [if_pos (by simp [hb.2 h]), if_neg (by simp [h]), List.singleton_append, List.cons_append, joinL_jt]
    simp [jt]
  · rw [if_neg (by simp; exact fun e => h (hb.1 e)), if_pos h]
theorem run3 {x : ST} {f g k : Int} {wd : List UInt8} (h0 : (fieldR x f).2 = 0) (h1 : (fieldR (zf x f) g).2 = 0) (hb : zf (zf (zf x f) g) k = bareZ x.kind ↔ bareS x = x) (hk : (zf (zf (zf x f) g) k).kind = x.kind)
    (h2 : (fieldR (zf (zf x f) g) k).2 = 0 ∨ fieldR (zf (zf x f) g) k = ([], 1)) :
    runF x [f, g, k] [wd] = if (fieldR (zf (zf x f) g) k).2 ≠ 0 ∨ bareS x ≠ x then ([], 1) else (wd ++ (32 :: (fieldR x f).1 ++ (32 :: (fieldR (zf x f) g).1 ++ (32 :: (fieldR (zf (zf x f) g) k).1))), 0) := by
  rw [runF, if_neg (by simp [h0]), runF, if_neg (by simp [h1]), runF]
  rcases h2 with h2 | h2
  · rw [if_neg (by simp [h2]), runF, isNone_eq, hk]
    by_cases h : bareS x = x
    · rw [if_pos (by simp [hb.2 h]), if_neg (by simp [h, h2]), List.singleton_append, List.cons_append, List.cons_append, joinL_jt]
      simp [jt]
    · rw [if_neg (by simp; exact fun e => h (hb.1 e)), if_pos (.inr h)]
  · rw [h2]
    rfl

theorem step_eq (x : ST) : stepR x = rstepR x := by
  by_cases hk : 1 ≤ x.kind ∧ x.kind ≤ 20
  · rw [stepR, if_neg (by omega), rstepR]
    have hb : ∀ (k : Int), x.kind = k → wordK k ≠ [] → (if wordK x.kind = [] ∨ bareS x ≠ x then ([], 1) else rline x) = if bareS x ≠ x then (([], 1) : List UInt8 × Int) else rline x := by
      rintro k rfl h
      by_cases h2 : bareS x = x <;> simp [h, h2]
    obtain ⟨kind, at_, client, tx, keys, frm, dst, place, wth, keep, count⟩ := x
    have : kind = 1 ∨ kind = 2 ∨ kind = 3 ∨ kind = 4 ∨ kind = 5 ∨ kind = 6 ∨ kind = 7 ∨ kind = 8 ∨ kind = 9 ∨ kind = 10 ∨ kind = 11 ∨ kind = 12 ∨ kind = 13 ∨ kind = 14 ∨ kind = 15 ∨ kind = 16 ∨ kind = 17 ∨ kind = 18 ∨ kind = 19 ∨ kind = 20 := by
      simp at hk
      omega
    clear hk
    rcases this with rfl | rfl | rfl | rfl | rfl | rfl | rfl | rfl | rfl | rfl | rfl | rfl | rfl | rfl | rfl | rfl | rfl | rfl | rfl | rfl
    · rw [hb 1 rfl (by decide)]
      exact run1 (f := 0) rfl (by simp [zf, bareZ, bareS, eq_comm]) rfl
    · rw [hb 2 rfl (by decide)]
      refine (run3 (x := ⟨2, at_, client, tx, keys, frm, dst, place, wth, keep, count⟩) (f := 1) (g := 0) (k := 2) rfl rfl (by simp [zf, bareZ, bareS, eq_comm]) rfl (show _ ∨ _ from resT_or tx)).trans ?_
      rcases resT_or tx with h | h
      · by_cases h2 : bareS ⟨2, at_, client, tx, keys, frm, dst, place, wth, keep, count⟩ = ⟨2, at_, client, tx, keys, frm, dst, place, wth, keep, count⟩
        · rw [if_neg (by simp only [h2, ne_eq, not_true, or_false, Decidable.not_not]; exact h), if_neg (by simp [h2]), rline2, if_neg (by simp [h])]
          rfl
        · rw [if_pos (.inr h2), if_pos h2]
      · rw [if_pos (.inl (by show (resT tx).2 ≠ 0; rw [h]; decide))]
        by_cases h2 : bareS ⟨2, at_, client, tx, keys, frm, dst, place, wth, keep, count⟩ = ⟨2, at_, client, tx, keys, frm, dst, place, wth, keep, count⟩
        · rw [if_neg (by simp [h2]), rline2, if_pos (by rw [h]; decide), h]
        · rw [if_pos h2]
    · rw [hb 3 rfl (by decide)]
      exact run1 (f := 1) rfl (by simp [zf, bareZ, bareS, eq_comm]) rfl
    · rw [hb 4 rfl (by decide)]
      refine (run3 (f := 1) (g := 0) (k := 3) rfl rfl (by simp [zf, bareZ, bareS, eq_comm]) rfl (.inl rfl)).trans ?_
      by_cases h2 : bareS ⟨4, at_, client, tx, keys, frm, dst, place, wth, keep, count⟩ = ⟨4, at_, client, tx, keys, frm, dst, place, wth, keep, count⟩
      · rw [if_neg (by simp [h2]; rfl), if_neg (by simp [h2])]
        rfl
      · rw [if_pos (.inr h2), if_pos h2]
    · rw [hb 5 rfl (by decide)]
      exact run2 (f := 0) (g := 8) rfl rfl (by simp [zf, bareZ, bareS, eq_comm]) rfl
    · rw [hb 6 rfl (by decide)]
      exact run1 (f := 0) rfl (by simp [zf, bareZ, bareS, eq_comm]) rfl
    · rw [hb 7 rfl (by decide)]
      refine (run1 (f := 4) rfl (by simp [zf, bareZ, bareS, eq_comm]) rfl).trans ?_
      split
      · rfl
      · exact congrArg (fun l => (l, (0 : Int))) (ways _ frm dst)
    · rw [hb 8 rfl (by decide)]
      refine (run1 (f := 4) rfl (by simp [zf, bareZ, bareS, eq_comm]) rfl).trans ?_
      split
      · rfl
      · exact congrArg (fun l => (l, (0 : Int))) (ways _ frm dst)
    · rw [hb 9 rfl (by decide)]
      refine (run1 (f := 4) rfl (by simp [zf, bareZ, bareS, eq_comm]) rfl).trans ?_
      split
      · rfl
      · exact congrArg (fun l => (l, (0 : Int))) (ways _ frm dst)
    · rw [hb 10 rfl (by decide)]
      refine (run3 (f := 4) (g := 5) (k := 6) rfl rfl (by simp [zf, bareZ, bareS, eq_comm]) rfl (.inl rfl)).trans ?_
      by_cases h2 : bareS ⟨10, at_, client, tx, keys, frm, dst, place, wth, keep, count⟩ = ⟨10, at_, client, tx, keys, frm, dst, place, wth, keep, count⟩
      · rw [if_neg (by simp [h2]; rfl), if_neg (by simp [h2])]
        exact congrArg (fun l => (l, (0 : Int))) (ways3 _ _ _ _ _)
      · rw [if_pos (.inr h2), if_pos h2]
    · rw [hb 11 rfl (by decide)]
      exact run1 (f := 0) rfl (by simp [zf, bareZ, bareS, eq_comm]) rfl
    · rw [hb 12 rfl (by decide)]
      refine (run3 (f := 0) (g := 8) (k := 7) rfl rfl (by simp [zf, bareZ, bareS, eq_comm]) rfl (.inl rfl)).trans ?_
      by_cases h2 : bareS ⟨12, at_, client, tx, keys, frm, dst, place, wth, keep, count⟩ = ⟨12, at_, client, tx, keys, frm, dst, place, wth, keep, count⟩
      · rw [if_neg (by simp [h2]; rfl), if_neg (by simp [h2])]
        rfl
      · rw [if_pos (.inr h2), if_pos h2]
    · rw [hb 13 rfl (by decide)]
      exact run1 (f := 0) rfl (by simp [zf, bareZ, bareS, eq_comm]) rfl
    · rw [hb 14 rfl (by decide)]
      exact run0 (by simp [bareZ, bareS, eq_comm])
    · rw [hb 15 rfl (by decide)]
      exact run0 (by simp [bareZ, bareS, eq_comm])
    · rw [hb 16 rfl (by decide)]
      exact run1 (f := 1) rfl (by simp [zf, bareZ, bareS, eq_comm]) rfl
    · rw [hb 17 rfl (by decide)]
      exact run1 (f := 1) rfl (by simp [zf, bareZ, bareS, eq_comm]) rfl
    · rw [hb 18 rfl (by decide)]
      refine (run1 (f := 4) rfl (by simp [zf, bareZ, bareS, eq_comm]) rfl).trans ?_
      split
      · rfl
      · exact congrArg (fun l => (l, (0 : Int))) (ways _ frm dst)
    · rw [hb 19 rfl (by decide)]
      refine (run1 (f := 4) rfl (by simp [zf, bareZ, bareS, eq_comm]) rfl).trans ?_
      split
      · rfl
      · exact congrArg (fun l => (l, (0 : Int))) (ways _ frm dst)
    · rw [hb 20 rfl (by decide)]
      refine (run1 (f := 4) rfl (by simp [zf, bareZ, bareS, eq_comm]) rfl).trans ?_
      split
      · rfl
      · exact congrArg (fun l => (l, (0 : Int))) (ways _ frm dst)
  · rw [stepR, if_pos (by omega), rstepR, if_pos]
    left
    rw [wordK, if_neg hk]
end Go.Proofs.YtihipcofjpnfbaaGreatDoor
