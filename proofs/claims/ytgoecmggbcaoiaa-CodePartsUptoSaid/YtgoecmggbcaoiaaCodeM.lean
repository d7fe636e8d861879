/- The small functions of instructions in the model: forms, sizes, registers, what fits. -/
import Derived.Test.YtgoecmggbcaoiaaTreesA
import Derived.Test.YtgoecmggbcaoiaaCodeP
import Derived.Test.YtgoecmggbcaoiaaByt
set_option linter.unusedVariables false
set_option linter.unusedSimpArgs false
set_option maxRecDepth 100000
set_option maxHeartbeats 2000000
namespace Go.Proofs.Ytgoecmggbcaoiaa
open Go hiding Expr
open Go.RowKit Tr

theorem wrapI {n : Int} (h1 : -9223372036854775808 ≤ n) (h2 : n ≤ 9223372036854775807) : IntKind.wrap .i64 n = n := by
  rw [IntKind.wrap_i64]; omega
theorem w_add {i j : Nat} (h : i + j < 9223372036854775807) : IntKind.wrap .i64 ((i : Int) + (j : Int)) = ((i + j : Nat) : Int) := by rw [wrapI (by omega) (by omega)]; rfl
theorem w_succ {i : Nat} (h : i < 9223372036854775807) : IntKind.wrap .i64 ((i : Int) + 1) = ((i + 1 : Nat) : Int) := by rw [wrapI (by omega) (by omega)]; rfl
theorem w_sub {i j : Nat} (h : j ≤ i) (h2 : i < 9223372036854775807) : IntKind.wrap .i64 ((i : Int) - (j : Int)) = ((i - j : Nat) : Int) := by rw [wrapI (by omega) (by omega)]; omega
theorem w_pred {i : Nat} (h : 1 ≤ i) (h2 : i < 9223372036854775807) : IntKind.wrap .i64 ((i : Int) - 1) = ((i - 1 : Nat) : Int) := by rw [wrapI (by omega) (by omega)]; omega

theorem h_blk {P : Program} {Q : Ending → World → Prop} {ρ : Lv} {w0 w : World} {m : Hp} {lv : Nat} {after : List Value → (Nat → Value) → T} {body : T} (A : List Value → Prop) (H : Has w0 w m)
    (h : body.sem P Q (fun l' x w'' => if l' = lv then Has w0 w'' m ∧ A x else ρ l' x w'') w) (h0 : ∀ vs j w', Has w0 w' m → A vs → (after vs j).sem P Q ρ w') : (T.blk lv after body).sem P Q ρ w :=
  s_blk (fun x W => Has w0 W m ∧ A x) (fun vs j w' h => h0 vs j w' h.1 h.2) h

theorem bit_all : ∀ n : Fin 28, (bitsI .and .i64 (formP n.val) 1 != 0) = fstP n.val ∧ (bitsI .and .i64 (formP n.val) 2 != 0) = twoP n.val ∧ (bitsI .and .i64 (formP n.val) 4 != 0) = decide (wideP n.val = 1) ∧
    (bitsI .and .i64 (formP n.val) 8 != 0) = decide (wideP n.val = 2 ∧ (n.val : Int) = 1) ∧ (bitsI .and .i64 (formP n.val) 16 != 0) = decide (wideP n.val = 2 ∧ (n.val : Int) ≠ 1) ∧ (bitsI .and .i64 (formP n.val) 28 == 0) = decide (wideP n.val = 0) := by decide +kernel
section
variable {op : Int}
theorem bit_all' (h0 : 0 ≤ op) (h1 : op < 28) : (bitsI .and .i64 (formP op) 1 != 0) = fstP op ∧ (bitsI .and .i64 (formP op) 2 != 0) = twoP op ∧ (bitsI .and .i64 (formP op) 4 != 0) = decide (wideP op = 1) ∧
    (bitsI .and .i64 (formP op) 8 != 0) = decide (wideP op = 2 ∧ op = 1) ∧ (bitsI .and .i64 (formP op) 16 != 0) = decide (wideP op = 2 ∧ op ≠ 1) ∧ (bitsI .and .i64 (formP op) 28 == 0) = decide (wideP op = 0) := by
  obtain ⟨n, rfl⟩ := op_cases h0 h1
  exact bit_all n
end

section
variable {w w' w0 : World} {m m' : Hp} {op : Int} {x : Ins}

def insR (x : Ins) : List Value := [.int .i64 x.at_, .int .i64 x.op, .int .i64 x.a, .int .i64 x.b, .int .i64 x.imm]
abbrev insV (x : Ins) : Value := .agg ⟨insR x⟩

theorem form_c (H : Has w0 w m) : Calls Try.prog 40 #[.int .i64 op] w fun e w' => e = .returned (.tuple #[.int .i64 (formP op), .bool (decide (0 ≤ op ∧ op < 28))]) ∧ Has w0 w' m := by
  apply c40
  refine h_new H fun n1 u H => ?_
  iterate 28 refine h_st H (by repeat (first | exact pick_head | apply pick_tail | apply pick_app)) (by first | (simp; done) | exact Nat.le_of_ble_eq_true rfl) rfl fun u H => ?_
  have H : Has w0 u (cl n1 83 (formL.map (Value.int .i64)) :: m) := H
  refine s_ite (fun g => s_ret ⟨?_, H.drop⟩) (fun g => s_ite (fun g' => s_ret ⟨?_, H.drop⟩) (fun g' => ?_))
  · simp only [decide_eq_true_eq] at g
    rw [decide_eq_false (by omega)]
    unfold formP
    rw [if_neg (by omega)]
  · simp only [decide_eq_true_eq, decide_eq_false_iff_not] at g g'
    rw [decide_eq_false (by omega)]
    unfold formP
    rw [if_neg (by omega)]
  · simp only [decide_eq_true_eq, decide_eq_false_iff_not] at g g'
    have h0 : 0 ≤ op := by omega
    have h1 : op < 28 := by omega
    refine s_req ⟨h0, h1⟩ (h_ldI H (by repeat (first | exact pick_head | apply pick_tail | apply pick_app)) (n := formP op) ?_ (s_ret ⟨?_, H.drop⟩))
    · have hl : op.toNat < formL.length := by simp [formL]; omega
      rw [Nat.mul_one, Nat.zero_add, List.getElem?_map, List.getElem?_eq_getElem hl]
      unfold formP
      rw [if_pos ⟨h0, h1⟩]
      simp only [Option.map_some, List.getD, List.getElem?_eq_getElem hl, Option.getD_some]
    · rw [decide_eq_true ⟨h0, h1⟩]

def partS (op : Int) : Nat → Int
  | 0 => 1
  | 1 => 1 + (if fstP op = true then 1 else 0)
  | 2 => 1 + (if fstP op = true then 1 else 0) + (if twoP op = true then 1 else 0)
  | 3 => 1 + (if fstP op = true then 1 else 0) + (if twoP op = true then 1 else 0) + (if wideP op = 1 then 1 else 0)
  | 4 => 1 + (if fstP op = true then 1 else 0) + (if twoP op = true then 1 else 0) + (if wideP op = 1 then 1 else 0) + (if wideP op = 2 ∧ op = 1 then 2 else 0)
  | _ => 1 + (if fstP op = true then 1 else 0) + (if twoP op = true then 1 else 0) + (if wideP op = 1 then 1 else 0) + (if wideP op = 2 ∧ op = 1 then 2 else 0) + (if wideP op = 2 ∧ op ≠ 1 then 2 else 0)
theorem partS_all : ∀ n : Fin 28, partS n.val 5 = szP n.val := by decide
theorem partS_5 (h0 : 0 ≤ op) (h1 : op < 28) : partS op 5 = szP op := by
  obtain ⟨n, rfl⟩ := op_cases h0 h1
  exact partS_all n
theorem partS_le (k : Nat) : 0 ≤ partS op k ∧ partS op k ≤ 9 := by
  unfold partS
  split <;> (repeat' split) <;> omega

def maskL : List Int := [1, 2, 4, 8, 16]
def widL : List Int := [1, 1, 1, 2, 2]
theorem part_step (h0 : 0 ≤ op) (h1 : op < 28) {i : Nat} (hi : i < 5) : ((bitsI .and .i64 (formP op) (maskL.getD i 0) != 0) = true → partS op (i + 1) = partS op i + widL.getD i 0) ∧
    ((bitsI .and .i64 (formP op) (maskL.getD i 0) != 0) = false → partS op (i + 1) = partS op i) := by
  obtain ⟨b1, b2, b3, b4, b5, b6⟩ := bit_all' h0 h1
  have hi5 : i = 0 ∨ i = 1 ∨ i = 2 ∨ i = 3 ∨ i = 4 := by omega
  rcases hi5 with rfl | rfl | rfl | rfl | rfl
  all_goals simp only [maskL, widL, List.getD, List.getElem?_cons_zero, List.getElem?_cons_succ, Option.getD_some, b1, b2, b3, b4, b5, partS, decide_eq_true_eq, decide_eq_false_iff_not]
  all_goals
    constructor
    · intro h
      rw [if_pos h]
    · intro h
      first | rw [if_neg h, Int.add_zero] | rw [if_neg (by rw [h]; simp : ¬ fstP op = true), Int.add_zero] | rw [if_neg (by rw [h]; simp : ¬ twoP op = true), Int.add_zero]

theorem size_c (H : Has w0 w m) : Calls Try.prog 12 #[.int .i64 op] w fun e w' => e = .returned (.tuple #[.int .i64 (szP op), .bool (decide (0 ≤ op ∧ op < 28))]) ∧ Has w0 w' m := by
  apply c12
  (refine s_call (form_c (op := op) H) ?_; rintro _ u ⟨rfl, H⟩; refine ⟨_, rfl, ?_⟩)
  refine s_asU (s_req rfl (s_asI (s_asB (s_ite (fun g => s_ret ⟨?_, H⟩) (fun g => ?_)))))
  · have g : ¬ (0 ≤ op ∧ op < 28) := by simpa only [Bool.not_eq_true', decide_eq_false_iff_not] using g
    rw [decide_eq_false g]
    have : szP op = 0 := Classical.byContradiction fun h => g (szP_pos.1 h)
    rw [this]
  · have g : 0 ≤ op ∧ op < 28 := by simpa only [Bool.not_eq_false', decide_eq_true_eq] using g
    refine s_loop (fun vs W => ∃ i : Nat, vs = [.int .i64 (partS op i), .int .i64 i] ∧ i ≤ 5 ∧ Has w0 W m) (fun vs _ => 5 - (intOf (vs.getD 1 undef)).toNat) ⟨0, rfl, by omega, H⟩ ?_
    rintro _ j W ⟨i, rfl, hi, H⟩
    have hle := partS_le (op := op) i
    refine s_asI (s_asI (s_ite (fun g1 => ?_) (fun g1 => ?_)))
    · simp only [decide_eq_true_eq] at g1
      have hst := part_step g.1 g.2 (i := i) (by omega)
      refine s_req ⟨by omega, g1⟩ ⟨[.int .i64 (maskL.getD i 0), .int .i64 (widL.getD i 0)], ?_, s_req rfl (s_asI (s_asI ?_))⟩
      · have hi5 : i = 0 ∨ i = 1 ∨ i = 2 ∨ i = 3 ∨ i = 4 := by omega
        rcases hi5 with rfl | rfl | rfl | rfl | rfl <;> rfl
      have hw : 0 ≤ widL.getD i 0 ∧ widL.getD i 0 ≤ 2 := by
        have hi5 : i = 0 ∨ i = 1 ∨ i = 2 ∨ i = 3 ∨ i = 4 := by omega
        rcases hi5 with rfl | rfl | rfl | rfl | rfl <;> decide
      (refine h_new H fun n12 u H => ?_)
      refine h_st H (by repeat (first | exact pick_head | apply pick_tail | apply pick_app)) (by simp) rfl fun u H => h_st H (by repeat (first | exact pick_head | apply pick_tail | apply pick_app)) (by simp) rfl fun u H => s_req (by decide) (h_ldI H (by repeat (first | exact pick_head | apply pick_tail | apply pick_app)) rfl (s_ite (fun g2 => ?_) (fun g2 => ?_)))
      · refine s_req (by decide) (h_ldI H (by repeat (first | exact pick_head | apply pick_tail | apply pick_app)) rfl (s_next ⟨rfl, rfl⟩ ?_))
        simp only [if_true]
        refine ⟨⟨i + 1, ?_, by omega, H.drop⟩, ?_⟩
        · rw [hst.1 g2, wrapI (by omega) (by omega), wrapI (by omega) (by omega)]
          rfl
        · rw [wrapI (n := (i : Int) + 1) (by omega) (by omega)]
          simp [intOf]
          omega
      · refine s_next ⟨rfl, rfl⟩ ?_
        simp only [if_true]
        refine ⟨⟨i + 1, ?_, by omega, H.drop⟩, ?_⟩
        · rw [hst.2 g2, wrapI (by omega) (by omega)]
          rfl
        · rw [wrapI (n := (i : Int) + 1) (by omega) (by omega)]
          simp [intOf]
          omega
    · simp only [decide_eq_false_iff_not] at g1
      have : i = 5 := by omega
      subst this
      refine s_ret ⟨?_, H⟩
      rw [partS_5 g.1 g.2, decide_eq_true g]

/-! ### The reference's sizes -/
theorem rsize_c (H : Has w0 w m) : Calls Try.prog 13 #[.int .i64 op] w fun e w' => e = .returned (.int .i64 (szP op)) ∧ Has w0 w' m := by
  apply c13
  unfold szP
  refine s_ite (fun g => s_ret ⟨?_, H⟩) (fun g => h_blk (fun x => x = [.bool (decide (op = 6 ∨ op = 24 ∨ op = 25))]) H ?_ ?_)
  · simp only [beq_iff_eq] at g
    rw [if_pos g]
  · refine s_ite (fun g => s_next ⟨rfl, rfl⟩ ?_) (fun g => s_ite (fun g => s_next ⟨rfl, rfl⟩ ?_) (fun g => s_next ⟨rfl, rfl⟩ ?_))
    all_goals
      simp only [if_true]
      simp only [beq_iff_eq, beq_eq_false_iff_ne, ne_eq] at *
      refine ⟨H, ?_⟩
      congr 2
      rw [Bool.eq_iff_iff]
      simp
      omega
  · simp only [beq_eq_false_iff_ne, ne_eq] at g
    rw [if_neg g]
    rintro _ _ W H rfl
    refine s_asB (s_ite (fun g1 => s_ret ⟨?_, H⟩) (fun g1 => h_blk (fun x => x = [.bool (decide (op = 2 ∨ op = 3 ∨ op = 4 ∨ op = 5 ∨ op = 19 ∨ op = 22))]) H ?_ ?_))
    · simp only [decide_eq_true_eq] at g1
      rw [if_pos g1]
    · refine s_ite (fun g => s_next ⟨rfl, rfl⟩ ?_) (fun g => s_ite (fun g => s_next ⟨rfl, rfl⟩ ?_) (fun g => s_ite (fun g => s_next ⟨rfl, rfl⟩ ?_) (fun g => s_ite (fun g => s_next ⟨rfl, rfl⟩ ?_) (fun g => s_ite (fun g => s_next ⟨rfl, rfl⟩ ?_) (fun g => s_next ⟨rfl, rfl⟩ ?_)))))
      all_goals
        simp only [if_true]
        simp only [beq_iff_eq, beq_eq_false_iff_ne, ne_eq] at *
        refine ⟨H, ?_⟩
        congr 2
        rw [Bool.eq_iff_iff]
        simp
        omega
    · simp only [decide_eq_false_iff_not] at g1
      rw [if_neg g1]
      rintro _ _ W H rfl
      refine s_asB (s_ite (fun g2 => s_ret ⟨?_, H⟩) (fun g2 => h_blk (fun x => x = [.bool (decide (op = 1 ∨ op = 23 ∨ op = 26 ∨ op = 27))]) H ?_ ?_))
      · simp only [decide_eq_true_eq] at g2
        rw [if_pos g2]
      · refine s_ite (fun g => s_next ⟨rfl, rfl⟩ ?_) (fun g => s_ite (fun g => s_next ⟨rfl, rfl⟩ ?_) (fun g => s_ite (fun g => s_next ⟨rfl, rfl⟩ ?_) (fun g => s_next ⟨rfl, rfl⟩ ?_)))
        all_goals
          simp only [if_true]
          simp only [beq_iff_eq, beq_eq_false_iff_ne, ne_eq] at *
          refine ⟨H, ?_⟩
          congr 2
          rw [Bool.eq_iff_iff]
          simp
          omega
      · simp only [decide_eq_false_iff_not] at g2
        rw [if_neg g2]
        rintro _ _ W H rfl
        refine s_asB (s_ite (fun g3 => s_ret ⟨?_, H⟩) (fun g3 => s_ite (fun g4 => s_ite (fun g5 => s_ret ⟨?_, H⟩) (fun g5 => s_ret ⟨?_, H⟩)) (fun g4 => s_ret ⟨?_, H⟩)))
        all_goals simp only [decide_eq_true_eq, decide_eq_false_iff_not] at *
        · rw [if_pos g3]
        · rw [if_neg g3, if_pos (by omega)]
        · rw [if_neg g3, if_neg (by omega)]
        · rw [if_neg g3, if_neg (by omega)]

theorem first_c (H : Has w0 w m) : Calls Try.prog 37 #[.int .i64 op] w fun e w' => e = .returned (.bool (fstP op)) ∧ Has w0 w' m := by
  apply c37
  unfold fstP
  refine s_ite (fun g => s_ite (fun g => s_ite (fun g => s_ret ⟨?_, H⟩) (fun g => s_ret ⟨?_, H⟩)) (fun g => s_ret ⟨?_, H⟩)) (fun g => s_ret ⟨?_, H⟩)
  all_goals
    simp only [bne_iff_ne, ne_eq, bne_eq_false_iff_eq] at *
    congr 2
    rw [Bool.eq_iff_iff]
    simp
    omega
theorem two_c (H : Has w0 w m) : Calls Try.prog 38 #[.int .i64 op] w fun e w' => e = .returned (.bool (twoP op)) ∧ Has w0 w' m := by
  apply c38
  unfold twoP
  refine s_ite (fun g => s_ite (fun g => s_ret ⟨?_, H⟩) (fun g => s_ite (fun g => s_ret ⟨?_, H⟩) (fun g => s_ite (fun g => s_ret ⟨?_, H⟩) (fun g => s_ite (fun g => s_ret ⟨?_, H⟩) (fun g => s_ret ⟨?_, H⟩)))))
    (fun g => s_ite (fun g => s_ret ⟨?_, H⟩) (fun g => s_ite (fun g => s_ret ⟨?_, H⟩) (fun g => s_ite (fun g => s_ret ⟨?_, H⟩) (fun g => s_ret ⟨?_, H⟩))))
  all_goals
    simp only [decide_eq_true_eq, decide_eq_false_iff_not, beq_iff_eq, beq_eq_false_iff_ne, ne_eq] at *
    congr 2
    rw [Bool.eq_iff_iff]
    simp
    omega
theorem wide_c (H : Has w0 w m) : Calls Try.prog 39 #[.int .i64 op] w fun e w' => e = .returned (.int .i64 (wideP op)) ∧ Has w0 w' m := by
  apply c39
  have hs := szP_le op
  (refine s_call (rsize_c (op := op) H) ?_; rintro _ u ⟨rfl, H⟩; refine ⟨_, rfl, ?_⟩)
  refine s_asI (h_blk (fun x => x = [.int .i64 (szP op - 1 - (if fstP op = true then 1 else 0))]) H ?_ ?_)
  · (refine s_call (first_c (op := op) H) ?_; rintro _ u ⟨rfl, H⟩; refine ⟨_, rfl, ?_⟩)
    refine s_asB (s_ite (fun g => s_next ⟨rfl, rfl⟩ ?_) (fun g => s_next ⟨rfl, rfl⟩ ?_))
    · simp only [if_true]
      refine ⟨H, ?_⟩
      rw [if_pos g, wrapI (n := szP op - 1) (by omega) (by omega), wrapI (by omega) (by omega)]
    · simp only [if_true]
      refine ⟨H, ?_⟩
      rw [g, if_neg (by simp), wrapI (n := szP op - 1) (by omega) (by omega), Int.sub_zero]
  · rintro _ _ W H rfl
    refine s_asI ?_
    (refine s_call (two_c (op := op) H) ?_; rintro _ u ⟨rfl, H⟩; refine ⟨_, rfl, ?_⟩)
    unfold wideP
    refine s_asB (s_ite (fun g => s_ret ⟨?_, H⟩) (fun g => s_ret ⟨?_, H⟩))
    · rw [if_pos g, wrapI (by split <;> omega) (by split <;> omega)]
    · rw [g, if_neg (by simp) (c := false = true), Int.sub_zero]

/-! ### Registers -/
theorem index_c (H : Has w0 w m) : Calls Try.prog 54 #[insV x] w fun e w' => e = .returned (.bool (idxB x)) ∧ Has w0 w' m := by
  apply c54
  unfold idxB
  (refine h_new H fun n5 u H => ?_)
  refine h_ldI H (by repeat (first | exact pick_head | apply pick_tail | apply pick_app)) rfl (s_ite (fun g => h_ldI H (by repeat (first | exact pick_head | apply pick_tail | apply pick_app)) rfl (s_ite (fun g => h_ldI H (by repeat (first | exact pick_head | apply pick_tail | apply pick_app)) rfl (s_ite (fun g => h_ldI H (by repeat (first | exact pick_head | apply pick_tail | apply pick_app)) rfl (s_ite (fun g => h_ldI H (by repeat (first | exact pick_head | apply pick_tail | apply pick_app)) rfl (s_ite (fun g => s_ret ⟨?_, H.drop⟩) (fun g =>
    h_ldI H (by repeat (first | exact pick_head | apply pick_tail | apply pick_app)) rfl (s_ite (fun g => s_ret ⟨?_, H.drop⟩) (fun g => h_ldI H (by repeat (first | exact pick_head | apply pick_tail | apply pick_app)) rfl (s_ite (fun g => s_ret ⟨?_, H.drop⟩) (fun g => h_ldI H (by repeat (first | exact pick_head | apply pick_tail | apply pick_app)) rfl (s_ret ⟨?_, H.drop⟩)))))))) (fun g => s_ret ⟨?_, H.drop⟩))) (fun g => s_ret ⟨?_, H.drop⟩))) (fun g => s_ret ⟨?_, H.drop⟩))) (fun g => s_ret ⟨?_, H.drop⟩))
  all_goals
    simp only [decide_eq_true_eq, decide_eq_false_iff_not, beq_iff_eq, beq_eq_false_iff_ne, ne_eq, bne_iff_ne, bne_eq_false_iff_eq] at *
    congr 2
    rw [Bool.eq_iff_iff]
    simp
    omega
theorem rindex_c (H : Has w0 w m) : Calls Try.prog 55 #[insV x] w fun e w' => e = .returned (.int .i64 (idxP x)) ∧ Has w0 w' m := by
  apply c55
  (refine h_new H fun n5 u H => ?_)
  refine h_blk (fun _ => ¬ (fstP x.op = true ∧ (x.a < 0 ∨ 8 ≤ x.a) ∨ twoP x.op = true ∧ (x.b < 0 ∨ 8 ≤ x.b))) H ?_ ?_
  · refine h_ldI H (by repeat (first | exact pick_head | apply pick_tail | apply pick_app)) rfl ?_
    (refine s_call (first_c (op := x.op) H) ?_; rintro _ u ⟨rfl, H⟩; refine ⟨_, rfl, ?_⟩)
    refine s_asB (s_ite (fun g => h_ldI H (by repeat (first | exact pick_head | apply pick_tail | apply pick_app)) rfl (s_ite (fun g1 => s_ret ⟨?_, H.drop⟩) (fun g1 => h_ldI H (by repeat (first | exact pick_head | apply pick_tail | apply pick_app)) rfl (s_ite (fun g2 => s_ret ⟨?_, H.drop⟩) (fun g2 => h_ldI H (by repeat (first | exact pick_head | apply pick_tail | apply pick_app)) rfl ?_))))) (fun g => h_ldI H (by repeat (first | exact pick_head | apply pick_tail | apply pick_app)) rfl ?_))
    · simp only [decide_eq_true_eq] at g1
      unfold idxP
      rw [if_pos (.inl ⟨g, .inl g1⟩)]
    · simp only [decide_eq_true_eq] at g2
      unfold idxP
      rw [if_pos (.inl ⟨g, .inr g2⟩)]
    · simp only [decide_eq_false_iff_not] at g1 g2
      (refine s_call (two_c (op := x.op) H) ?_; rintro _ u ⟨rfl, H⟩; refine ⟨_, rfl, ?_⟩)
      refine s_asB (s_ite (fun g3 => h_ldI H (by repeat (first | exact pick_head | apply pick_tail | apply pick_app)) rfl (s_ite (fun g4 => s_ret ⟨?_, H.drop⟩) (fun g4 => h_ldI H (by repeat (first | exact pick_head | apply pick_tail | apply pick_app)) rfl (s_ite (fun g5 => s_ret ⟨?_, H.drop⟩) (fun g5 => s_next ⟨rfl, rfl⟩ ?_))))) (fun g3 => s_next ⟨rfl, rfl⟩ ?_))
      · simp only [decide_eq_true_eq] at g4
        unfold idxP
        rw [if_pos (.inr ⟨g3, .inl g4⟩)]
      · simp only [decide_eq_true_eq] at g5
        unfold idxP
        rw [if_pos (.inr ⟨g3, .inr g5⟩)]
      · simp only [decide_eq_false_iff_not] at g4 g5
        simp only [if_true]
        exact ⟨H, by omega⟩
      · simp only [if_true]
        refine ⟨H, ?_⟩
        rw [g3]
        simp
        omega
    · (refine s_call (two_c (op := x.op) H) ?_; rintro _ u ⟨rfl, H⟩; refine ⟨_, rfl, ?_⟩)
      refine s_asB (s_ite (fun g3 => h_ldI H (by repeat (first | exact pick_head | apply pick_tail | apply pick_app)) rfl (s_ite (fun g4 => s_ret ⟨?_, H.drop⟩) (fun g4 => h_ldI H (by repeat (first | exact pick_head | apply pick_tail | apply pick_app)) rfl (s_ite (fun g5 => s_ret ⟨?_, H.drop⟩) (fun g5 => s_next ⟨rfl, rfl⟩ ?_))))) (fun g3 => s_next ⟨rfl, rfl⟩ ?_))
      · simp only [decide_eq_true_eq] at g4
        unfold idxP
        rw [if_pos (.inr ⟨g3, .inl g4⟩)]
      · simp only [decide_eq_true_eq] at g5
        unfold idxP
        rw [if_pos (.inr ⟨g3, .inr g5⟩)]
      · simp only [decide_eq_false_iff_not] at g4 g5
        simp only [if_true]
        refine ⟨H, ?_⟩
        rw [g]
        simp
        omega
      · simp only [if_true]
        refine ⟨H, ?_⟩
        rw [g, g3]
        simp
  · rintro _ _ W H hn
    unfold idxP
    rw [if_neg hn]
    refine h_ldI H (by repeat (first | exact pick_head | apply pick_tail | apply pick_app)) rfl (s_ite (fun g => h_ldI H (by repeat (first | exact pick_head | apply pick_tail | apply pick_app)) rfl (s_ite (fun g1 => h_ldI H (by repeat (first | exact pick_head | apply pick_tail | apply pick_app)) rfl (s_ite (fun g2 => h_ldI H (by repeat (first | exact pick_head | apply pick_tail | apply pick_app)) rfl (s_ite (fun g3 => s_ret ⟨?_, H.drop⟩) (fun g3 => s_ret ⟨?_, H.drop⟩))) (fun g2 => s_ret ⟨?_, H.drop⟩))) (fun g1 => s_ret ⟨?_, H.drop⟩))) (fun g => s_ret ⟨?_, H.drop⟩))
    all_goals simp only [beq_iff_eq, beq_eq_false_iff_ne, ne_eq, bne_iff_ne, bne_eq_false_iff_eq] at *
    · rw [if_pos ⟨g, g1, g2, g3⟩]
    · rw [if_neg (by omega)]
    · rw [if_neg (by omega)]
    · rw [if_neg (by omega)]
    · rw [if_neg (by omega)]
theorem jumps_c (H : Has w0 w m) : Calls Try.prog 44 #[insV x] w fun e w' => e = .returned (.bool (jumpP x.op)) ∧ Has w0 w' m := by
  apply c44
  (refine h_new H fun n5 u H => ?_)
  refine h_ldI H (by repeat (first | exact pick_head | apply pick_tail | apply pick_app)) rfl (s_ite (fun g => s_ret ⟨?_, H.drop⟩) (fun g => h_ldI H (by repeat (first | exact pick_head | apply pick_tail | apply pick_app)) rfl (s_ret ⟨?_, H.drop⟩)))
  · unfold jumpP
    rw [g]
    rfl
  · unfold jumpP
    rw [g]
    rfl
end
end Go.Proofs.Ytgoecmggbcaoiaa
