/- A key's number and its partition; the reference's order. -/
import Derived.Test.YtndkffhlheaepaaKeys
set_option linter.unusedVariables false
set_option linter.unusedSimpArgs false
set_option maxRecDepth 100000
namespace Go.Proofs.Ytndkffhlheaepaa
open Go hiding Expr
open Go.RowKit Tr

def mixI (x : Int) : Int := bitsI .xor .u64 (bitsI .xor .u64 (bitsI .xor .u64 x (shlI .u64 x 13)) (shrI .u64 (bitsI .xor .u64 x (shlI .u64 x 13)) 7)) (shlI .u64 (bitsI .xor .u64 (bitsI .xor .u64 x (shlI .u64 x 13)) (shrI .u64 (bitsI .xor .u64 x (shlI .u64 x 13)) 7)) 17)
def hashI (k : K) : Int := mixI (IntKind.wrap .u64 (IntKind.wrap .u64 (mixI (IntKind.wrap .u64 (mixI (IntKind.wrap .u64 (IntKind.wrap .u64 k.r + 11400714819323198485)) + IntKind.wrap .u64 (IntKind.wrap .u32 k.t))) + shrI .u64 (IntKind.wrap .u64 k.r) 32) + shlI .u64 (IntKind.wrap .u64 (IntKind.wrap .u32 k.t)) 32))
def manyI (p : Int) : Int := min (max p 1) 8
def partI (k : K) (p : Int) : Int := IntKind.wrap .i64 (shrI .u64 (IntKind.wrap .u64 (shrI .u64 (hashI k) 32 * IntKind.wrap .u64 (manyI p))) 32)
theorem bits_range (op : BinOp) (hop : op = .xor) (x y : Int) : ∃ n : Nat, bitsI op .u64 x y = (n : Int) ∧ n < 2 ^ 64 := by
  subst hop
  have h := (BitVec.ofInt 64 x ^^^ BitVec.ofInt 64 y).isLt
  refine ⟨(BitVec.ofInt 64 x ^^^ BitVec.ofInt 64 y).toNat, ?_, h⟩
  show IntKind.wrap .u64 (((BitVec.ofInt 64 x ^^^ BitVec.ofInt 64 y).toNat : Nat) : Int) = _
  exact wrapU (by omega) (by omega)
theorem partI_range (k : K) (p : Int) : 0 ≤ partI k p ∧ partI k p < manyI p := by
  have hm : 1 ≤ manyI p ∧ manyI p ≤ 8 := by unfold manyI; omega
  unfold partI
  obtain ⟨m, hmm⟩ := Int.eq_ofNat_of_zero_le (show 0 ≤ manyI p by omega)
  rw [hmm] at hm ⊢
  have hh : ∃ n : Nat, hashI k = (n : Int) ∧ n < 2 ^ 64 := bits_range .xor rfl _ _
  obtain ⟨n, hn, hlt⟩ := hh
  rw [hn, shr_nat n 32 32 rfl (by decide), wrapU (n := (m : Int)) (by omega) (by omega)]
  have h1 : n / 2 ^ 32 < 2 ^ 32 := by omega
  have h2 : n / 2 ^ 32 * m < 2 ^ 32 * m := Nat.mul_lt_mul_of_pos_right h1 (by omega)
  have h3 : ((n / 2 ^ 32 : Nat) : Int) * (m : Int) = ((n / 2 ^ 32 * m : Nat) : Int) := by rw [Int.natCast_mul]
  rw [h3]
  generalize n / 2 ^ 32 * m = q at h2 ⊢
  rw [wrapU (by omega) (by omega), shr_nat q 32 32 rfl (by decide), wrap64 (by omega) (by omega)]
  omega

section
variable {w : World}
theorem mix_c (x : Int) : Calls Try.prog 68 #[.int .u64 x] w fun e w' => e = .returned (.int .u64 (mixI x)) ∧ w = w' := by
  apply c68
  exact s_req (by decide) (s_req (by decide) (s_req (by decide) (s_ret ⟨rfl, rfl⟩)))
theorem rmix_c (x : Int) : Calls Try.prog 69 #[.int .u64 x] w fun e w' => e = .returned (.int .u64 (mixI x)) ∧ w = w' := by
  apply c69
  exact s_req (by decide) (s_req (by decide) (s_req (by decide) (s_ret ⟨rfl, rfl⟩)))
theorem hash_c (k : K) : Calls Try.prog 59 #[.agg ⟨kr k⟩] w fun e w' => e = .returned (.int .u64 (hashI k)) ∧ Fr [] w w' := by
  apply c59
  have mx := fun {w : World} (x : Int) => mix_c (w := w) x
  refine h_new (Has.init w) fun r u H => h_drew H fun u H => h_ldI H (by repeat (first | exact pick_head | apply pick_tail | apply pick_app)) rfl (h_ldI H (by repeat (first | exact pick_head | apply pick_tail | apply pick_app)) rfl (s_call (mx _) ?_))
  rintro _ _ ⟨rfl, rfl⟩
  refine ⟨_, rfl, s_asI (s_call (mx _) ?_)⟩
  rintro _ _ ⟨rfl, rfl⟩
  refine ⟨_, rfl, s_asI (s_req (by decide) (s_req (by decide) (s_call (mx _) ?_)))⟩
  rintro _ _ ⟨rfl, rfl⟩
  exact ⟨_, rfl, s_asI (s_ret ⟨rfl, H.base⟩)⟩
theorem rhash_c (k : K) : Calls Try.prog 60 #[.agg ⟨kr k⟩] w fun e w' => e = .returned (.int .u64 (hashI k)) ∧ Fr [] w w' := by
  apply c60
  have mx := fun {w : World} (x : Int) => rmix_c (w := w) x
  refine h_new (Has.init w) fun r u H => h_drew H fun u H => h_ldI H (by repeat (first | exact pick_head | apply pick_tail | apply pick_app)) rfl (h_ldI H (by repeat (first | exact pick_head | apply pick_tail | apply pick_app)) rfl (s_call (mx _) ?_))
  rintro _ _ ⟨rfl, rfl⟩
  refine ⟨_, rfl, s_asI (s_call (mx _) ?_)⟩
  rintro _ _ ⟨rfl, rfl⟩
  refine ⟨_, rfl, s_asI (s_req (by decide) (s_req (by decide) (s_call (mx _) ?_)))⟩
  rintro _ _ ⟨rfl, rfl⟩
  exact ⟨_, rfl, s_asI (s_ret ⟨rfl, H.base⟩)⟩
theorem many_c (p : Int) : Calls Try.prog 52 #[.int .i64 p] w fun e w' => e = .returned (.int .i64 (manyI p)) ∧ w = w' := by
  apply c52
  exact s_max (s_asI (s_min (s_asI (s_ret ⟨rfl, rfl⟩))))
theorem rmany_c (p : Int) : Calls Try.prog 61 #[.int .i64 p] w fun e w' => e = .returned (.int .i64 (manyI p)) ∧ w = w' := by
  apply c61
  exact s_max (s_asI (s_min (s_asI (s_ret ⟨rfl, rfl⟩))))
theorem part_k_c (k : K) (p : Int) : Calls Try.prog 46 #[.agg ⟨kr k⟩, .int .i64 p] w fun e w' => e = .returned (.int .i64 (partI k p)) ∧ Fr [] w w' := by
  apply c46
  refine h_new (Has.init w) fun r u H => ?_
  (repeat (first | refine s_asI ?_ | refine s_asS ?_ | refine s_asP ?_ | refine s_asB ?_ | refine s_asA ?_ | refine s_asT ?_ | refine s_asM ?_ | refine s_asU ?_ | refine s_asC ?_ | refine s_sm ?_ | refine s_req (by first | rfl | exact ⟨rfl, rfl⟩) ?_ | refine h_ldI H (by repeat (first | exact pick_head | apply pick_tail | apply pick_app)) (by first | rfl | (simp; done)) ?_ | refine h_ldB H (by repeat (first | exact pick_head | apply pick_tail | apply pick_app)) (by first | rfl | (simp; done)) ?_ | refine h_ldP H (by repeat (first | exact pick_head | apply pick_tail | apply pick_app)) (by first | rfl | (simp; done)) ?_ | refine h_ldS H (by repeat (first | exact pick_head | apply pick_tail | apply pick_app)) (by first | rfl | (simp; done)) ?_ | refine h_ldM H (by repeat (first | exact pick_head | apply pick_tail | apply pick_app)) (by first | rfl | (simp; done)) ?_ | refine h_ldT H (by repeat (first | exact pick_head | apply pick_tail | apply pick_app)) (by first | rfl | (simp; done)) ?_ | refine h_ldV H (by repeat (first | exact pick_head | apply pick_tail | apply pick_app)) (by first | rfl | (simp; done)) ?_ | (refine h_st H (by repeat (first | exact pick_head | apply pick_tail | apply pick_app)) (by first | (simp; done) | exact Nat.le_of_ble_eq_true rfl) rfl fun u H => ?_) | (refine h_drew H fun u H => ?_) | refine s_chk c_nil ?_))
  refine s_call (hash_c k) ?_
  rintro _ u ⟨rfl, f⟩
  have H := H.fr0 f
  refine ⟨_, rfl, s_asI (s_req (by decide) (s_call (many_c p) ?_))⟩
  rintro _ _ ⟨rfl, rfl⟩
  exact ⟨_, rfl, s_asI (s_req (by decide) (s_ret ⟨rfl, H.base⟩))⟩
theorem rpart_c (k : K) (p : Int) : Calls Try.prog 47 #[.agg ⟨kr k⟩, .int .i64 p] w fun e w' => e = .returned (.int .i64 (partI k p)) ∧ Fr [] w w' := by
  apply c47
  refine h_new (Has.init w) fun r u H => ?_
  (repeat (first | refine s_asI ?_ | refine s_asS ?_ | refine s_asP ?_ | refine s_asB ?_ | refine s_asA ?_ | refine s_asT ?_ | refine s_asM ?_ | refine s_asU ?_ | refine s_asC ?_ | refine s_sm ?_ | refine s_req (by first | rfl | exact ⟨rfl, rfl⟩) ?_ | refine h_ldI H (by repeat (first | exact pick_head | apply pick_tail | apply pick_app)) (by first | rfl | (simp; done)) ?_ | refine h_ldB H (by repeat (first | exact pick_head | apply pick_tail | apply pick_app)) (by first | rfl | (simp; done)) ?_ | refine h_ldP H (by repeat (first | exact pick_head | apply pick_tail | apply pick_app)) (by first | rfl | (simp; done)) ?_ | refine h_ldS H (by repeat (first | exact pick_head | apply pick_tail | apply pick_app)) (by first | rfl | (simp; done)) ?_ | refine h_ldM H (by repeat (first | exact pick_head | apply pick_tail | apply pick_app)) (by first | rfl | (simp; done)) ?_ | refine h_ldT H (by repeat (first | exact pick_head | apply pick_tail | apply pick_app)) (by first | rfl | (simp; done)) ?_ | refine h_ldV H (by repeat (first | exact pick_head | apply pick_tail | apply pick_app)) (by first | rfl | (simp; done)) ?_ | (refine h_st H (by repeat (first | exact pick_head | apply pick_tail | apply pick_app)) (by first | (simp; done) | exact Nat.le_of_ble_eq_true rfl) rfl fun u H => ?_) | (refine h_drew H fun u H => ?_) | refine s_chk c_nil ?_))
  refine s_call (rhash_c k) ?_
  rintro _ u ⟨rfl, f⟩
  have H := H.fr0 f
  refine ⟨_, rfl, s_asI (s_req (by decide) (s_call (rmany_c p) ?_))⟩
  rintro _ _ ⟨rfl, rfl⟩
  exact ⟨_, rfl, s_asI (s_req (by decide) (s_ret ⟨rfl, H.base⟩))⟩
theorem rcmp_c (a b : K) : Calls Try.prog 58 #[.agg ⟨kr a⟩, .agg ⟨kr b⟩] w fun e w' => e = .returned (.int .i64 (cmpK a b)) ∧ Fr [] w w' := by
  apply c58
  refine h_new (Has.init w) fun n4 u H => ?_
  (refine h_new H fun n5 u H => ?_)
  (repeat (first | refine s_asI ?_ | refine s_asS ?_ | refine s_asP ?_ | refine s_asB ?_ | refine s_asA ?_ | refine s_asT ?_ | refine s_asM ?_ | refine s_asU ?_ | refine s_asC ?_ | refine s_sm ?_ | refine s_req (by first | rfl | exact ⟨rfl, rfl⟩) ?_ | refine h_ldI H (by repeat (first | exact pick_head | apply pick_tail | apply pick_app)) (by first | rfl | (simp; done)) ?_ | refine h_ldB H (by repeat (first | exact pick_head | apply pick_tail | apply pick_app)) (by first | rfl | (simp; done)) ?_ | refine h_ldP H (by repeat (first | exact pick_head | apply pick_tail | apply pick_app)) (by first | rfl | (simp; done)) ?_ | refine h_ldS H (by repeat (first | exact pick_head | apply pick_tail | apply pick_app)) (by first | rfl | (simp; done)) ?_ | refine h_ldM H (by repeat (first | exact pick_head | apply pick_tail | apply pick_app)) (by first | rfl | (simp; done)) ?_ | refine h_ldT H (by repeat (first | exact pick_head | apply pick_tail | apply pick_app)) (by first | rfl | (simp; done)) ?_ | refine h_ldV H (by repeat (first | exact pick_head | apply pick_tail | apply pick_app)) (by first | rfl | (simp; done)) ?_ | (refine h_st H (by repeat (first | exact pick_head | apply pick_tail | apply pick_app)) (by first | (simp; done) | exact Nat.le_of_ble_eq_true rfl) rfl fun u H => ?_) | (refine h_drew H fun u H => ?_) | refine s_chk c_nil ?_))
  refine s_ite (fun g1 => s_ret ⟨?_, H.base⟩) (fun g1 => ?_)
  · simp only [decide_eq_true_eq] at g1
    unfold cmpK cmpI; (repeat' split) <;> first | rfl | omega
  simp only [decide_eq_false_iff_not] at g1
  (repeat (first | refine s_asI ?_ | refine s_asS ?_ | refine s_asP ?_ | refine s_asB ?_ | refine s_asA ?_ | refine s_asT ?_ | refine s_asM ?_ | refine s_asU ?_ | refine s_asC ?_ | refine s_sm ?_ | refine s_req (by first | rfl | exact ⟨rfl, rfl⟩) ?_ | refine h_ldI H (by repeat (first | exact pick_head | apply pick_tail | apply pick_app)) (by first | rfl | (simp; done)) ?_ | refine h_ldB H (by repeat (first | exact pick_head | apply pick_tail | apply pick_app)) (by first | rfl | (simp; done)) ?_ | refine h_ldP H (by repeat (first | exact pick_head | apply pick_tail | apply pick_app)) (by first | rfl | (simp; done)) ?_ | refine h_ldS H (by repeat (first | exact pick_head | apply pick_tail | apply pick_app)) (by first | rfl | (simp; done)) ?_ | refine h_ldM H (by repeat (first | exact pick_head | apply pick_tail | apply pick_app)) (by first | rfl | (simp; done)) ?_ | refine h_ldT H (by repeat (first | exact pick_head | apply pick_tail | apply pick_app)) (by first | rfl | (simp; done)) ?_ | refine h_ldV H (by repeat (first | exact pick_head | apply pick_tail | apply pick_app)) (by first | rfl | (simp; done)) ?_ | (refine h_st H (by repeat (first | exact pick_head | apply pick_tail | apply pick_app)) (by first | (simp; done) | exact Nat.le_of_ble_eq_true rfl) rfl fun u H => ?_) | (refine h_drew H fun u H => ?_) | refine s_chk c_nil ?_))
  refine s_ite (fun g2 => ?_) (fun g2 => ?_)
  · simp only [beq_iff_eq] at g2
    (repeat (first | refine s_asI ?_ | refine s_asS ?_ | refine s_asP ?_ | refine s_asB ?_ | refine s_asA ?_ | refine s_asT ?_ | refine s_asM ?_ | refine s_asU ?_ | refine s_asC ?_ | refine s_sm ?_ | refine s_req (by first | rfl | exact ⟨rfl, rfl⟩) ?_ | refine h_ldI H (by repeat (first | exact pick_head | apply pick_tail | apply pick_app)) (by first | rfl | (simp; done)) ?_ | refine h_ldB H (by repeat (first | exact pick_head | apply pick_tail | apply pick_app)) (by first | rfl | (simp; done)) ?_ | refine h_ldP H (by repeat (first | exact pick_head | apply pick_tail | apply pick_app)) (by first | rfl | (simp; done)) ?_ | refine h_ldS H (by repeat (first | exact pick_head | apply pick_tail | apply pick_app)) (by first | rfl | (simp; done)) ?_ | refine h_ldM H (by repeat (first | exact pick_head | apply pick_tail | apply pick_app)) (by first | rfl | (simp; done)) ?_ | refine h_ldT H (by repeat (first | exact pick_head | apply pick_tail | apply pick_app)) (by first | rfl | (simp; done)) ?_ | refine h_ldV H (by repeat (first | exact pick_head | apply pick_tail | apply pick_app)) (by first | rfl | (simp; done)) ?_ | (refine h_st H (by repeat (first | exact pick_head | apply pick_tail | apply pick_app)) (by first | (simp; done) | exact Nat.le_of_ble_eq_true rfl) rfl fun u H => ?_) | (refine h_drew H fun u H => ?_) | refine s_chk c_nil ?_))
    refine s_ite (fun g3 => s_ret ⟨?_, H.base⟩) (fun g3 => ?_)
    · simp only [decide_eq_true_eq] at g3
      unfold cmpK cmpI; (repeat' split) <;> first | rfl | omega
    simp only [decide_eq_false_iff_not] at g3
    (repeat (first | refine s_asI ?_ | refine s_asS ?_ | refine s_asP ?_ | refine s_asB ?_ | refine s_asA ?_ | refine s_asT ?_ | refine s_asM ?_ | refine s_asU ?_ | refine s_asC ?_ | refine s_sm ?_ | refine s_req (by first | rfl | exact ⟨rfl, rfl⟩) ?_ | refine h_ldI H (by repeat (first | exact pick_head | apply pick_tail | apply pick_app)) (by first | rfl | (simp; done)) ?_ | refine h_ldB H (by repeat (first | exact pick_head | apply pick_tail | apply pick_app)) (by first | rfl | (simp; done)) ?_ | refine h_ldP H (by repeat (first | exact pick_head | apply pick_tail | apply pick_app)) (by first | rfl | (simp; done)) ?_ | refine h_ldS H (by repeat (first | exact pick_head | apply pick_tail | apply pick_app)) (by first | rfl | (simp; done)) ?_ | refine h_ldM H (by repeat (first | exact pick_head | apply pick_tail | apply pick_app)) (by first | rfl | (simp; done)) ?_ | refine h_ldT H (by repeat (first | exact pick_head | apply pick_tail | apply pick_app)) (by first | rfl | (simp; done)) ?_ | refine h_ldV H (by repeat (first | exact pick_head | apply pick_tail | apply pick_app)) (by first | rfl | (simp; done)) ?_ | (refine h_st H (by repeat (first | exact pick_head | apply pick_tail | apply pick_app)) (by first | (simp; done) | exact Nat.le_of_ble_eq_true rfl) rfl fun u H => ?_) | (refine h_drew H fun u H => ?_) | refine s_chk c_nil ?_))
    refine s_ite (fun g4 => s_ret ⟨?_, H.base⟩) (fun g4 => s_ret ⟨?_, H.base⟩)
    · simp only [Bool.and_true, Bool.and_eq_true, beq_iff_eq] at g4
      unfold cmpK cmpI; (repeat' split) <;> first | rfl | omega
    · have : ¬ (a.t = b.t ∧ a.r = b.r) := fun h => by simp [h.1, h.2] at g4
      unfold cmpK cmpI; (repeat' split) <;> first | rfl | omega
  · have g2 : ¬ a.t = b.t := fun h => by simp [h] at g2
    (repeat (first | refine s_asI ?_ | refine s_asS ?_ | refine s_asP ?_ | refine s_asB ?_ | refine s_asA ?_ | refine s_asT ?_ | refine s_asM ?_ | refine s_asU ?_ | refine s_asC ?_ | refine s_sm ?_ | refine s_req (by first | rfl | exact ⟨rfl, rfl⟩) ?_ | refine h_ldI H (by repeat (first | exact pick_head | apply pick_tail | apply pick_app)) (by first | rfl | (simp; done)) ?_ | refine h_ldB H (by repeat (first | exact pick_head | apply pick_tail | apply pick_app)) (by first | rfl | (simp; done)) ?_ | refine h_ldP H (by repeat (first | exact pick_head | apply pick_tail | apply pick_app)) (by first | rfl | (simp; done)) ?_ | refine h_ldS H (by repeat (first | exact pick_head | apply pick_tail | apply pick_app)) (by first | rfl | (simp; done)) ?_ | refine h_ldM H (by repeat (first | exact pick_head | apply pick_tail | apply pick_app)) (by first | rfl | (simp; done)) ?_ | refine h_ldT H (by repeat (first | exact pick_head | apply pick_tail | apply pick_app)) (by first | rfl | (simp; done)) ?_ | refine h_ldV H (by repeat (first | exact pick_head | apply pick_tail | apply pick_app)) (by first | rfl | (simp; done)) ?_ | (refine h_st H (by repeat (first | exact pick_head | apply pick_tail | apply pick_app)) (by first | (simp; done) | exact Nat.le_of_ble_eq_true rfl) rfl fun u H => ?_) | (refine h_drew H fun u H => ?_) | refine s_chk c_nil ?_))
    refine s_ite (fun g4 => ?_) (fun g4 => s_ret ⟨?_, H.base⟩)
    · simp only [Bool.and_true, Bool.and_eq_true, beq_iff_eq] at g4
      omega
    · unfold cmpK cmpI; (repeat' split) <;> first | rfl | omega
end
end Go.Proofs.Ytndkffhlheaepaa
