/- live; a key's number and its partition; the walks of ShardOrder and ShardAsks. -/
import Derived.Test.YteimilnigiagjaaBytes
set_option linter.unusedVariables false
set_option linter.unusedSimpArgs false
set_option maxRecDepth 100000
namespace Go.Proofs.Yteimilnigiagjaa
open Go hiding Expr
open Go.RowKit Tr

def mixI (x : Int) : Int := bitsI .xor .u64 (bitsI .xor .u64 (bitsI .xor .u64 x (shlI .u64 x 13)) (shrI .u64 (bitsI .xor .u64 x (shlI .u64 x 13)) 7)) (shlI .u64 (bitsI .xor .u64 (bitsI .xor .u64 x (shlI .u64 x 13)) (shrI .u64 (bitsI .xor .u64 x (shlI .u64 x 13)) 7)) 17)
def hashI (k : K) : Int := mixI (IntKind.wrap .u64 (IntKind.wrap .u64 (mixI (IntKind.wrap .u64 (mixI (IntKind.wrap .u64 (IntKind.wrap .u64 k.r + 11400714819323198485)) + IntKind.wrap .u64 (IntKind.wrap .u32 k.t))) + shrI .u64 (IntKind.wrap .u64 k.r) 32) + shlI .u64 (IntKind.wrap .u64 (IntKind.wrap .u32 k.t)) 32))
def manyI (p : Int) : Int := min (max p 1) 8
def partI (k : K) (p : Int) : Int := IntKind.wrap .i64 (shrI .u64 (IntKind.wrap .u64 (shrI .u64 (hashI k) 32 * IntKind.wrap .u64 (manyI p))) 32)
theorem bits_range (op : BinOp) (hop : op = .xor) (x y : Int) : ∃ n : Nat, bitsI op .u64 x y = (n : Int) ∧ n < 2 ^ 64 := by
  subst hop
  have h := (BitVec.ofInt 64 x ^^^ BitVec.ofInt 64 y).isLt
  refine ⟨(BitVec.ofInt 64 x ^^^ BitVec.ofInt 64 y).toNat, ?_, h⟩
  show IntKind.wrap .u64 (((BitVec.ofInt 64 x ^^^ BitVec.ofInt 64 y).toNat : Nat) : Int) = _
  exact wrapU (by omega) (by omega)
theorem partI_range (k : K) (p : Int) : 0 ≤ partI k p ∧ partI k p < manyI p := by
  have hm : 1 ≤ manyI p ∧ manyI p ≤ 8 := by unfold manyI; omega
  unfold partI
  obtain ⟨m, hmm⟩ := Int.eq_ofNat_of_zero_le (show 0 ≤ manyI p by omega)
  rw [hmm] at hm ⊢
  have hh : ∃ n : Nat, hashI k = (n : Int) ∧ n < 2 ^ 64 := bits_range .xor rfl _ _
  obtain ⟨n, hn, hlt⟩ := hh
  rw [hn, shr_nat n 32 32 rfl (by decide), wrapU (n := (m : Int)) (by omega) (by omega)]
  have h1 : n / 2 ^ 32 < 2 ^ 32 := by omega
  have h2 : n / 2 ^ 32 * m < 2 ^ 32 * m := Nat.mul_lt_mul_of_pos_right h1 (by omega)
  have h3 : ((n / 2 ^ 32 : Nat) : Int) * (m : Int) = ((n / 2 ^ 32 * m : Nat) : Int) := by rw [Int.natCast_mul]
  rw [h3]
  generalize n / 2 ^ 32 * m = q at h2 ⊢
  rw [wrapU (by omega) (by omega), shr_nat q 32 32 rfl (by decide), wrap64 (by omega) (by omega)]
  omega

section
variable {w : World}
theorem mix_c (x : Int) : Calls Try.prog 36 #[.int .u64 x] w fun e w' => e = .returned (.int .u64 (mixI x)) ∧ w = w' := by
  apply c36
  exact s_req (by decide) (s_req (by decide) (s_req (by decide) (s_ret ⟨rfl, rfl⟩)))
theorem rmix_c (x : Int) : Calls Try.prog 37 #[.int .u64 x] w fun e w' => e = .returned (.int .u64 (mixI x)) ∧ w = w' := by
  apply c37
  exact s_req (by decide) (s_req (by decide) (s_req (by decide) (s_ret ⟨rfl, rfl⟩)))
theorem hash_c (k : K) : Calls Try.prog 16 #[.agg ⟨kr k⟩] w fun e w' => e = .returned (.int .u64 (hashI k)) ∧ Fr [] w w' := by
  apply c16
  have mx := fun {w : World} (x : Int) => mix_c (w := w) x
  refine h_new (Has.init w) fun r u H => h_drew H fun u H => h_ldI H (by repeat (first | exact pick_head | apply pick_tail | apply pick_app)) rfl (h_ldI H (by repeat (first | exact pick_head | apply pick_tail | apply pick_app)) rfl (s_call (mx _) ?_))
  rintro _ _ ⟨rfl, rfl⟩
  refine ⟨_, rfl, s_asI (s_call (mx _) ?_)⟩
  rintro _ _ ⟨rfl, rfl⟩
  refine ⟨_, rfl, s_asI (s_req (by decide) (s_req (by decide) (s_call (mx _) ?_)))⟩
  rintro _ _ ⟨rfl, rfl⟩
  exact ⟨_, rfl, s_asI (s_ret ⟨rfl, H.base⟩)⟩
theorem rhash_c (k : K) : Calls Try.prog 17 #[.agg ⟨kr k⟩] w fun e w' => e = .returned (.int .u64 (hashI k)) ∧ Fr [] w w' := by
  apply c17
  have mx := fun {w : World} (x : Int) => rmix_c (w := w) x
  refine h_new (Has.init w) fun r u H => h_drew H fun u H => h_ldI H (by repeat (first | exact pick_head | apply pick_tail | apply pick_app)) rfl (h_ldI H (by repeat (first | exact pick_head | apply pick_tail | apply pick_app)) rfl (s_call (mx _) ?_))
  rintro _ _ ⟨rfl, rfl⟩
  refine ⟨_, rfl, s_asI (s_call (mx _) ?_)⟩
  rintro _ _ ⟨rfl, rfl⟩
  refine ⟨_, rfl, s_asI (s_req (by decide) (s_req (by decide) (s_call (mx _) ?_)))⟩
  rintro _ _ ⟨rfl, rfl⟩
  exact ⟨_, rfl, s_asI (s_ret ⟨rfl, H.base⟩)⟩
theorem many_c (p : Int) : Calls Try.prog 38 #[.int .i64 p] w fun e w' => e = .returned (.int .i64 (manyI p)) ∧ w = w' := by
  apply c38
  exact s_max (s_asI (s_min (s_asI (s_ret ⟨rfl, rfl⟩))))
theorem rmany_c (p : Int) : Calls Try.prog 39 #[.int .i64 p] w fun e w' => e = .returned (.int .i64 (manyI p)) ∧ w = w' := by
  apply c39
  exact s_max (s_asI (s_min (s_asI (s_ret ⟨rfl, rfl⟩))))
theorem part_k_c (k : K) (p : Int) : Calls Try.prog 18 #[.agg ⟨kr k⟩, .int .i64 p] w fun e w' => e = .returned (.int .i64 (partI k p)) ∧ Fr [] w w' := by
  apply c18
  refine h_new (Has.init w) fun r u H => ?_
  (repeat (first | refine s_asI ?_ | refine s_asS ?_ | refine s_asP ?_ | refine s_asB ?_ | refine s_asA ?_ | refine s_asT ?_ | refine s_asM ?_ | refine s_asU ?_ | refine s_asC ?_ | refine s_sm ?_ | refine s_req (by first | rfl | exact ⟨rfl, rfl⟩) ?_ | refine h_ldI H (by repeat (first | exact pick_head | apply pick_tail | apply pick_app)) (by first | rfl | (simp; done)) ?_ | refine h_ldB H (by repeat (first | exact pick_head | apply pick_tail | apply pick_app)) (by first | rfl | (simp; done)) ?_ | refine h_ldP H (by repeat (first | exact pick_head | apply pick_tail | apply pick_app)) (by first | rfl | (simp; done)) ?_ | refine h_ldS H (by repeat (first | exact pick_head | apply pick_tail | apply pick_app)) (by first | rfl | (simp; done)) ?_ | refine h_ldM H (by repeat (first | exact pick_head | apply pick_tail | apply pick_app)) (by first | rfl | (simp; done)) ?_ | refine h_ldT H (by repeat (first | exact pick_head | apply pick_tail | apply pick_app)) (by first | rfl | (simp; done)) ?_ | refine h_ldV H (by repeat (first | exact pick_head | apply pick_tail | apply pick_app)) (by first | rfl | (simp; done)) ?_ | (refine h_st H (by repeat (first | exact pick_head | apply pick_tail | apply pick_app)) (by first | (simp; done) | exact Nat.le_of_ble_eq_true rfl) rfl fun u H => ?_) | (refine h_drew H fun u H => ?_) | refine s_chk c_nil ?_))
  refine s_call (hash_c k) ?_
  rintro _ u ⟨rfl, f⟩
  have H := H.fr0 f
  refine ⟨_, rfl, s_asI (s_req (by decide) (s_call (many_c p) ?_))⟩
  rintro _ _ ⟨rfl, rfl⟩
  exact ⟨_, rfl, s_asI (s_req (by decide) (s_ret ⟨rfl, H.base⟩))⟩
theorem rpart_c (k : K) (p : Int) : Calls Try.prog 19 #[.agg ⟨kr k⟩, .int .i64 p] w fun e w' => e = .returned (.int .i64 (partI k p)) ∧ Fr [] w w' := by
  apply c19
  refine h_new (Has.init w) fun r u H => ?_
  (repeat (first | refine s_asI ?_ | refine s_asS ?_ | refine s_asP ?_ | refine s_asB ?_ | refine s_asA ?_ | refine s_asT ?_ | refine s_asM ?_ | refine s_asU ?_ | refine s_asC ?_ | refine s_sm ?_ | refine s_req (by first | rfl | exact ⟨rfl, rfl⟩) ?_ | refine h_ldI H (by repeat (first | exact pick_head | apply pick_tail | apply pick_app)) (by first | rfl | (simp; done)) ?_ | refine h_ldB H (by repeat (first | exact pick_head | apply pick_tail | apply pick_app)) (by first | rfl | (simp; done)) ?_ | refine h_ldP H (by repeat (first | exact pick_head | apply pick_tail | apply pick_app)) (by first | rfl | (simp; done)) ?_ | refine h_ldS H (by repeat (first | exact pick_head | apply pick_tail | apply pick_app)) (by first | rfl | (simp; done)) ?_ | refine h_ldM H (by repeat (first | exact pick_head | apply pick_tail | apply pick_app)) (by first | rfl | (simp; done)) ?_ | refine h_ldT H (by repeat (first | exact pick_head | apply pick_tail | apply pick_app)) (by first | rfl | (simp; done)) ?_ | refine h_ldV H (by repeat (first | exact pick_head | apply pick_tail | apply pick_app)) (by first | rfl | (simp; done)) ?_ | (refine h_st H (by repeat (first | exact pick_head | apply pick_tail | apply pick_app)) (by first | (simp; done) | exact Nat.le_of_ble_eq_true rfl) rfl fun u H => ?_) | (refine h_drew H fun u H => ?_) | refine s_chk c_nil ?_))
  refine s_call (rhash_c k) ?_
  rintro _ u ⟨rfl, f⟩
  have H := H.fr0 f
  refine ⟨_, rfl, s_asI (s_req (by decide) (s_call (rmany_c p) ?_))⟩
  rintro _ _ ⟨rfl, rfl⟩
  exact ⟨_, rfl, s_asI (s_req (by decide) (s_ret ⟨rfl, H.base⟩))⟩
theorem rcmp_c (a b : K) : Calls Try.prog 14 #[.agg ⟨kr a⟩, .agg ⟨kr b⟩] w fun e w' => e = .returned (.int .i64 (cmpK a b)) ∧ Fr [] w w' := by
  apply c14
  refine h_new (Has.init w) fun n4 u H => ?_
  (refine h_new H fun n5 u H => ?_)
  (repeat (first | refine s_asI ?_ | refine s_asS ?_ | refine s_asP ?_ | refine s_asB ?_ | refine s_asA ?_ | refine s_asT ?_ | refine s_asM ?_ | refine s_asU ?_ | refine s_asC ?_ | refine s_sm ?_ | refine s_req (by first | rfl | exact ⟨rfl, rfl⟩) ?_ | refine h_ldI H (by repeat (first | exact pick_head | apply pick_tail | apply pick_app)) (by first | rfl | (simp; done)) ?_ | refine h_ldB H (by repeat (first | exact pick_head | apply pick_tail | apply pick_app)) (by first | rfl | (simp; done)) ?_ | refine h_ldP H (by repeat (first | exact pick_head | apply pick_tail | apply pick_app)) (by first | rfl | (simp; done)) ?_ | refine h_ldS H (by repeat (first | exact pick_head | apply pick_tail | apply pick_app)) (by first | rfl | (simp; done)) ?_ | refine h_ldM H (by repeat (first | exact pick_head | apply pick_tail | apply pick_app)) (by first | rfl | (simp; done)) ?_ | refine h_ldT H (by repeat (first | exact pick_head | apply pick_tail | apply pick_app)) (by first | rfl | (simp; done)) ?_ | refine h_ldV H (by repeat (first | exact pick_head | apply pick_tail | apply pick_app)) (by first | rfl | (simp; done)) ?_ | (refine h_st H (by repeat (first | exact pick_head | apply pick_tail | apply pick_app)) (by first | (simp; done) | exact Nat.le_of_ble_eq_true rfl) rfl fun u H => ?_) | (refine h_drew H fun u H => ?_) | refine s_chk c_nil ?_))
  refine s_ite (fun g1 => s_ret ⟨?_, H.base⟩) (fun g1 => ?_)
  · simp only [decide_eq_true_eq] at g1
    unfold cmpK cmpI; (repeat' split) <;> first | rfl | omega
  simp only [decide_eq_false_iff_not] at g1
  (repeat (first | refine s_asI ?_ | refine s_asS ?_ | refine s_asP ?_ | refine s_asB ?_ | refine s_asA ?_ | refine s_asT ?_ | refine s_asM ?_ | refine s_asU ?_ | refine s_asC ?_ | refine s_sm ?_ | refine s_req (by first | rfl | exact ⟨rfl, rfl⟩) ?_ | refine h_ldI H (by repeat (first | exact pick_head | apply pick_tail | apply pick_app)) (by first | rfl | (simp; done)) ?_ | refine h_ldB H (by repeat (first | exact pick_head | apply pick_tail | apply pick_app)) (by first | rfl | (simp; done)) ?_ | refine h_ldP H (by repeat (first | exact pick_head | apply pick_tail | apply pick_app)) (by first | rfl | (simp; done)) ?_ | refine h_ldS H (by repeat (first | exact pick_head | apply pick_tail | apply pick_app)) (by first | rfl | (simp; done)) ?_ | refine h_ldM H (by repeat (first | exact pick_head | apply pick_tail | apply pick_app)) (by first | rfl | (simp; done)) ?_ | refine h_ldT H (by repeat (first | exact pick_head | apply pick_tail | apply pick_app)) (by first | rfl | (simp; done)) ?_ | refine h_ldV H (by repeat (first | exact pick_head | apply pick_tail | apply pick_app)) (by first | rfl | (simp; done)) ?_ | (refine h_st H (by repeat (first | exact pick_head | apply pick_tail | apply pick_app)) (by first | (simp; done) | exact Nat.le_of_ble_eq_true rfl) rfl fun u H => ?_) | (refine h_drew H fun u H => ?_) | refine s_chk c_nil ?_))
  refine s_ite (fun g2 => ?_) (fun g2 => ?_)
  · simp only [beq_iff_eq] at g2
    (repeat (first | refine s_asI ?_ | refine s_asS ?_ | refine s_asP ?_ | refine s_asB ?_ | refine s_asA ?_ | refine s_asT ?_ | refine s_asM ?_ | refine s_asU ?_ | refine s_asC ?_ | refine s_sm ?_ | refine s_req (by first | rfl | exact ⟨rfl, rfl⟩) ?_ | refine h_ldI H (by repeat (first | exact pick_head | apply pick_tail | apply pick_app)) (by first | rfl | (simp; done)) ?_ | refine h_ldB H (by repeat (first | exact pick_head | apply pick_tail | apply pick_app)) (by first | rfl | (simp; done)) ?_ | refine h_ldP H (by repeat (first | exact pick_head | apply pick_tail | apply pick_app)) (by first | rfl | (simp; done)) ?_ | refine h_ldS H (by repeat (first | exact pick_head | apply pick_tail | apply pick_app)) (by first | rfl | (simp; done)) ?_ | refine h_ldM H (by repeat (first | exact pick_head | apply pick_tail | apply pick_app)) (by first | rfl | (simp; done)) ?_ | refine h_ldT H (by repeat (first | exact pick_head | apply pick_tail | apply pick_app)) (by first | rfl | (simp; done)) ?_ | refine h_ldV H (by repeat (first | exact pick_head | apply pick_tail | apply pick_app)) (by first | rfl | (simp; done)) ?_ | (refine h_st H (by repeat (first | exact pick_head | apply pick_tail | apply pick_app)) (by first | (simp; done) | exact Nat.le_of_ble_eq_true rfl) rfl fun u H => ?_) | (refine h_drew H fun u H => ?_) | refine s_chk c_nil ?_))
    refine s_ite (fun g3 => s_ret ⟨?_, H.base⟩) (fun g3 => ?_)
    · simp only [decide_eq_true_eq] at g3
      unfold cmpK cmpI; (repeat' split) <;> first | rfl | omega
    simp only [decide_eq_false_iff_not] at g3
    (repeat (first | refine s_asI ?_ | refine s_asS ?_ | refine s_asP ?_ | refine s_asB ?_ | refine s_asA ?_ | refine s_asT ?_ | refine s_asM ?_ | refine s_asU ?_ | refine s_asC ?_ | refine s_sm ?_ | refine s_req (by first | rfl | exact ⟨rfl, rfl⟩) ?_ | refine h_ldI H (by repeat (first | exact pick_head | apply pick_tail | apply pick_app)) (by first | rfl | (simp; done)) ?_ | refine h_ldB H (by repeat (first | exact pick_head | apply pick_tail | apply pick_app)) (by first | rfl | (simp; done)) ?_ | refine h_ldP H (by repeat (first | exact pick_head | apply pick_tail | apply pick_app)) (by first | rfl | (simp; done)) ?_ | refine h_ldS H (by repeat (first | exact pick_head | apply pick_tail | apply pick_app)) (by first | rfl | (simp; done)) ?_ | refine h_ldM H (by repeat (first | exact pick_head | apply pick_tail | apply pick_app)) (by first | rfl | (simp; done)) ?_ | refine h_ldT H (by repeat (first | exact pick_head | apply pick_tail | apply pick_app)) (by first | rfl | (simp; done)) ?_ | refine h_ldV H (by repeat (first | exact pick_head | apply pick_tail | apply pick_app)) (by first | rfl | (simp; done)) ?_ | (refine h_st H (by repeat (first | exact pick_head | apply pick_tail | apply pick_app)) (by first | (simp; done) | exact Nat.le_of_ble_eq_true rfl) rfl fun u H => ?_) | (refine h_drew H fun u H => ?_) | refine s_chk c_nil ?_))
    refine s_ite (fun g4 => s_ret ⟨?_, H.base⟩) (fun g4 => s_ret ⟨?_, H.base⟩)
    · simp only [Bool.and_true, Bool.and_eq_true, beq_iff_eq] at g4
      unfold cmpK cmpI; (repeat' split) <;> first | rfl | omega
    · have : ¬ (a.t = b.t ∧ a.r = b.r) := fun h => by simp [h.1, h.2] at g4
      unfold cmpK cmpI; (repeat' split) <;> first | rfl | omega
  · have g2 : ¬ a.t = b.t := fun h => by simp [h] at g2
    (repeat (first | refine s_asI ?_ | refine s_asS ?_ | refine s_asP ?_ | refine s_asB ?_ | refine s_asA ?_ | refine s_asT ?_ | refine s_asM ?_ | refine s_asU ?_ | refine s_asC ?_ | refine s_sm ?_ | refine s_req (by first | rfl | exact ⟨rfl, rfl⟩) ?_ | refine h_ldI H (by repeat (first | exact pick_head | apply pick_tail | apply pick_app)) (by first | rfl | (simp; done)) ?_ | refine h_ldB H (by repeat (first | exact pick_head | apply pick_tail | apply pick_app)) (by first | rfl | (simp; done)) ?_ | refine h_ldP H (by repeat (first | exact pick_head | apply pick_tail | apply pick_app)) (by first | rfl | (simp; done)) ?_ | refine h_ldS H (by repeat (first | exact pick_head | apply pick_tail | apply pick_app)) (by first | rfl | (simp; done)) ?_ | refine h_ldM H (by repeat (first | exact pick_head | apply pick_tail | apply pick_app)) (by first | rfl | (simp; done)) ?_ | refine h_ldT H (by repeat (first | exact pick_head | apply pick_tail | apply pick_app)) (by first | rfl | (simp; done)) ?_ | refine h_ldV H (by repeat (first | exact pick_head | apply pick_tail | apply pick_app)) (by first | rfl | (simp; done)) ?_ | (refine h_st H (by repeat (first | exact pick_head | apply pick_tail | apply pick_app)) (by first | (simp; done) | exact Nat.le_of_ble_eq_true rfl) rfl fun u H => ?_) | (refine h_drew H fun u H => ?_) | refine s_chk c_nil ?_))
    refine s_ite (fun g4 => ?_) (fun g4 => s_ret ⟨?_, H.base⟩)
    · simp only [Bool.and_true, Bool.and_eq_true, beq_iff_eq] at g4
      omega
    · unfold cmpK cmpI; (repeat' split) <;> first | rfl | omega

theorem live_c : Calls Try.prog 11 #[] w fun e w' => e = .returned (.bool true) ∧ Fr [] w w' := by
  apply c11
  refine s_call (bytes_c ⟨0, 0⟩ ⟨by decide, by decide, by decide, by decide⟩) ?_
  rintro _ u ⟨rfl, f⟩
  have H := (Has.init w).fr0 f
  have hb : bytesK ⟨0, 0⟩ = [.int .u8 128, .int .u8 0, .int .u8 0, .int .u8 0, .int .u8 128, .int .u8 0, .int .u8 0, .int .u8 0, .int .u8 0, .int .u8 0, .int .u8 0, .int .u8 0] := by
    simp [bytesK, byteL, List.range, List.range.loop, dig, digN, K.T, K.R]
  rw [hb]
  refine ⟨_, rfl, s_asA (s_req rfl ?_)⟩
  iterate 12 refine s_asI ?_
  refine h_new H fun r14 u H => ?_
  iterate 12
    refine h_st H (by repeat (first | exact pick_head | apply pick_tail | apply pick_app)) (by simp) rfl fun u H => ?_
    simp only [List.set_cons_succ, List.set_cons_zero] at H
  refine h_new H fun r15 u H => ?_
  have hk : KeysAt u (some ⟨r15, 0, none⟩) [⟨0, 2⟩, ⟨0, 1⟩, ⟨0, 2⟩] := keysAt_cells (sp := []) (H.cells (by repeat (first | exact pick_head | apply pick_tail | apply pick_app)))
  refine s_call (keys_c hk rfl (by decide)) ?_
  rintro _ u ⟨v, c, rfl, ho, Hc⟩
  have H := H.join Hc
  have hKS : KS [⟨0, 2⟩, ⟨0, 1⟩, ⟨0, 2⟩] = [⟨0, 1⟩, ⟨0, 2⟩] := by
    refine rising_ext (KS_rising _) (by simp [Rising]; decide) fun x => ?_
    rw [KS_mem]
    simp
    intro h
    exact .inr h
  rw [hKS] at ho
  obtain ⟨g, cap, sp, rfl, rfl, _⟩ := ho.pos (by decide)
  refine ⟨_, rfl, s_asS (s_req (by decide) (h_ldI H (by repeat (first | exact pick_head | apply pick_tail | apply pick_app)) rfl (s_true rfl (s_req (by decide) (h_ldI H (by repeat (first | exact pick_head | apply pick_tail | apply pick_app)) rfl (s_true rfl (s_req (by decide) (h_ldI H (by repeat (first | exact pick_head | apply pick_tail | apply pick_app)) rfl (s_true rfl (s_true rfl (s_req (by decide) (s_sm (h_ldI H (by repeat (first | exact pick_head | apply pick_tail | apply pick_app)) rfl (s_true rfl ?_))))))))))))))⟩
  have hk2 : KeysAt u (some ⟨g, 0, none⟩) [⟨0, 1⟩, ⟨0, 2⟩] := keysAt_cells (H.cells (by repeat (first | exact pick_head | apply pick_tail | apply pick_app)))
  refine s_call (has_c hk2 rfl (by decide) ⟨0, 2⟩) ?_
  rintro _ u ⟨rfl, f⟩
  exact ⟨_, rfl, s_asB (s_ret ⟨by simp, (H.fr0 f).base⟩)⟩

theorem cmpK_neg (a b : K) : cmpK b a = - cmpK a b := by
  unfold cmpK cmpI
  repeat' split
  all_goals omega
theorem cmpK_rng (a b : K) : -1 ≤ cmpK a b ∧ cmpK a b ≤ 1 := by
  unfold cmpK cmpI
  repeat' split
  all_goals omega

theorem cmpK_pos (a b : K) : 0 < cmpK a b ↔ (b.t < a.t ∨ (a.t = b.t ∧ b.r < a.r)) := by
  unfold cmpK cmpI
  (repeat' split) <;> omega
theorem cmpK_pass {a b c : K} (h1 : ¬ cmpK a b > 0) (h2 : ¬ cmpK b c > 0) : cmpK a c ≤ 0 := by
  have h3 : ¬ cmpK a c > 0 := by
    rw [show (cmpK a c > 0) = (0 < cmpK a c) from rfl, cmpK_pos]
    rw [show (cmpK a b > 0) = (0 < cmpK a b) from rfl, cmpK_pos] at h1
    rw [show (cmpK b c > 0) = (0 < cmpK b c) from rfl, cmpK_pos] at h2
    omega
  omega
theorem order_c (a b c : K) : Calls Try.prog 3 #[.agg ⟨kr a⟩, .agg ⟨kr b⟩, .agg ⟨kr c⟩] w fun e w' => e = .returned (.bool true) ∧ Fr [] w w' := by
  apply c3
  refine h_new (Has.init w) fun n6 u H => ?_
  (refine h_new H fun n7 u H => ?_)
  (refine h_new H fun n8 u H => ?_)
  refine s_blk (fun vs W => Has w W (cl n8 23 (kr c) :: cl n7 23 (kr b) :: cl n6 23 (kr a) :: [])) ?_ ?_
  · rintro vs j W H
    refine s_call live_c ?_
    rintro _ u ⟨rfl, f⟩
    have H := H.fr0 f
    refine ⟨_, rfl, s_asB (s_true rfl ?_)⟩
    iterate 4 refine h_ldI H (by repeat (first | exact pick_head | apply pick_tail | apply pick_app)) rfl ?_
    refine s_call (cmpK_c a b) ?_
    rintro _ u ⟨rfl, f⟩
    have H := H.fr0 f
    refine ⟨_, rfl, s_asI (s_ite (fun g => s_ret ⟨rfl, H.base⟩) (fun g => ?_))⟩
    iterate 4 refine h_ldI H (by repeat (first | exact pick_head | apply pick_tail | apply pick_app)) rfl ?_
    refine s_call (cmpK_c b c) ?_
    rintro _ u ⟨rfl, f⟩
    have H := H.fr0 f
    refine ⟨_, rfl, s_asI (s_ite (fun g2 => s_ret ⟨rfl, H.base⟩) (fun g2 => ?_))⟩
    iterate 4 refine h_ldI H (by repeat (first | exact pick_head | apply pick_tail | apply pick_app)) rfl ?_
    refine s_call (cmpK_c a c) ?_
    rintro _ u ⟨rfl, f⟩
    have H := H.fr0 f
    refine ⟨_, rfl, s_asI (s_ret ⟨?_, H.base⟩)⟩
    simp only [decide_eq_false_iff_not] at g g2
    rw [decide_eq_true (cmpK_pass g g2)]
  · refine h_drew H fun u H => ?_
    iterate 8 refine h_ldI H (by repeat (first | exact pick_head | apply pick_tail | apply pick_app)) rfl ?_
    refine s_call (cmpK_c a b) ?_
    rintro _ u ⟨rfl, f⟩
    have H := H.fr0 f
    refine ⟨_, rfl, s_asI (s_chk (hc_cons H (by repeat (first | exact pick_head | apply pick_tail | apply pick_app)) rfl (hc_cons H (by repeat (first | exact pick_head | apply pick_tail | apply pick_app)) rfl (hc_cons H (by repeat (first | exact pick_head | apply pick_tail | apply pick_app)) rfl (hc_cons H (by repeat (first | exact pick_head | apply pick_tail | apply pick_app)) rfl c_nil)))) (s_call (cmpK_c b a) ?_))⟩
    rintro _ u ⟨rfl, f⟩
    have H := H.fr0 f
    refine ⟨_, rfl, s_asI (s_chk c_nil (s_false ?_ ?_))⟩
    · rw [cmpK_neg a b]
      have := cmpK_rng a b
      rw [wrap64 (by omega) (by omega)]
      simp
    iterate 8 refine h_ldI H (by repeat (first | exact pick_head | apply pick_tail | apply pick_app)) rfl ?_
    refine s_call (cmpK_c a b) ?_
    rintro _ u ⟨rfl, f⟩
    have H := H.fr0 f
    refine ⟨_, rfl, s_asI (s_chk (hc_cons H (by repeat (first | exact pick_head | apply pick_tail | apply pick_app)) rfl (hc_cons H (by repeat (first | exact pick_head | apply pick_tail | apply pick_app)) rfl (hc_cons H (by repeat (first | exact pick_head | apply pick_tail | apply pick_app)) rfl (hc_cons H (by repeat (first | exact pick_head | apply pick_tail | apply pick_app)) rfl c_nil)))) (s_false ?_ (s_next (by first | exact ⟨rfl, rfl⟩ | trivial) ?_)))⟩
    · by_cases h : a = b
      · subst h
        have h2 : cmpK a a = 0 := cmpK_zero.2 rfl
        rw [h2]
        simp
      · have h0 : ¬ cmpK a b = 0 := fun e => h (cmpK_zero.1 e)
        have h1 : ¬ (a.t = b.t ∧ a.r = b.r) := fun e => h (K.ext' e.1 e.2)
        have h2 : (cmpK a b == 0) = false := by simpa using h0
        have h3 : (a.t == b.t && (a.r == b.r && true)) = false := by
          cases h4 : a.t == b.t <;> cases h5 : a.r == b.r <;> simp_all
        rw [h2, h3]
        rfl
    · simp only [if_true]
      exact H

theorem asks_c (a b : K) (ha : a.In) (p : Int) : Calls Try.prog 5 #[.agg ⟨kr a⟩, .agg ⟨kr b⟩, .int .i64 p] w fun e w' => e = .returned (.bool true) ∧ Fr [] w w' := by
  apply c5
  refine h_new (Has.init w) fun n5 u H => ?_
  (refine h_new H fun n6 u H => ?_)
  refine h_drew H fun u H => s_call live_c ?_
  rintro _ u ⟨rfl, f⟩
  have H := H.fr0 f
  refine ⟨_, rfl, s_asB (s_chk c_nil (s_true rfl ?_))⟩
  iterate 8 refine h_ldI H (by repeat (first | exact pick_head | apply pick_tail | apply pick_app)) rfl ?_
  refine s_call (cmpK_c a b) ?_
  rintro _ u ⟨rfl, f⟩
  have H := H.fr0 f
  refine ⟨_, rfl, s_asI (s_chk (hc_cons H (by repeat (first | exact pick_head | apply pick_tail | apply pick_app)) rfl (hc_cons H (by repeat (first | exact pick_head | apply pick_tail | apply pick_app)) rfl (hc_cons H (by repeat (first | exact pick_head | apply pick_tail | apply pick_app)) rfl (hc_cons H (by repeat (first | exact pick_head | apply pick_tail | apply pick_app)) rfl c_nil)))) (s_call (rcmp_c a b) ?_))⟩
  rintro _ u ⟨rfl, f⟩
  have H := H.fr0 f
  refine ⟨_, rfl, s_asI (s_chk c_nil (s_true (by simp) ?_))⟩
  iterate 4 refine h_ldI H (by repeat (first | exact pick_head | apply pick_tail | apply pick_app)) rfl ?_
  refine s_call (bytes_c a ha) ?_
  rintro _ u ⟨rfl, f⟩
  have H := H.fr0 f
  refine ⟨_, rfl, s_asA (s_req rfl ?_)⟩
  iterate 12 refine s_asI ?_
  refine s_chk (hc_cons H (by repeat (first | exact pick_head | apply pick_tail | apply pick_app)) rfl (hc_cons H (by repeat (first | exact pick_head | apply pick_tail | apply pick_app)) rfl c_nil)) (s_call (rbytes_c a ha) ?_)
  rintro _ u ⟨rfl, f⟩
  have H := H.fr0 f
  refine ⟨_, rfl, s_asA (s_req rfl ?_)⟩
  iterate 12 refine s_asI ?_
  refine s_chk c_nil (s_true (by simp) ?_)
  iterate 4 refine h_ldI H (by repeat (first | exact pick_head | apply pick_tail | apply pick_app)) rfl ?_
  refine s_call (hash_c a) ?_
  rintro _ u ⟨rfl, f⟩
  have H := H.fr0 f
  refine ⟨_, rfl, s_asI (s_chk (hc_cons H (by repeat (first | exact pick_head | apply pick_tail | apply pick_app)) rfl (hc_cons H (by repeat (first | exact pick_head | apply pick_tail | apply pick_app)) rfl c_nil)) (s_call (rhash_c a) ?_))⟩
  rintro _ u ⟨rfl, f⟩
  have H := H.fr0 f
  refine ⟨_, rfl, s_asI (s_chk c_nil (s_true (by simp) ?_))⟩
  iterate 4 refine h_ldI H (by repeat (first | exact pick_head | apply pick_tail | apply pick_app)) rfl ?_
  refine s_call (part_k_c a p) ?_
  rintro _ u ⟨rfl, f⟩
  have H := H.fr0 f
  refine ⟨_, rfl, s_asI (s_chk (hc_cons H (by repeat (first | exact pick_head | apply pick_tail | apply pick_app)) rfl (hc_cons H (by repeat (first | exact pick_head | apply pick_tail | apply pick_app)) rfl c_nil)) (s_call (rpart_c a p) ?_))⟩
  rintro _ u ⟨rfl, f⟩
  exact ⟨_, rfl, s_asI (s_chk c_nil (s_ret ⟨by simp, (H.fr0 f).base⟩))⟩
end
end Go.Proofs.Yteimilnigiagjaa
