/- A key's bytes: the program's and the document's; and back. -/
import Derived.Test.YteimilnigiagjaaKeys
set_option linter.unusedVariables false
set_option linter.unusedSimpArgs false
set_option maxRecDepth 100000
namespace Go.Proofs.Yteimilnigiagjaa
open Go hiding Expr
open Go.RowKit Tr

structure K.In (k : K) : Prop where
  t0 : -2147483648 ≤ k.t
  t1 : k.t < 2147483648
  r0 : -9223372036854775808 ≤ k.r
  r1 : k.r < 9223372036854775808

theorem xor_low {n k : Nat} (h : n < 2 ^ k) : n ^^^ 2 ^ k = 2 ^ k + n := by
  refine Nat.eq_of_testBit_eq fun i => ?_
  rw [Nat.testBit_xor, Nat.testBit_two_pow]
  rcases Nat.lt_trichotomy i k with hi | hi | hi
  · rw [Nat.testBit_two_pow_add_gt hi]
    simp [show ¬ k = i by omega]
  · subst hi
    rw [Nat.testBit_two_pow_add_eq]
    have : n.testBit i = false := Nat.testBit_lt_two_pow h
    simp [this]
  · have h1 : n < 2 ^ i := Nat.lt_of_lt_of_le h (Nat.pow_le_pow_right (by omega) (by omega))
    have h2 : 2 ^ k + n < 2 ^ i := by
      have : 2 ^ (k + 1) ≤ 2 ^ i := Nat.pow_le_pow_right (by omega) (by omega)
      rw [Nat.pow_succ] at this
      omega
    rw [Nat.testBit_lt_two_pow h1, Nat.testBit_lt_two_pow h2]
    simp [show ¬ k = i by omega]
theorem xor_high {n k : Nat} (h1 : 2 ^ k ≤ n) (h2 : n < 2 ^ k + 2 ^ k) : n ^^^ 2 ^ k = n - 2 ^ k := by
  have := xor_low (n := n - 2 ^ k) (k := k) (by omega)
  rw [show 2 ^ k + (n - 2 ^ k) = n by omega] at this
  have e : n ^^^ 2 ^ k = ((n - 2 ^ k) ^^^ 2 ^ k) ^^^ 2 ^ k := by rw [this]
  rw [e, Nat.xor_assoc, Nat.xor_self, Nat.xor_zero]

theorem top32 {x : Int} (h0 : -2147483648 ≤ x) (h1 : x < 2147483648) : bitsI .xor .u32 (IntKind.wrap .u32 x) 2147483648 = (((x + 2147483648).toNat : Nat) : Int) := by
  have e : (BitVec.ofInt 32 (IntKind.wrap .u32 x) ^^^ BitVec.ofInt 32 2147483648).toNat = (x + 2147483648).toNat := by
    rw [BitVec.toNat_xor]
    have e1 : (BitVec.ofInt 32 (IntKind.wrap .u32 x)).toNat = (x % 4294967296).toNat := by
      rw [BitVec.toNat_ofInt]
      simp only [IntKind.wrap, IntKind.min, IntKind.max, IntKind.signed, IntKind.bits]
      simp
    have e2 : (BitVec.ofInt 32 2147483648).toNat = 2 ^ 31 := by decide
    rw [e1, e2]
    rcases Int.lt_or_le x 0 with hx | hx
    · rw [xor_high (by omega) (by omega)]; omega
    · rw [xor_low (by omega)]; omega
  show IntKind.wrap .u32 (((BitVec.ofInt 32 (IntKind.wrap .u32 x) ^^^ BitVec.ofInt 32 2147483648).toNat : Nat) : Int) = _
  rw [e]
  simp only [IntKind.wrap, IntKind.min, IntKind.max, IntKind.signed, IntKind.bits]
  simp
  omega
theorem top64 {x : Int} (h0 : -9223372036854775808 ≤ x) (h1 : x < 9223372036854775808) : bitsI .xor .u64 (IntKind.wrap .u64 x) 9223372036854775808 = (((x + 9223372036854775808).toNat : Nat) : Int) := by
  have e : (BitVec.ofInt 64 (IntKind.wrap .u64 x) ^^^ BitVec.ofInt 64 9223372036854775808).toNat = (x + 9223372036854775808).toNat := by
    rw [BitVec.toNat_xor]
    have e1 : (BitVec.ofInt 64 (IntKind.wrap .u64 x)).toNat = (x % 18446744073709551616).toNat := by
      rw [BitVec.toNat_ofInt]
      simp only [IntKind.wrap, IntKind.min, IntKind.max, IntKind.signed, IntKind.bits]
      simp
    have e2 : (BitVec.ofInt 64 9223372036854775808).toNat = 2 ^ 63 := by decide
    rw [e1, e2]
    rcases Int.lt_or_le x 0 with hx | hx
    · rw [xor_high (by omega) (by omega)]; omega
    · rw [xor_low (by omega)]; omega
  show IntKind.wrap .u64 (((BitVec.ofInt 64 (IntKind.wrap .u64 x) ^^^ BitVec.ofInt 64 9223372036854775808).toNat : Nat) : Int) = _
  rw [e]
  simp only [IntKind.wrap, IntKind.min, IntKind.max, IntKind.signed, IntKind.bits]
  simp
  omega

def digN (T R : Nat) (j : Nat) : Nat := if j < 4 then T / 256 ^ (3 - j) % 256 else R / 256 ^ (11 - j) % 256
def K.T (k : K) : Nat := (k.t + 2147483648).toNat
def K.R (k : K) : Nat := (k.r + 9223372036854775808).toNat
def dig (k : K) (j : Nat) : Int := (digN k.T k.R j : Nat)
def byteL (f : Nat → Int) : List Value := (List.range 12).map fun j => .int .u8 (f j)
def bytesK (k : K) : List Value := byteL (dig k)

theorem shr32_nat (n : Nat) {y : Int} (k : Nat) (hy : y = (k : Int)) (hk : k ≤ 32) : shrI .u32 (n : Int) y = ((n / 2 ^ k : Nat) : Int) := by
  subst hy
  unfold shrI
  rw [show min (k : Int).toNat IntKind.u32.bits = k from by simp [IntKind.bits]; omega, show ((2 : Int) ^ k) = ((2 ^ k : Nat) : Int) by simp, Int.fdiv_eq_ediv_of_nonneg _ (Int.natCast_nonneg _)]
  rfl
theorem wrap8_nat (n : Nat) : IntKind.wrap .u8 (n : Int) = ((n % 256 : Nat) : Int) := by
  simp only [IntKind.wrap, IntKind.min, IntKind.max, IntKind.signed, IntKind.bits]; simp
theorem byteL_set (f : Nat → Int) (i : Nat) (x : Int) (hi : i < 12) : (byteL f).set i (.int .u8 x) = byteL (fun j => if j = i then x else f j) := by
  refine List.ext_getElem (by simp [byteL]) fun q h1 h2 => ?_
  simp only [byteL, List.getElem_set, List.getElem_map, List.getElem_range]
  by_cases h : i = q
  · subst h; simp
  · rw [if_neg h, if_neg (by omega)]
theorem byteL_congr {f g : Nat → Int} (h : ∀ j, j < 12 → f j = g j) : byteL f = byteL g :=
  List.map_congr_left fun j hj => by rw [h j (by simpa using hj)]

section
variable {w : World}
theorem pow256 (m : Nat) : (256 : Nat) ^ m = 2 ^ (8 * m) := by rw [Nat.pow_mul]
theorem bytes_c (k : K) (hk : k.In) : Calls Try.prog 12 #[.agg ⟨kr k⟩] w fun e w' => e = .returned (.agg ⟨bytesK k⟩) ∧ Fr [] w w' := by
  obtain ⟨t0, t1, r0, r1⟩ := hk
  apply c12
  refine h_new (Has.init w) fun r2 u H => ?_
  (refine h_new H fun r3 u H => ?_)
  (refine h_new H fun r4 u H => ?_)
  refine h_drew H fun u H => h_ldI H (by repeat (first | exact pick_head | apply pick_tail | apply pick_app)) rfl (h_ldI H (by repeat (first | exact pick_head | apply pick_tail | apply pick_app)) rfl ?_)
  rw [top32 t0 t1, top64 r0 r1]
  have H : Has w u (cl r4 27 (byteL (fun _ => 0)) :: cl r3 27 (byteL (fun _ => 0)) :: cl r2 23 (kr k) :: []) := H
  refine s_loop (fun vs W => ∃ i : Nat, vs = [.int .i64 i] ∧ i ≤ 4 ∧ Has w W (cl r4 27 (byteL (fun j => if j < i then dig k j else 0)) :: cl r3 27 (byteL (fun _ => 0)) :: cl r2 23 (kr k) :: [])) (fun vs _ => 4 - (intOf (vs.getD 0 undef)).toNat) ⟨0, rfl, by omega, H⟩ ?_
  rintro _ j W ⟨i, rfl, hi, H⟩
  refine s_asI (s_ite (fun g => ?_) (fun g => ?_))
  · simp only [decide_eq_true_eq] at g
    have hw : IntKind.wrap .i64 (24 - IntKind.wrap .i64 (8 * (i : Int))) = ((8 * (3 - i) : Nat) : Int) := by rw [wrap64 (n := 8 * (i : Int)) (by omega) (by omega), wrap64 (by omega) (by omega)]; omega
    rw [hw, shr32_nat _ _ rfl (by omega), wrap8_nat, ← pow256]
    simp only [Int.toNat_natCast, Nat.zero_add, Nat.mul_one]
    refine s_req (by omega) (s_req ⟨by omega, by omega⟩ (h_st H (by repeat (first | exact pick_head | apply pick_tail | apply pick_app)) (by simp [byteL]; omega) rfl fun u H => s_next (by first | exact ⟨rfl, rfl⟩ | trivial) ?_))
    simp only [if_true]
    refine ⟨⟨i + 1, by rw [w_succ (by omega)], by omega, H.sub (sb_eq ?_)⟩, by rw [w_succ (by omega)]; simp [intOf] <;> omega⟩
    rw [byteL_set _ _ _ (by omega)]
    congr 2
    refine byteL_congr fun j hj => ?_
    by_cases hji : j = i
    · subst hji
      rw [if_pos rfl, if_pos (by omega)]
      unfold dig digN
      rw [if_pos (by omega)]
      rfl
    · rw [if_neg hji]
      by_cases h : j < i
      · rw [if_pos h, if_pos (by omega)]
      · rw [if_neg h, if_neg (by omega)]
  · simp only [decide_eq_false_iff_not] at g
    obtain rfl : i = 4 := by omega
    refine s_loop (fun vs W => ∃ i : Nat, vs = [.int .i64 i] ∧ i ≤ 8 ∧ Has w W (cl r4 27 (byteL (fun j => if j < 4 + i then dig k j else 0)) :: cl r3 27 (byteL (fun _ => 0)) :: cl r2 23 (kr k) :: [])) (fun vs _ => 8 - (intOf (vs.getD 0 undef)).toNat) ⟨0, rfl, by omega, H⟩ ?_
    rintro _ j W ⟨i, rfl, hi, H⟩
    refine s_asI (s_ite (fun g => ?_) (fun g => ?_))
    · simp only [decide_eq_true_eq] at g
      have hw : IntKind.wrap .i64 (56 - IntKind.wrap .i64 (8 * (i : Int))) = ((8 * (7 - i) : Nat) : Int) := by rw [wrap64 (n := 8 * (i : Int)) (by omega) (by omega), wrap64 (by omega) (by omega)]; omega
      have hw4 : IntKind.wrap .i64 (4 + (i : Int)) = ((4 + i : Nat) : Int) := by rw [wrap64 (by omega) (by omega)]; rfl
      rw [hw, hw4, shr_nat _ _ _ rfl (by omega), wrap8_nat, ← pow256]
      simp only [Int.toNat_natCast, Nat.zero_add, Nat.mul_one]
      refine s_req (by omega) (s_req ⟨by omega, by omega⟩ (h_st H (by repeat (first | exact pick_head | apply pick_tail | apply pick_app)) (by simp [byteL]; omega) rfl fun u H => s_next (by first | exact ⟨rfl, rfl⟩ | trivial) ?_))
      simp only [if_true]
      refine ⟨⟨i + 1, by rw [w_succ (by omega)], by omega, H.sub (sb_eq ?_)⟩, by rw [w_succ (by omega)]; simp [intOf] <;> omega⟩
      rw [byteL_set _ _ _ (by omega)]
      congr 2
      refine byteL_congr fun j hj => ?_
      by_cases hji : j = 4 + i
      · subst hji
        rw [if_pos rfl, if_pos (by omega)]
        unfold dig digN
        rw [if_neg (by omega), show 11 - (4 + i) = 7 - i by omega]
        rfl
      · rw [if_neg hji]
        by_cases h : j < 4 + i
        · rw [if_pos h, if_pos (by omega)]
        · rw [if_neg h, if_neg (by omega)]
    · simp only [decide_eq_false_iff_not] at g
      obtain rfl : i = 8 := by omega
      have hall : byteL (fun j => if j < 4 + 8 then dig k j else 0) = bytesK k := byteL_congr fun j hj => by rw [if_pos (by omega)]
      rw [hall] at H
      have H : Has w W (cl r4 27 [.int .u8 (dig k 0), .int .u8 (dig k 1), .int .u8 (dig k 2), .int .u8 (dig k 3), .int .u8 (dig k 4), .int .u8 (dig k 5), .int .u8 (dig k 6), .int .u8 (dig k 7), .int .u8 (dig k 8), .int .u8 (dig k 9), .int .u8 (dig k 10), .int .u8 (dig k 11)] :: cl r3 27 [.int .u8 0, .int .u8 0, .int .u8 0, .int .u8 0, .int .u8 0, .int .u8 0, .int .u8 0, .int .u8 0, .int .u8 0, .int .u8 0, .int .u8 0, .int .u8 0] :: cl r2 23 (kr k) :: []) := H
      iterate 12 refine h_ldI H (by repeat (first | exact pick_head | apply pick_tail | apply pick_app)) rfl ?_
      iterate 12
        refine h_st H (by repeat (first | exact pick_head | apply pick_tail | apply pick_app)) (by simp) rfl fun u H => ?_
        simp only [List.set_cons_succ, List.set_cons_zero] at H
      iterate 12 refine h_ldI H (by repeat (first | exact pick_head | apply pick_tail | apply pick_app)) rfl ?_
      exact s_ret ⟨rfl, H.base⟩

theorem rbytes_c (k : K) (hk : k.In) : Calls Try.prog 15 #[.agg ⟨kr k⟩] w fun e w' => e = .returned (.agg ⟨bytesK k⟩) ∧ Fr [] w w' := by
  obtain ⟨t0, t1, r0, r1⟩ := hk
  apply c15
  refine h_new (Has.init w) fun r2 u H => ?_
  (refine h_new H fun r3 u H => ?_)
  (refine h_new H fun r4 u H => ?_)
  refine h_drew H fun u H => h_ldI H (by repeat (first | exact pick_head | apply pick_tail | apply pick_app)) rfl (h_ldI H (by repeat (first | exact pick_head | apply pick_tail | apply pick_app)) rfl ?_)
  rw [top32 t0 t1, top64 r0 r1]
  have H : Has w u (cl r4 27 (byteL (fun _ => 0)) :: cl r3 27 (byteL (fun _ => 0)) :: cl r2 23 (kr k) :: []) := H
  refine s_loop (fun vs W => ∃ i : Nat, vs = [.int .u32 ((k.T / 256 ^ (4 - i) : Nat) : Int), .int .i64 ((i : Int) - 1)] ∧ i ≤ 4 ∧ Has w W (cl r4 27 (byteL (fun j => if i ≤ j ∧ j < 4 then dig k j else 0)) :: cl r3 27 (byteL (fun _ => 0)) :: cl r2 23 (kr k) :: [])) (fun vs _ => (intOf (vs.getD 1 undef) + 1).toNat)
    ⟨4, by simp [K.T], by omega, H.sub (sb_eq (by rw [show byteL (fun j => if 4 ≤ j ∧ j < 4 then dig k j else 0) = byteL (fun _ => 0) from byteL_congr fun j hj => by rw [if_neg (by omega)]]))⟩ ?_
  rintro _ j W ⟨i, rfl, hi, H⟩
  refine s_asI (s_asI (s_ite (fun g => ?_) (fun g => ?_)))
  · simp only [decide_eq_true_eq] at g
    obtain ⟨i, rfl⟩ : ∃ i', i = i' + 1 := ⟨i - 1, by omega⟩
    rw [show (((i + 1 : Nat) : Int) - 1) = (i : Int) by omega, wrap8_nat, shr32_nat (y := 8) _ 8 rfl (by omega)]
    simp only [Int.toNat_natCast, Nat.zero_add, Nat.mul_one]
    refine s_req ⟨by omega, by omega⟩ (h_st H (by repeat (first | exact pick_head | apply pick_tail | apply pick_app)) (by simp [byteL]; omega) rfl fun u H => s_req (by decide) (s_next (by first | exact ⟨rfl, rfl⟩ | trivial) ?_))
    simp only [if_true]
    refine ⟨⟨i, ?_, by omega, H.sub (sb_eq ?_)⟩, by rw [wrap64 (by omega) (by omega)]; simp [intOf] <;> omega⟩
    · rw [wrap64 (by omega) (by omega), Nat.div_div_eq_div_mul, ← Nat.pow_succ, show (4 - (i + 1)).succ = 4 - i by omega]
    · rw [byteL_set _ _ _ (by omega)]
      congr 2
      refine byteL_congr fun j hj => ?_
      by_cases hji : j = i
      · subst hji
        rw [if_pos rfl, if_pos (by omega)]
        unfold dig digN
        rw [if_pos (by omega), show 4 - (j + 1) = 3 - j by omega]
      · rw [if_neg hji]
        by_cases h : i + 1 ≤ j ∧ j < 4
        · rw [if_pos h, if_pos (by omega)]
        · rw [if_neg h, if_neg (by omega)]
  · simp only [decide_eq_false_iff_not] at g
    obtain rfl : i = 0 := by omega
    refine s_loop (fun vs W => ∃ i : Nat, vs = [.int .u64 ((k.R / 256 ^ (8 - i) : Nat) : Int), .int .i64 ((i : Int) + 3)] ∧ i ≤ 8 ∧ Has w W (cl r4 27 (byteL (fun j => if j < 4 ∨ 4 + i ≤ j then dig k j else 0)) :: cl r3 27 (byteL (fun _ => 0)) :: cl r2 23 (kr k) :: [])) (fun vs _ => (intOf (vs.getD 1 undef) + 1).toNat)
      ⟨8, by simp [K.R], by omega, H.sub (sb_eq (by
        rw [show byteL (fun j => if j < 4 ∨ 4 + 8 ≤ j then dig k j else 0) = byteL (fun j => if 0 ≤ j ∧ j < 4 then dig k j else 0) from byteL_congr fun j hj => by
          by_cases h : j < 4
          · rw [if_pos (.inl h), if_pos (by omega)]
          · rw [if_neg (by omega), if_neg (by omega)]]))⟩ ?_
    rintro _ j W ⟨i, rfl, hi, H⟩
    refine s_asI (s_asI (s_ite (fun g => ?_) (fun g => ?_)))
    · simp only [decide_eq_true_eq] at g
      obtain ⟨i, rfl⟩ : ∃ i', i = i' + 1 := ⟨i - 1, by omega⟩
      rw [show (((i + 1 : Nat) : Int) + 3) = ((4 + i : Nat) : Int) by omega, wrap8_nat, shr_nat _ 8 8 rfl (by omega)]
      simp only [Int.toNat_natCast, Nat.zero_add, Nat.mul_one]
      refine s_req ⟨by omega, by omega⟩ (h_st H (by repeat (first | exact pick_head | apply pick_tail | apply pick_app)) (by simp [byteL]; omega) rfl fun u H => s_req (by decide) (s_next (by first | exact ⟨rfl, rfl⟩ | trivial) ?_))
      simp only [if_true]
      refine ⟨⟨i, ?_, by omega, H.sub (sb_eq ?_)⟩, by rw [wrap64 (by omega) (by omega)]; simp [intOf] <;> omega⟩
      · rw [wrap64 (by omega) (by omega), Nat.div_div_eq_div_mul, ← Nat.pow_succ, show (8 - (i + 1)).succ = 8 - i by omega]
        congr 3
        omega
      · rw [byteL_set _ _ _ (by omega)]
        congr 2
        refine byteL_congr fun j hj => ?_
        by_cases hji : j = 4 + i
        · subst hji
          rw [if_pos rfl, if_pos (by omega)]
          unfold dig digN
          rw [if_neg (by omega), show 8 - (i + 1) = 11 - (4 + i) by omega]
        · rw [if_neg hji]
          by_cases h : j < 4 ∨ 4 + (i + 1) ≤ j
          · rw [if_pos h, if_pos (by omega)]
          · rw [if_neg h, if_neg (by omega)]
    · simp only [decide_eq_false_iff_not] at g
      obtain rfl : i = 0 := by omega
      have hall : byteL (fun j => if j < 4 ∨ 4 + 0 ≤ j then dig k j else 0) = bytesK k := byteL_congr fun j hj => by rw [if_pos (by omega)]
      rw [hall] at H
      have H : Has w W (cl r4 27 [.int .u8 (dig k 0), .int .u8 (dig k 1), .int .u8 (dig k 2), .int .u8 (dig k 3), .int .u8 (dig k 4), .int .u8 (dig k 5), .int .u8 (dig k 6), .int .u8 (dig k 7), .int .u8 (dig k 8), .int .u8 (dig k 9), .int .u8 (dig k 10), .int .u8 (dig k 11)] :: cl r3 27 [.int .u8 0, .int .u8 0, .int .u8 0, .int .u8 0, .int .u8 0, .int .u8 0, .int .u8 0, .int .u8 0, .int .u8 0, .int .u8 0, .int .u8 0, .int .u8 0] :: cl r2 23 (kr k) :: []) := H
      iterate 12 refine h_ldI H (by repeat (first | exact pick_head | apply pick_tail | apply pick_app)) rfl ?_
      iterate 12
        refine h_st H (by repeat (first | exact pick_head | apply pick_tail | apply pick_app)) (by simp) rfl fun u H => ?_
        simp only [List.set_cons_succ, List.set_cons_zero] at H
      iterate 12 refine h_ldI H (by repeat (first | exact pick_head | apply pick_tail | apply pick_app)) rfl ?_
      exact s_ret ⟨rfl, H.base⟩
end
end Go.Proofs.Yteimilnigiagjaa
