/- Bytes back to a key; the walk of ShardBytes. -/
import Derived.Test.YteimilnigiagjaaLive
import Derived.Test.YteimilnigiagjaaTreesF
set_option linter.unusedVariables false
set_option linter.unusedSimpArgs false
set_option maxRecDepth 100000
namespace Go.Proofs.Yteimilnigiagjaa
open Go hiding Expr
open Go.RowKit Tr

def val (f : Nat → Nat) (s : Nat) : Nat → Nat
  | 0 => 0
  | n + 1 => val f s n * 256 + f (s + n)
theorem val_lt {f : Nat → Nat} (hf : ∀ j, f j < 256) (s : Nat) : ∀ n, val f s n < 256 ^ n
  | 0 => by simp [val]
  | n + 1 => by
    have := val_lt hf s n
    have h2 := hf (s + n)
    rw [val, Nat.pow_succ]
    omega
def fromK (f : Nat → Nat) : K := ⟨(val f 0 4 : Int) - 2147483648, (val f 4 8 : Int) - 9223372036854775808⟩

theorem or_low {m c : Nat} (hc : c < 256) : (m * 256) ||| c = m * 256 + c := by
  have := Nat.shiftLeft_add_eq_or_of_lt (i := 8) (a := m) (b := c) (by omega)
  rw [Nat.shiftLeft_eq] at this
  exact this.symm
theorem wrapU32 {n : Int} (h1 : 0 ≤ n) (h2 : n < 4294967296) : IntKind.wrap .u32 n = n := by
  simp only [IntKind.wrap, IntKind.min, IntKind.max, IntKind.signed, IntKind.bits]; simp; omega
theorem push32 {m c : Nat} (hm : m < 16777216) (hc : c < 256) : bitsI .or .u32 (shlI .u32 (m : Int) 8) (IntKind.wrap .u32 (c : Int)) = ((m * 256 + c : Nat) : Int) := by
  have hs : shlI .u32 (m : Int) 8 = ((m * 256 : Nat) : Int) := by
    unfold shlI
    rw [show (2 : Int) ^ (min (8 : Int).toNat IntKind.u32.bits) = 256 from by decide, wrapU32 (by omega) (by omega)]
    rw [Int.natCast_mul]; rfl
  rw [hs, wrapU32 (n := (c : Int)) (by omega) (by omega)]
  show IntKind.wrap .u32 (((BitVec.ofInt 32 ((m * 256 : Nat) : Int) ||| BitVec.ofInt 32 (c : Int)).toNat : Nat) : Int) = _
  rw [BitVec.toNat_or, BitVec.ofInt_natCast, BitVec.ofInt_natCast, BitVec.toNat_ofNat, BitVec.toNat_ofNat, Nat.mod_eq_of_lt (by omega), Nat.mod_eq_of_lt (by omega), or_low hc, wrapU32 (by omega) (by omega)]
theorem push64 {m c : Nat} (hm : m < 72057594037927936) (hc : c < 256) : bitsI .or .u64 (shlI .u64 (m : Int) 8) (IntKind.wrap .u64 (c : Int)) = ((m * 256 + c : Nat) : Int) := by
  have hs : shlI .u64 (m : Int) 8 = ((m * 256 : Nat) : Int) := by
    unfold shlI
    rw [show (2 : Int) ^ (min (8 : Int).toNat IntKind.u64.bits) = 256 from by decide, wrapU (by omega) (by omega)]
    rw [Int.natCast_mul]; rfl
  rw [hs, wrapU (n := (c : Int)) (by omega) (by omega)]
  show IntKind.wrap .u64 (((BitVec.ofInt 64 ((m * 256 : Nat) : Int) ||| BitVec.ofInt 64 (c : Int)).toNat : Nat) : Int) = _
  rw [BitVec.toNat_or, BitVec.ofInt_natCast, BitVec.ofInt_natCast, BitVec.toNat_ofNat, BitVec.toNat_ofNat, Nat.mod_eq_of_lt (by omega), Nat.mod_eq_of_lt (by omega), or_low hc, wrapU (by omega) (by omega)]
theorem back32 {T : Nat} (h : T < 4294967296) : IntKind.wrap .i32 (bitsI .xor .u32 (T : Int) 2147483648) = (T : Int) - 2147483648 := by
  have e : (BitVec.ofInt 32 (T : Int) ^^^ BitVec.ofInt 32 2147483648).toNat = if T < 2147483648 then T + 2147483648 else T - 2147483648 := by
    rw [BitVec.toNat_xor, BitVec.ofInt_natCast, BitVec.toNat_ofNat, Nat.mod_eq_of_lt (by omega), show (BitVec.ofInt 32 2147483648).toNat = 2 ^ 31 by decide]
    split
    · rw [xor_low (by omega)]; omega
    · rw [xor_high (by omega) (by omega)]
  show IntKind.wrap .i32 (IntKind.wrap .u32 (((BitVec.ofInt 32 (T : Int) ^^^ BitVec.ofInt 32 2147483648).toNat : Nat) : Int)) = _
  rw [e, wrapU32 (by omega) (by split <;> omega)]
  simp only [IntKind.wrap, IntKind.min, IntKind.max, IntKind.signed, IntKind.bits]
  simp
  split <;> omega
theorem back64 {T : Nat} (h : T < 18446744073709551616) : IntKind.wrap .i64 (bitsI .xor .u64 (T : Int) 9223372036854775808) = (T : Int) - 9223372036854775808 := by
  have e : (BitVec.ofInt 64 (T : Int) ^^^ BitVec.ofInt 64 9223372036854775808).toNat = if T < 9223372036854775808 then T + 9223372036854775808 else T - 9223372036854775808 := by
    rw [BitVec.toNat_xor, BitVec.ofInt_natCast, BitVec.toNat_ofNat, Nat.mod_eq_of_lt (by omega), show (BitVec.ofInt 64 9223372036854775808).toNat = 2 ^ 63 by decide]
    split
    · rw [xor_low (by omega)]; omega
    · rw [xor_high (by omega) (by omega)]
  show IntKind.wrap .i64 (IntKind.wrap .u64 (((BitVec.ofInt 64 (T : Int) ^^^ BitVec.ofInt 64 9223372036854775808).toNat : Nat) : Int)) = _
  rw [e, wrapU (by omega) (by split <;> omega)]
  simp only [IntKind.wrap, IntKind.min, IntKind.max, IntKind.signed, IntKind.bits]
  simp
  split <;> omega

theorem byteL_getD (f : Nat → Int) {i : Nat} (h : i < 12) (z : Value) : Array.getD ⟨byteL f⟩ i z = .int .u8 (f i) := by
  have : (byteL f)[i]? = some (.int .u8 (f i)) := by simp [byteL, h]
  simp [Array.getD_eq_getD_getElem?, this]

section
variable {w : World}
theorem from_c (f : Nat → Nat) (hf : ∀ j, f j < 256) : Calls Try.prog 13 #[.agg ⟨byteL (fun j => (f j : Int))⟩] w fun e w' => e = .returned (.agg ⟨kr (fromK f)⟩) ∧ Fr [] w w' := by
  refine c13 (f 0) (f 1) (f 2) (f 3) (f 4) (f 5) (f 6) (f 7) (f 8) (f 9) (f 10) (f 11) ?_
  refine h_new (Has.init w) fun r12 u H => ?_
  (refine h_new H fun r13 u H => ?_)
  iterate 12 refine h_ldI H (by repeat (first | exact pick_head | apply pick_tail | apply pick_app)) rfl ?_
  refine s_loop (fun vs W => ∃ i : Nat, vs = [.int .u32 (val f 0 (min i 4) : Nat), .int .u64 (val f 4 (i - 4) : Nat), .int .i64 i] ∧ i ≤ 12 ∧ u = W) (fun vs _ => 12 - (intOf (vs.getD 2 undef)).toNat) ⟨0, rfl, by omega, rfl⟩ ?_
  rintro _ j _ ⟨i, rfl, hi, rfl⟩
  refine s_asI (s_asI (s_asI (s_ite (fun g => ?_) (fun g => ?_))))
  · simp only [decide_eq_true_eq] at g
    have hlt : i < 12 := by omega
    have hget := byteL_getD (fun j => (f j : Int)) hlt (Value.tuple (Array.mk []))
    have hfi := hf i
    refine s_req ⟨by omega, g, by simpa using hlt⟩ ?_
    simp only [Int.toNat_natCast]
    refine Eq.mpr (congrArg (fun v => (T.asI .u8 v _).sem Try.prog _ _ _) hget) (s_asI ?_)
    refine s_ite (fun g2 => s_req (by decide) (s_next (by first | exact ⟨rfl, rfl⟩ | trivial) ?_)) (fun g2 => s_req (by decide) (s_next (by first | exact ⟨rfl, rfl⟩ | trivial) ?_))
    · simp only [decide_eq_true_eq] at g2
      have hv := val_lt hf 0 i
      have hv2 : 256 ^ i ≤ 256 ^ 3 := Nat.pow_le_pow_right (by omega) (by omega)
      simp only [if_true]
      refine ⟨⟨i + 1, ?_, by omega, trivial⟩, by rw [w_succ (by omega)]; simp [intOf] <;> omega⟩
      rw [show min i 4 = i by omega, show min (i + 1) 4 = i + 1 by omega, show i - 4 = 0 by omega, show i + 1 - 4 = 0 by omega, push32 (by omega) hfi, w_succ (by omega), show val f 0 (i + 1) = val f 0 i * 256 + f (0 + i) from rfl, Nat.zero_add]
    · simp only [decide_eq_false_iff_not] at g2
      have hv := val_lt hf 4 (i - 4)
      have hv2 : 256 ^ (i - 4) ≤ 256 ^ 7 := Nat.pow_le_pow_right (by omega) (by omega)
      simp only [if_true]
      refine ⟨⟨i + 1, ?_, by omega, trivial⟩, by rw [w_succ (by omega)]; simp [intOf] <;> omega⟩
      rw [show min i 4 = 4 by omega, show min (i + 1) 4 = 4 by omega, show i + 1 - 4 = i - 4 + 1 by omega, push64 (by omega) hfi, w_succ (by omega), show val f 4 (i - 4 + 1) = val f 4 (i - 4) * 256 + f (4 + (i - 4)) from rfl, show 4 + (i - 4) = i by omega]
  · simp only [decide_eq_false_iff_not] at g
    obtain rfl : i = 12 := by omega
    have h1 := val_lt hf 0 4
    have h2 := val_lt hf 4 8
    rw [show min 12 4 = 4 by omega, show 12 - 4 = 8 by omega, back32 (by omega), back64 (by omega)]
    (repeat (first | refine s_asI ?_ | refine s_asS ?_ | refine s_asP ?_ | refine s_asB ?_ | refine s_asA ?_ | refine s_asT ?_ | refine s_asM ?_ | refine s_asU ?_ | refine s_asC ?_ | refine s_sm ?_ | refine s_req (by first | rfl | exact ⟨rfl, rfl⟩) ?_ | refine h_ldI H (by repeat (first | exact pick_head | apply pick_tail | apply pick_app)) (by first | rfl | (simp; done)) ?_ | refine h_ldB H (by repeat (first | exact pick_head | apply pick_tail | apply pick_app)) (by first | rfl | (simp; done)) ?_ | refine h_ldP H (by repeat (first | exact pick_head | apply pick_tail | apply pick_app)) (by first | rfl | (simp; done)) ?_ | refine h_ldS H (by repeat (first | exact pick_head | apply pick_tail | apply pick_app)) (by first | rfl | (simp; done)) ?_ | refine h_ldM H (by repeat (first | exact pick_head | apply pick_tail | apply pick_app)) (by first | rfl | (simp; done)) ?_ | refine h_ldT H (by repeat (first | exact pick_head | apply pick_tail | apply pick_app)) (by first | rfl | (simp; done)) ?_ | refine h_ldV H (by repeat (first | exact pick_head | apply pick_tail | apply pick_app)) (by first | rfl | (simp; done)) ?_ | (refine h_new H fun _ u H => ?_) | (refine h_st H (by repeat (first | exact pick_head | apply pick_tail | apply pick_app)) (by first | (simp; done) | exact Nat.le_of_ble_eq_true rfl) rfl fun u H => ?_) | (refine h_drew H fun u H => ?_) | refine s_chk c_nil ?_))
    exact s_ret ⟨rfl, H.base⟩
end

theorem digN_lt (T R j : Nat) : digN T R j < 256 := by unfold digN; split <;> exact Nat.mod_lt _ (by omega)
theorem from_bytes (k : K) (hk : k.In) : fromK (digN k.T k.R) = k := by
  obtain ⟨t0, t1, r0, r1⟩ := hk
  have hT : k.T < 4294967296 := by unfold K.T; omega
  have hR : k.R < 18446744073709551616 := by unfold K.R; omega
  have h1 : val (digN k.T k.R) 0 4 = k.T := by simp [val, digN]; omega
  have h2 : val (digN k.T k.R) 4 8 = k.R := by simp [val, digN]; omega
  refine K.ext' ?_ ?_
  · show ((val (digN k.T k.R) 0 4 : Nat) : Int) - 2147483648 = k.t
    rw [h1]; unfold K.T; omega
  · show ((val (digN k.T k.R) 4 8 : Nat) : Int) - 9223372036854775808 = k.r
    rw [h2]; unfold K.R; omega
theorem fromK_in {f : Nat → Nat} (hf : ∀ j, f j < 256) : (fromK f).In := by
  have h1 := val_lt hf 0 4
  have h2 := val_lt hf 4 8
  exact ⟨by simp only [fromK]; omega, by simp only [fromK]; omega, by simp only [fromK]; omega, by simp only [fromK]; omega⟩
theorem bytes_from {f : Nat → Nat} (hf : ∀ j, f j < 256) (j : Nat) (hj : j < 12) : dig (fromK f) j = (f j : Int) := by
  have hT : (fromK f).T = val f 0 4 := by unfold K.T fromK; simp only; omega
  have hR : (fromK f).R = val f 4 8 := by unfold K.R fromK; simp only; omega
  unfold dig
  rw [hT, hR]
  have h := fun j => hf j
  have h0 := hf 0; have h1 := hf 1; have h2 := hf 2; have h3 := hf 3; have h4 := hf 4; have h5 := hf 5; have h6 := hf 6; have h7 := hf 7; have h8 := hf 8; have h9 := hf 9; have h10 := hf 10; have h11 := hf 11
  have hc : j = 0 ∨ j = 1 ∨ j = 2 ∨ j = 3 ∨ j = 4 ∨ j = 5 ∨ j = 6 ∨ j = 7 ∨ j = 8 ∨ j = 9 ∨ j = 10 ∨ j = 11 := by omega
  rcases hc with rfl | rfl | rfl | rfl | rfl | rfl | rfl | rfl | rfl | rfl | rfl | rfl <;> simp [digN, val] <;> omega

/-! ### The order of bytes -/
theorem dig_lex {a b : K} (ha : a.In) (hb : b.In) {i : Nat} (hi : i < 12) (heq : ∀ j, j < i → digN a.T a.R j = digN b.T b.R j) (hlt : digN a.T a.R i < digN b.T b.R i) : cmpK a b = -1 := by
  obtain ⟨a1, a2, a3, a4⟩ := ha
  obtain ⟨b1, b2, b3, b4⟩ := hb
  have hTa : a.T < 4294967296 ∧ (a.T : Int) = a.t + 2147483648 := by unfold K.T; omega
  have hTb : b.T < 4294967296 ∧ (b.T : Int) = b.t + 2147483648 := by unfold K.T; omega
  have hRa : a.R < 18446744073709551616 ∧ (a.R : Int) = a.r + 9223372036854775808 := by unfold K.R; omega
  have hRb : b.R < 18446744073709551616 ∧ (b.R : Int) = b.r + 9223372036854775808 := by unfold K.R; omega
  have key : a.T < b.T ∨ (a.T = b.T ∧ a.R < b.R) := by
    generalize a.T = A at *
    generalize b.T = B at *
    generalize a.R = C at *
    generalize b.R = D at *
    have h0 := heq 0; have h1 := heq 1; have h2 := heq 2; have h3 := heq 3; have h4 := heq 4; have h5 := heq 5; have h6 := heq 6; have h7 := heq 7; have h8 := heq 8; have h9 := heq 9; have h10 := heq 10
    have hc : i = 0 ∨ i = 1 ∨ i = 2 ∨ i = 3 ∨ i = 4 ∨ i = 5 ∨ i = 6 ∨ i = 7 ∨ i = 8 ∨ i = 9 ∨ i = 10 ∨ i = 11 := by omega
    clear heq
    rcases hc with rfl | rfl | rfl | rfl | rfl | rfl | rfl | rfl | rfl | rfl | rfl | rfl <;> simp [digN] at h0 h1 h2 h3 h4 h5 h6 h7 h8 h9 h10 hlt <;> omega
  unfold cmpK cmpI
  (repeat' split) <;> omega
theorem dig_all {a b : K} (ha : a.In) (hb : b.In) (heq : ∀ j, j < 12 → digN a.T a.R j = digN b.T b.R j) : a = b := by
  rw [← from_bytes a ha, ← from_bytes b hb]
  have h : ∀ j, digN a.T a.R j = digN b.T b.R j ∨ 12 ≤ j := fun j => by
    by_cases hj : j < 12
    · exact .inl (heq j hj)
    · exact .inr (by omega)
  have v1 : val (digN a.T a.R) 0 4 = val (digN b.T b.R) 0 4 := by
    simp only [val, Nat.zero_add]
    rw [heq 0 (by omega), heq 1 (by omega), heq 2 (by omega), heq 3 (by omega)]
  have v2 : val (digN a.T a.R) 4 8 = val (digN b.T b.R) 4 8 := by
    simp only [val, Nat.add_zero, Nat.reduceAdd]
    rw [heq 4 (by omega), heq 5 (by omega), heq 6 (by omega), heq 7 (by omega), heq 8 (by omega), heq 9 (by omega), heq 10 (by omega), heq 11 (by omega)]
  unfold fromK
  rw [v1, v2]

end Go.Proofs.Yteimilnigiagjaa
