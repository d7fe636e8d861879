/- slices.SortFunc at keys, second part: the patterns, partial insertion, the partitions. -/
import Derived.Test.YtpjcfnnnciknmaaSortA
set_option linter.unusedVariables false
set_option linter.unusedSimpArgs false
set_option maxRecDepth 100000
namespace Go.Proofs.Ytpjcfnnnciknmaa
open Go hiding Expr
open Go.RowKit Tr
open Go.Sort (scanUp scanDown partLoop partition partEqLoop partitionEqual scanSorted shiftDown shiftUp partialIns partialInsertionSort fixUp fixDown swp PermIn SortedIn Below)

/-! ### bits.Len64 -/
theorem shr_nat (n : Nat) (y : Int) (k : Nat) (hy : y = (k : Int)) (hk : k ≤ 64) : shrI .u64 (n : Int) y = ((n / 2 ^ k : Nat) : Int) := by
  subst hy
  unfold shrI
  rw [show min (k : Int).toNat IntKind.u64.bits = k from by simp [IntKind.bits]; omega, show ((2 : Int) ^ k) = ((2 ^ k : Nat) : Int) by simp, Int.fdiv_eq_ediv_of_nonneg _ (Int.natCast_nonneg _)]
  rfl
theorem wrap8 {n : Int} (h1 : 0 ≤ n) (h2 : n < 256) : IntKind.wrap .u8 n = n := by
  simp only [IntKind.wrap, IntKind.min, IntKind.max, IntKind.signed, IntKind.bits]; simp; omega
theorem wrapU {n : Int} (h1 : 0 ≤ n) (h2 : n < 18446744073709551616) : IntKind.wrap .u64 n = n := by
  simp only [IntKind.wrap, IntKind.min, IntKind.max, IntKind.signed, IntKind.bits]; simp; omega
def lenOk (n x : Nat) : Prop := 2 ^ x ≤ 2 * n ∧ n < 2 ^ x
theorem len_up {n q k y : Nat} (hq : q = n / 2 ^ k) (h : lenOk q y) : lenOk n (k + y) := by
  obtain ⟨h1, h2⟩ := h
  have hp : 0 < 2 ^ k := Nat.two_pow_pos k
  unfold lenOk
  rw [Nat.pow_add]
  have h3 : 2 ^ k * q ≤ n := by rw [hq]; exact Nat.mul_div_le n _
  have h4 : n < 2 ^ k * (q + 1) := by rw [hq]; exact Nat.lt_mul_div_succ n hp
  constructor
  · have := Nat.mul_le_mul_left (2 ^ k) h1
    rw [show 2 ^ k * (2 * q) = 2 * (2 ^ k * q) by rw [Nat.mul_left_comm]] at this
    omega
  · have := Nat.mul_le_mul_left (2 ^ k) (show q + 1 ≤ 2 ^ y by omega)
    omega
def tabOk (tab : Array UInt8) : Prop := ∀ q : Fin 256, 0 < q.val → UInt8.toNat (tab.getD q.val 0) ≤ 8 ∧ 2 ^ UInt8.toNat (tab.getD q.val 0) ≤ 2 * q.val ∧ q.val < 2 ^ UInt8.toNat (tab.getD q.val 0)

section
variable {Q : Ending → World → Prop} {ρ : Lv} {w : World}
theorem len_leaf {tab : Array UInt8} (ht : tabOk tab) {x kk : Int} {n q k : Nat} (hx : x = (q : Int)) (hk : kk = (k : Int)) (hk2 : k ≤ 56) (h0 : 0 < q) (h : q < 256) (hq : q = n / 2 ^ k) (hn : n < 2 ^ 62)
    (hr : ∀ z : Nat, z ≤ 63 → lenOk n z → Q (.returned (.int .i64 z)) w) :
    (T.req (0 ≤ IntKind.wrap .u8 x ∧ IntKind.wrap .u8 x < 256) (T.ret (.int .i64 (IntKind.wrap .i64 (kk + IntKind.wrap .i64 ((UInt8.toNat (tab.getD (Int.toNat (IntKind.wrap .u8 x)) (OfNat.ofNat 0)) : Nat) : Int)))))).sem Try.prog Q ρ w := by
  subst hx hk
  rw [wrap8 (by omega) (by omega), Int.toNat_natCast]
  refine s_req (by omega) (s_ret ?_)
  obtain ⟨t1, t2, t3⟩ := ht ⟨q, h⟩ h0
  simp only at t1 t2 t3
  have hl := len_up hq ⟨t2, t3⟩
  generalize UInt8.toNat (tab.getD q (OfNat.ofNat 0)) = y at *
  rw [wrap64 (n := (y : Int)) (by omega) (by omega), wrap64 (by omega) (by omega)]
  have hlt : 2 ^ (k + y) < 2 ^ 63 := by
    have := hl.1
    omega
  have := (Nat.pow_lt_pow_iff_right (by omega)).1 hlt
  exact hr (k + y) (by omega) hl
end

section
variable {w : World}
theorem len64_c (n : Nat) (h0 : 0 < n) (hn : n < 2 ^ 62) : Calls Try.prog 69 #[.int .u64 n] w fun e w' => ∃ z : Nat, e = .returned (.int .i64 z) ∧ z ≤ 63 ∧ lenOk n z ∧ w = w' := by
  apply c69
  unfold t69
  have e32 : shrI .u64 (n : Int) 32 = ((n / 4294967296 : Nat) : Int) := shr_nat n 32 32 rfl (by decide)
  have e3216 : shrI .u64 ((n / 4294967296 : Nat) : Int) 16 = ((n / 281474976710656 : Nat) : Int) := by rw [shr_nat _ 16 16 rfl (by decide), Nat.div_div_eq_div_mul]
  have e32168 : shrI .u64 ((n / 281474976710656 : Nat) : Int) 8 = ((n / 72057594037927936 : Nat) : Int) := by rw [shr_nat _ 8 8 rfl (by decide), Nat.div_div_eq_div_mul]
  have e328 : shrI .u64 ((n / 4294967296 : Nat) : Int) 8 = ((n / 1099511627776 : Nat) : Int) := by rw [shr_nat _ 8 8 rfl (by decide), Nat.div_div_eq_div_mul]
  have e16 : shrI .u64 (n : Int) 16 = ((n / 65536 : Nat) : Int) := shr_nat n 16 16 rfl (by decide)
  have e168 : shrI .u64 ((n / 65536 : Nat) : Int) 8 = ((n / 16777216 : Nat) : Int) := by rw [shr_nat _ 8 8 rfl (by decide), Nat.div_div_eq_div_mul]
  have e8 : shrI .u64 (n : Int) 8 = ((n / 256 : Nat) : Int) := shr_nat n 8 8 rfl (by decide)
  rw [e32, e3216, e32168, e328, e16, e168, e8]
  have fin : ∀ z : Nat, z ≤ 63 → lenOk n z → ∃ z' : Nat, Ending.returned (.int .i64 (z : Int)) = Ending.returned (.int .i64 (z' : Int)) ∧ z' ≤ 63 ∧ lenOk n z' ∧ w = w := fun z h1 h2 => ⟨z, rfl, h1, h2, rfl⟩
  refine s_ite (fun g1 => s_req (by decide) (s_ite (fun g2 => s_req (by decide) (s_ite (fun g3 => s_req (by decide) ?_) (fun g3 => ?_))) (fun g2 => s_ite (fun g3 => s_req (by decide) ?_) (fun g3 => ?_))))
    (fun g1 => s_ite (fun g2 => s_req (by decide) (s_ite (fun g3 => s_req (by decide) ?_) (fun g3 => ?_))) (fun g2 => s_ite (fun g3 => s_req (by decide) ?_) (fun g3 => ?_)))
  all_goals simp only [decide_eq_true_eq, decide_eq_false_iff_not] at g1 g2 g3
  · exact len_leaf (k := 56) (by unfold tabOk; decide +kernel) rfl rfl (by omega) (by omega) (by omega) rfl hn fin
  · exact len_leaf (k := 48) (by unfold tabOk; decide +kernel) rfl rfl (by omega) (by omega) (by omega) rfl hn fin
  · exact len_leaf (k := 40) (by unfold tabOk; decide +kernel) rfl rfl (by omega) (by omega) (by omega) rfl hn fin
  · exact len_leaf (k := 32) (by unfold tabOk; decide +kernel) rfl rfl (by omega) (by omega) (by omega) rfl hn fin
  · exact len_leaf (k := 24) (by unfold tabOk; decide +kernel) rfl rfl (by omega) (by omega) (by omega) rfl hn fin
  · exact len_leaf (k := 16) (by unfold tabOk; decide +kernel) rfl rfl (by omega) (by omega) (by omega) rfl hn fin
  · exact len_leaf (k := 8) (by unfold tabOk; decide +kernel) rfl rfl (by omega) (by omega) (by omega) rfl hn fin
  · exact len_leaf (k := 0) (by unfold tabOk; decide +kernel) rfl rfl (by omega) (by omega) (by omega) (by simp) hn fin

theorem len_c (n : Nat) (h0 : 0 < n) (hn : n < 2 ^ 62) : Calls Try.prog 43 #[.int .u64 n] w fun e w' => ∃ z : Nat, e = .returned (.int .i64 z) ∧ z ≤ 63 ∧ lenOk n z ∧ w = w' := by
  apply c43
  refine s_call (len64_c n h0 hn) ?_
  rintro _ _ ⟨z, rfl, h1, h2, rfl⟩
  exact ⟨_, rfl, s_asI (s_ret ⟨z, rfl, h1, h2, rfl⟩)⟩

theorem np2_c (n : Nat) (h0 : 0 < n) (hn : n < 2 ^ 61) : Calls Try.prog 79 #[.int .i64 n] w fun e w' => ∃ m : Nat, e = .returned (.int .u64 m) ∧ 0 < m ∧ m ≤ 2 * n ∧ w = w' := by
  apply c79
  unfold t79
  rw [wrapU (by omega) (by omega)]
  refine s_call (len_c n h0 (by omega)) ?_
  rintro _ _ ⟨z, rfl, h1, h2, rfl⟩
  have h3 : 2 ^ z ≤ 2 * n := h2.1
  have hp : 0 < 2 ^ z := Nat.two_pow_pos z
  have he : shlI .u64 1 (z : Int) = IntKind.wrap .u64 ((2 ^ z : Nat) : Int) := by
    unfold shlI
    rw [Int.toNat_natCast, show min z IntKind.u64.bits = z from by simp [IntKind.bits]; omega, Int.one_mul, show ((2 : Int) ^ z) = ((2 ^ z : Nat) : Int) by simp]
  refine ⟨_, rfl, s_asI (s_req (by omega) ?_)⟩
  rw [he]
  generalize 2 ^ z = m at h3 hp ⊢
  rw [wrapU (by omega) (by omega)]
  exact s_ret ⟨m, rfl, hp, h3, rfl⟩

theorem xor_c {s : Nat} {ty : TypeId} {r : Int} (h : Cells w s ty [.int .u64 r]) : Calls Try.prog 80 #[.pointer (some ⟨s, 0, none⟩)] w fun e w' => ∃ r', e = .returned (.int .u64 r') ∧ Fr [s] w w' ∧ Cells w' s ty [.int .u64 r'] := by
  apply c80
  refine s_drew fun w1 _ f1 => ?_
  have h := f1.cells h (by simp)
  refine s_ldI h rfl (s_ldI h rfl (s_req (by decide) (s_st h (by simp) rfl fun w2 _ f2 h => s_chk c_nil (s_drew fun w3 _ f3 => ?_))))
  have h := f3.cells h (by simp)
  refine s_ldI h rfl (s_ldI h rfl (s_req (by decide) (s_st h (by simp) rfl fun w4 _ f4 h => s_chk c_nil (s_drew fun w5 _ f5 => ?_))))
  have h := f5.cells h (by simp)
  refine s_ldI h rfl (s_ldI h rfl (s_req (by decide) (s_st h (by simp) rfl fun w6 _ f6 h => s_chk c_nil (s_ldI h rfl (s_ret ⟨_, rfl, ?_, h⟩)))))
  exact ((((f1.nil.trans f2).trans f3.nil).trans f4).trans f5.nil).trans f6

theorem and_le (r : Int) {m : Nat} (h : m < 4611686018427387904) : ∃ o : Nat, bitsI .and .u64 r (m : Int) = (o : Int) ∧ o ≤ m := by
  refine ⟨(BitVec.ofInt 64 r &&& BitVec.ofInt 64 (m : Int)).toNat, ?_, ?_⟩
  · have : (BitVec.ofInt 64 r &&& BitVec.ofInt 64 (m : Int)).toNat < 2 ^ 64 := BitVec.isLt _
    unfold bitsI
    simp only [IntKind.bits]
    exact wrapU (by omega) (by omega)
  · rw [BitVec.toNat_and]
    refine Nat.le_trans Nat.and_le_right ?_
    rw [BitVec.ofInt_natCast, BitVec.toNat_ofNat]
    exact Nat.mod_le _ _
end

section
variable {w : World} {g cap L : Nat} {ty : TypeId} {d : Array K} {sp : List Value}

theorem brk_c (h : Cells w g ty (KA d sp)) (hL : L = d.size) {a b : Nat} (hab : a ≤ b) (hb : b ≤ d.size) (hsz : d.size < many) :
    Calls Try.prog 94 #[.slice (some ⟨g, 0, none⟩) L cap, .int .i64 a, .int .i64 b, .func (.func 41) #[] #[]] w fun e w' =>
      ∃ d', (∃ v, e = .returned v) ∧ PermIn a b d d' ∧ Fr [g] w w' ∧ Cells w' g ty (KA d' sp) := by
  apply c94
  simp only [many] at hsz
  have wn : IntKind.wrap .i64 ((b : Int) - (a : Int)) = ((b - a : Nat) : Int) := w_sub (by omega) (by omega)
  have w4 : IntKind.wrap .i64 (IntKind.wrap .i64 (Int.tdiv ((b - a : Nat) : Int) 4) * 2) = (((b - a) / 4 * 2 : Nat) : Int) := by
    rw [show Int.tdiv ((b - a : Nat) : Int) 4 = (((b - a) / 4 : Nat) : Int) from rfl, wrap64 (n := (((b - a) / 4 : Nat) : Int)) (by omega) (by omega), wrap64 (by omega) (by omega)]
    omega
  unfold t94
  rw [wn, w4, w_add (by omega)]
  refine s_ite (fun g1 => ?_) (fun g1 => s_ret ⟨d, ⟨_, rfl⟩, Sort.permIn_refl d a b, Fr.refl _ _, h⟩)
  simp only [decide_eq_true_eq] at g1
  rw [wrapU (by omega) (by omega), w_pred (by omega) (by omega), w_succ (by omega)]
  refine s_new fun s w1 hr hz f1 hs => ?_
  have hgs : s ≠ g := by have := h.lt; omega
  have h := f1.cells h (by simp)
  refine s_st hs (by simp) rfl fun w2 z2 f2 hs => ?_
  have h := f2.cells h (by simp; omega)
  refine s_call (np2_c (b - a) (by omega) (by omega)) ?_
  rintro _ _ ⟨m, rfl, hm0, hm, rfl⟩
  refine ⟨_, rfl, s_asI (s_req (by decide) ?_)⟩
  have hf2 : Fr [g] w w2 := (f1.nil (G := [g])).trans' f2 (fun x hx => by simp at hx; exact .inr (by omega))
  refine s_loop (fun vs W => ∃ (i : Nat) (d' : Array K) (r : Int), vs = [.int .i64 i] ∧ a + (b - a) / 4 * 2 - 1 ≤ i ∧ i ≤ a + (b - a) / 4 * 2 + 2 ∧ PermIn a b d d' ∧ Fr [g] w W ∧ w2.heap.size ≤ W.heap.size ∧ Cells W g ty (KA d' sp) ∧ Cells W s 132 [.int .u64 r])
    (fun vs _ => b - (intOf (vs.getD 0 undef)).toNat) ⟨a + (b - a) / 4 * 2 - 1, d, _, rfl, by omega, by omega, Sort.permIn_refl d a b, hf2, Nat.le_refl _, h, hs⟩ ?_
  rintro _ j W ⟨i, d1, r, rfl, hi1, hi2, hp, hf, hsize, h1, hs1⟩
  have hs1z : d1.size = d.size := hp.1
  refine s_asI (s_req (by decide) (s_ite (fun g2 => ?_) (fun g2 => s_ret ⟨d1, ⟨_, rfl⟩, hp, hf, h1⟩)))
  simp only [decide_eq_true_eq] at g2
  refine s_call (xor_c hs1) ?_
  rintro _ w3 ⟨r', rfl, f3, hs3⟩
  have h3 := f3.cells h1 (by simp; omega)
  have hf3 : Fr [g] w w3 := hf.trans' f3 (fun x hx => by simp at hx; exact .inr (by omega))
  obtain ⟨o, ho, hom⟩ := and_le r' (m := m - 1) (by omega)
  have hm1 : IntKind.wrap .u64 ((m : Int) - 1) = ((m - 1 : Nat) : Int) := by rw [wrapU (by omega) (by omega)]; omega
  refine ⟨_, rfl, s_asI ?_⟩
  rw [hm1, ho, wrap64 (n := (o : Int)) (by omega) (by omega)]
  refine s_blk (fun vs W' => w3 = W' ∧ ∃ c : Nat, vs = [.int .i64 c] ∧ c < b - a) ?_ ?_
  · rintro _ j2 _ ⟨rfl, c, rfl, hc⟩
    refine s_asI (s_drew fun w4 _ f4 => swapAt (i := a + c) (j := i) (f4.cells h3 (by simp)) (by omega) (w_add (by omega)) rfl (by omega) (by omega) fun w5 f5 h5 => s_next (by first | exact ⟨rfl, rfl⟩ | trivial) ?_)
    simp only [if_true]
    refine ⟨⟨i + 1, _, r', by rw [w_succ (by omega)], by omega, by omega, Sort.permIn_trans _ _ _ a b hp (Sort.swp_permIn d1 a b i (a + c) (by omega) (by omega) (by omega) (by omega) (by omega)), (hf3.trans f4.nil).trans f5, ?_, h5, f5.cells (f4.cells hs3 (by simp)) (by simp; omega)⟩, by rw [w_succ (by omega)]; simp [intOf] <;> omega⟩
    have := f3.size; have := f4.size; have := f5.size
    omega
  · refine s_ite (fun g3 => s_next (by first | exact ⟨rfl, rfl⟩ | trivial) ?_) (fun g3 => s_next (by first | exact ⟨rfl, rfl⟩ | trivial) ?_)
    · simp only [decide_eq_true_eq] at g3
      simp only [if_true]
      exact ⟨trivial, o - (b - a), by rw [w_sub (by omega) (by omega)], by omega⟩
    · simp only [decide_eq_false_iff_not] at g3
      simp only [if_true]
      exact ⟨trivial, o, rfl, by omega⟩
end

/-! ### A scan -/
section
variable {Q : Ending → World → Prop} {ρ : Lv} {w : World} {g L : Nat} {ty : TypeId} {d : Array K} {sp : List Value}
variable {lv tgt : Nat} {x0 xa : Int} {gd tst : Int → Bool} {nx : Int → Int} {a : Nat} {c1 c2 c3 : Int → Prop}
theorem scan_ia (h : Cells w g ty (KA d sp)) (hL : L = d.size) (hxa : xa = (a : Int)) (ha : a < d.size) (I : Nat → Prop) (m : Nat → Nat) (h0 : ∃ i0 : Nat, x0 = (i0 : Int) ∧ I i0)
    (hstep : ∀ i : Nat, I i → gd i = true → i < d.size ∧ (tst (cmpK d[i]! d[a]!) = true → ∃ i' : Nat, nx i = (i' : Int) ∧ I i' ∧ m i' < m i))
    (hend : ∀ (i : Nat) (W : World), I i → (gd i = true → tst (cmpK d[i]! d[a]!) = false) → Fr [] w W → Cells W g ty (KA d sp) → ρ tgt [.int .i64 i] W)
    (hne : tgt ≠ lv) (hc1 : ∀ i, c1 i) (hc2 : ∀ i, c2 i) (hc3 : ∀ i, c3 i) :
    (T.loop lv [.int .i64 x0] fun l j => T.asI .i64 (List.headD l (Value.tuple (Array.mk []))) fun i => T.drew (T.ite (gd i)
      (T.req (0 ≤ i ∧ i < ((L : Nat) : Int)) (T.sm (some ⟨g, 0, none⟩) fun n6 n7 => T.ldI .i32 n6 (n7 + Int.toNat i * 2) fun p => T.ldI .i64 n6 (n7 + Int.toNat i * 2 + 1) fun q =>
        T.req (0 ≤ xa ∧ xa < ((L : Nat) : Int)) (T.sm (some ⟨g, 0, none⟩) fun n8 n9 => T.ldI .i32 n8 (n9 + Int.toNat xa * 2) fun r => T.ldI .i64 n8 (n9 + Int.toNat xa * 2 + 1) fun s =>
          T.call 41 [.agg ⟨[.int .i32 p, .int .i64 q]⟩, .agg ⟨[.int .i32 r, .int .i64 s]⟩] fun v => T.asI .i64 v fun c => T.chk [] (T.ite (tst c) (T.next lv [.int .i64 (nx i)] (c1 i)) (T.next tgt [.int .i64 i] (c2 i))))))
      (T.chk [] (T.next tgt [.int .i64 i] (c3 i))))).sem Try.prog Q ρ w := by
  subst hxa
  obtain ⟨i0, rfl, hi0⟩ := h0
  refine s_loop (fun vs W => ∃ i : Nat, vs = [.int .i64 i] ∧ I i ∧ Fr [] w W ∧ Cells W g ty (KA d sp)) (fun vs _ => m (intOf (vs.getD 0 undef)).toNat) ⟨i0, rfl, hi0, Fr.refl _ _, h⟩ ?_
  rintro _ j W ⟨i, rfl, hi, hf, h1⟩
  refine s_asI (s_drew fun W2 _ f2 => s_ite (fun g1 => ?_) (fun g1 => s_chk c_nil (s_next (hc3 i) ?_)))
  · obtain ⟨hlt, hgo⟩ := hstep i hi g1
    refine cmpAt (f2.cells h1 (by simp)) hL rfl rfl hlt ha fun W3 f3 h3 => s_chk c_nil (s_ite (fun g2 => s_next (hc1 i) ?_) (fun g2 => s_next (hc2 i) ?_))
    · obtain ⟨i', he, hi', hm⟩ := hgo g2
      simp only [if_true]
      exact ⟨⟨i', by rw [he], hi', (hf.trans f2).trans f3, h3⟩, by rw [he]; simpa [intOf] using hm⟩
    · rw [if_neg hne]
      exact hend i W3 hi (fun _ => g2) ((hf.trans f2).trans f3) h3
  · rw [if_neg hne]
    exact hend i W2 hi (fun hg => by rw [hg] at g1; cases g1) (hf.trans f2) (f2.cells h1 (by simp))
theorem scan_ai (h : Cells w g ty (KA d sp)) (hL : L = d.size) (hxa : xa = (a : Int)) (ha : a < d.size) (I : Nat → Prop) (m : Nat → Nat) (h0 : ∃ i0 : Nat, x0 = (i0 : Int) ∧ I i0)
    (hstep : ∀ i : Nat, I i → gd i = true → i < d.size ∧ (tst (cmpK d[a]! d[i]!) = true → ∃ i' : Nat, nx i = (i' : Int) ∧ I i' ∧ m i' < m i))
    (hend : ∀ (i : Nat) (W : World), I i → (gd i = true → tst (cmpK d[a]! d[i]!) = false) → Fr [] w W → Cells W g ty (KA d sp) → ρ tgt [.int .i64 i] W)
    (hne : tgt ≠ lv) (hc1 : ∀ i, c1 i) (hc2 : ∀ i, c2 i) (hc3 : ∀ i, c3 i) :
    (T.loop lv [.int .i64 x0] fun l j => T.asI .i64 (List.headD l (Value.tuple (Array.mk []))) fun i => T.drew (T.ite (gd i)
      (T.req (0 ≤ xa ∧ xa < ((L : Nat) : Int)) (T.sm (some ⟨g, 0, none⟩) fun n8 n9 => T.ldI .i32 n8 (n9 + Int.toNat xa * 2) fun r => T.ldI .i64 n8 (n9 + Int.toNat xa * 2 + 1) fun s =>
        T.req (0 ≤ i ∧ i < ((L : Nat) : Int)) (T.sm (some ⟨g, 0, none⟩) fun n6 n7 => T.ldI .i32 n6 (n7 + Int.toNat i * 2) fun p => T.ldI .i64 n6 (n7 + Int.toNat i * 2 + 1) fun q =>
          T.call 41 [.agg ⟨[.int .i32 r, .int .i64 s]⟩, .agg ⟨[.int .i32 p, .int .i64 q]⟩] fun v => T.asI .i64 v fun c => T.chk [] (T.ite (tst c) (T.next lv [.int .i64 (nx i)] (c1 i)) (T.next tgt [.int .i64 i] (c2 i))))))
      (T.chk [] (T.next tgt [.int .i64 i] (c3 i))))).sem Try.prog Q ρ w := by
  subst hxa
  obtain ⟨i0, rfl, hi0⟩ := h0
  refine s_loop (fun vs W => ∃ i : Nat, vs = [.int .i64 i] ∧ I i ∧ Fr [] w W ∧ Cells W g ty (KA d sp)) (fun vs _ => m (intOf (vs.getD 0 undef)).toNat) ⟨i0, rfl, hi0, Fr.refl _ _, h⟩ ?_
  rintro _ j W ⟨i, rfl, hi, hf, h1⟩
  refine s_asI (s_drew fun W2 _ f2 => s_ite (fun g1 => ?_) (fun g1 => s_chk c_nil (s_next (hc3 i) ?_)))
  · obtain ⟨hlt, hgo⟩ := hstep i hi g1
    refine cmpAt (f2.cells h1 (by simp)) hL rfl rfl ha hlt fun W3 f3 h3 => s_chk c_nil (s_ite (fun g2 => s_next (hc1 i) ?_) (fun g2 => s_next (hc2 i) ?_))
    · obtain ⟨i', he, hi', hm⟩ := hgo g2
      simp only [if_true]
      exact ⟨⟨i', by rw [he], hi', (hf.trans f2).trans f3, h3⟩, by rw [he]; simpa [intOf] using hm⟩
    · rw [if_neg hne]
      exact hend i W3 hi (fun _ => g2) ((hf.trans f2).trans f3) h3
  · rw [if_neg hne]
    exact hend i W2 hi (fun hg => by rw [hg] at g1; cases g1) (hf.trans f2) (f2.cells h1 (by simp))
end
end Go.Proofs.Ytpjcfnnnciknmaa
