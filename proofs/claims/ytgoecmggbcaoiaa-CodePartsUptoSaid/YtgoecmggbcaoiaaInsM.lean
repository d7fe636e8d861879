/- What fits, an instruction's bytes, the bytes of a list of instructions: the program and the reference. -/
import Derived.Test.YtgoecmggbcaoiaaCodeM
set_option linter.unusedVariables false
set_option linter.unusedSimpArgs false
set_option maxRecDepth 100000
set_option maxHeartbeats 4000000
namespace Go.Proofs.Ytgoecmggbcaoiaa
open Go hiding Expr
open Go.RowKit Tr

theorem wrap_u8 (n : Int) : IntKind.wrap .u8 n = byt n := by
  simp [IntKind.wrap, IntKind.min, IntKind.max, IntKind.signed, IntKind.bits, byt]
theorem shr8 (n : Int) : shrI .i64 n 8 = n / 256 := by
  unfold shrI
  rw [show (2 : Int) ^ (min (8 : Int).toNat IntKind.i64.bits) = 256 by decide]
  rw [Int.fdiv_eq_ediv_of_nonneg _ (by decide)]
theorem shr0 (n : Int) : shrI .i64 n 0 = n := by
  unfold shrI
  rw [show (2 : Int) ^ (min (0 : Int).toNat IntKind.i64.bits) = 1 by decide]
  rw [Int.fdiv_eq_ediv_of_nonneg _ (by decide)]
  simp
theorem wrap_i16 (n : Int) : IntKind.wrap .i16 n = (n + 32768) % 65536 - 32768 := by
  simp [IntKind.wrap, IntKind.min, IntKind.max, IntKind.signed, IntKind.bits]
  try omega
theorem wrap_u16 (n : Int) : IntKind.wrap .u16 n = n % 65536 := by
  simp [IntKind.wrap, IntKind.min, IntKind.max, IntKind.signed, IntKind.bits]
theorem i16_iff (n : Int) : (n == IntKind.wrap .i64 (IntKind.wrap .i16 n)) = decide (-32768 ≤ n ∧ n ≤ 32767) := by
  rw [wrap_i16, wrapI (by omega) (by omega), Bool.eq_iff_iff]
  simp only [beq_iff_eq, decide_eq_true_eq]
  omega
theorem u16_iff (n : Int) : (n == IntKind.wrap .i64 (IntKind.wrap .u16 n)) = decide (0 ≤ n ∧ n ≤ 65535) := by
  rw [wrap_u16, wrapI (by omega) (by omega), Bool.eq_iff_iff]
  simp only [beq_iff_eq, decide_eq_true_eq]
  omega
theorem elemY : Elem Try.prog 23 5 (.int .u8 0) 1 1 := ⟨by kernel_rfl, by kernel_rfl, rfl, by decide⟩

def badP (x : Ins) : Prop := szP x.op = 0 ∨ (fstP x.op = false ∧ x.a ≠ 0) ∨ (twoP x.op = false ∧ x.b ≠ 0) ∨ (wideP x.op = 0 ∧ x.imm ≠ 0)
theorem fits_bad {x : Ins} (h : badP x) : fitsP x = 130 := by unfold badP at h; unfold fitsP; rw [if_pos h]
theorem fits_idx {x : Ins} (h : ¬ badP x) (hi : idxP x ≠ 0) : fitsP x = idxP x := by unfold badP at h; unfold fitsP; rw [if_neg h, if_pos hi]
theorem fits_ok {x : Ins} (h : ¬ badP x) (hi : idxP x = 0) : fitsP x = if x.imm < lowP x.op ∨ highP x.op < x.imm then 130 else 0 := by unfold badP at h; unfold fitsP; rw [if_neg h, if_neg (by simpa using hi)]
theorem idx_132 (x : Ins) : idxP x = 0 ∨ idxP x = 132 := by unfold idxP; (repeat' split) <;> simp
theorem idx_bool {x : Ins} (h : ¬ badP x) : idxB x = decide (idxP x = 0) := by
  unfold badP at h
  unfold idxB idxP
  rw [Bool.eq_iff_iff]
  simp only [decide_eq_true_eq]
  cases hf : fstP x.op <;> cases ht : twoP x.op <;> simp only [hf, ht] at h
  all_goals
    simp only [true_and, false_and, or_false, false_or, Bool.false_eq_true, Bool.true_eq_false, if_false] at h ⊢
    (repeat' split) <;> omega
theorem lim_0 {op : Int} (h : wideP op ≠ 2) : lowP op = 0 ∧ highP op = 255 := by
  unfold lowP highP
  exact ⟨if_neg (fun h' => h h'.1), if_neg h⟩
theorem lim_c {op : Int} (h : wideP op = 2 ∧ op = 1) : lowP op = -32768 ∧ highP op = 32767 := by
  unfold lowP highP
  exact ⟨if_pos h, by rw [if_pos h.1, if_pos h.2]⟩
theorem lim_j {op : Int} (h : wideP op = 2 ∧ op ≠ 1) : lowP op = 0 ∧ highP op = 65535 := by
  unfold lowP highP
  exact ⟨if_neg (fun h' => h.2 h'.2), by rw [if_pos h.1, if_neg h.2]⟩
theorem bad_op {x : Ins} (h : ¬ badP x) : 0 ≤ x.op ∧ x.op < 28 := by
  unfold badP at h
  exact szP_pos.1 (by omega)

section
variable {w w' w0 : World} {m m' c : Hp} {op : Int} {x : Ins}

theorem fits_c (H : Has w0 w m) : Calls Try.prog 36 #[insV x] w fun e w' => e = .returned (.int .i64 (fitsP x)) ∧ Has w0 w' m := by
  apply c36
  (refine h_new H fun n5 u H => ?_)
  refine h_blk (fun _ => ¬ badP x) H ?_ ?_
  · refine h_ldI H (by repeat (first | exact pick_head | apply pick_tail | apply pick_app)) rfl ?_
    (refine s_call (rsize_c (op := x.op) H) ?_; rintro _ u ⟨rfl, H⟩; refine ⟨_, rfl, ?_⟩)
    refine s_asI (s_ite (fun g => s_ret ⟨?_, H.drop⟩) (fun g => ?_))
    · rw [fits_bad (.inl (by simpa using g))]
    have g : szP x.op ≠ 0 := by simpa using g
    refine h_ldI H (by repeat (first | exact pick_head | apply pick_tail | apply pick_app)) rfl ?_
    (refine s_call (first_c (op := x.op) H) ?_; rintro _ u ⟨rfl, H⟩; refine ⟨_, rfl, ?_⟩)
    have fin : ∀ (W : World), Has w0 W (cl n5 40 (insR x) :: m) → ¬ (fstP x.op = false ∧ x.a ≠ 0) → ¬ (twoP x.op = false ∧ x.b ≠ 0) → ¬ (wideP x.op = 0 ∧ x.imm ≠ 0) → Has w0 W (cl n5 40 (insR x) :: m) ∧ ¬ badP x :=
      fun W H a b c => ⟨H, fun h => Or.elim h g fun h => Or.elim h a fun h => Or.elim h b c⟩
    refine s_asB (s_ite (fun g1 => h_ldI H (by repeat (first | exact pick_head | apply pick_tail | apply pick_app)) rfl (s_ite (fun g2 => s_ret ⟨?_, H.drop⟩) (fun g2 => ?_))) (fun g1 => ?_))
    · rw [fits_bad (.inr (.inl ⟨by simpa using g1, by simpa using g2⟩))]
    · have na : ¬ (fstP x.op = false ∧ x.a ≠ 0) := fun h => h.2 (by simpa using g2)
      refine h_ldI H (by repeat (first | exact pick_head | apply pick_tail | apply pick_app)) rfl ?_
      (refine s_call (two_c (op := x.op) H) ?_; rintro _ u ⟨rfl, H⟩; refine ⟨_, rfl, ?_⟩)
      refine s_asB (s_ite (fun g5 => h_ldI H (by repeat (first | exact pick_head | apply pick_tail | apply pick_app)) rfl (s_ite (fun g6 => s_ret ⟨?_, H.drop⟩) (fun g6 => ?_))) (fun g5 => ?_))
      · rw [fits_bad (.inr (.inr (.inl ⟨by simpa using g5, by simpa using g6⟩)))]
      · have nb : ¬ (twoP x.op = false ∧ x.b ≠ 0) := fun h => h.2 (by simpa using g6)
        refine h_ldI H (by repeat (first | exact pick_head | apply pick_tail | apply pick_app)) rfl ?_
        (refine s_call (wide_c (op := x.op) H) ?_; rintro _ u ⟨rfl, H⟩; refine ⟨_, rfl, ?_⟩)
        refine s_asI (s_ite (fun g3 => h_ldI H (by repeat (first | exact pick_head | apply pick_tail | apply pick_app)) rfl (s_ite (fun g4 => s_ret ⟨?_, H.drop⟩) (fun g4 => s_next ⟨rfl, rfl⟩ ?_))) (fun g3 => s_next ⟨rfl, rfl⟩ ?_))
        · rw [fits_bad (.inr (.inr (.inr ⟨by simpa using g3, by simpa using g4⟩)))]
        · simp only [if_true]
          exact fin _ H na nb (fun h => h.2 (by simpa using g4))
        · simp only [if_true]
          exact fin _ H na nb (fun h => by simp [h.1] at g3)
      · have nb : ¬ (twoP x.op = false ∧ x.b ≠ 0) := fun h => by simp [h.1] at g5
        refine h_ldI H (by repeat (first | exact pick_head | apply pick_tail | apply pick_app)) rfl ?_
        (refine s_call (wide_c (op := x.op) H) ?_; rintro _ u ⟨rfl, H⟩; refine ⟨_, rfl, ?_⟩)
        refine s_asI (s_ite (fun g3 => h_ldI H (by repeat (first | exact pick_head | apply pick_tail | apply pick_app)) rfl (s_ite (fun g4 => s_ret ⟨?_, H.drop⟩) (fun g4 => s_next ⟨rfl, rfl⟩ ?_))) (fun g3 => s_next ⟨rfl, rfl⟩ ?_))
        · rw [fits_bad (.inr (.inr (.inr ⟨by simpa using g3, by simpa using g4⟩)))]
        · simp only [if_true]
          exact fin _ H na nb (fun h => h.2 (by simpa using g4))
        · simp only [if_true]
          exact fin _ H na nb (fun h => by simp [h.1] at g3)
    · have na : ¬ (fstP x.op = false ∧ x.a ≠ 0) := fun h => by simp [h.1] at g1
      refine h_ldI H (by repeat (first | exact pick_head | apply pick_tail | apply pick_app)) rfl ?_
      (refine s_call (two_c (op := x.op) H) ?_; rintro _ u ⟨rfl, H⟩; refine ⟨_, rfl, ?_⟩)
      refine s_asB (s_ite (fun g5 => h_ldI H (by repeat (first | exact pick_head | apply pick_tail | apply pick_app)) rfl (s_ite (fun g6 => s_ret ⟨?_, H.drop⟩) (fun g6 => ?_))) (fun g5 => ?_))
      · rw [fits_bad (.inr (.inr (.inl ⟨by simpa using g5, by simpa using g6⟩)))]
      · have nb : ¬ (twoP x.op = false ∧ x.b ≠ 0) := fun h => h.2 (by simpa using g6)
        refine h_ldI H (by repeat (first | exact pick_head | apply pick_tail | apply pick_app)) rfl ?_
        (refine s_call (wide_c (op := x.op) H) ?_; rintro _ u ⟨rfl, H⟩; refine ⟨_, rfl, ?_⟩)
        refine s_asI (s_ite (fun g3 => h_ldI H (by repeat (first | exact pick_head | apply pick_tail | apply pick_app)) rfl (s_ite (fun g4 => s_ret ⟨?_, H.drop⟩) (fun g4 => s_next ⟨rfl, rfl⟩ ?_))) (fun g3 => s_next ⟨rfl, rfl⟩ ?_))
        · rw [fits_bad (.inr (.inr (.inr ⟨by simpa using g3, by simpa using g4⟩)))]
        · simp only [if_true]
          exact fin _ H na nb (fun h => h.2 (by simpa using g4))
        · simp only [if_true]
          exact fin _ H na nb (fun h => by simp [h.1] at g3)
      · have nb : ¬ (twoP x.op = false ∧ x.b ≠ 0) := fun h => by simp [h.1] at g5
        refine h_ldI H (by repeat (first | exact pick_head | apply pick_tail | apply pick_app)) rfl ?_
        (refine s_call (wide_c (op := x.op) H) ?_; rintro _ u ⟨rfl, H⟩; refine ⟨_, rfl, ?_⟩)
        refine s_asI (s_ite (fun g3 => h_ldI H (by repeat (first | exact pick_head | apply pick_tail | apply pick_app)) rfl (s_ite (fun g4 => s_ret ⟨?_, H.drop⟩) (fun g4 => s_next ⟨rfl, rfl⟩ ?_))) (fun g3 => s_next ⟨rfl, rfl⟩ ?_))
        · rw [fits_bad (.inr (.inr (.inr ⟨by simpa using g3, by simpa using g4⟩)))]
        · simp only [if_true]
          exact fin _ H na nb (fun h => h.2 (by simpa using g4))
        · simp only [if_true]
          exact fin _ H na nb (fun h => by simp [h.1] at g3)
  · rintro _ _ W H hb
    (repeat (first | refine s_asI ?_ | refine s_asS ?_ | refine s_asP ?_ | refine s_asB ?_ | refine s_asA ?_ | refine s_asT ?_ | refine s_asM ?_ | refine s_asU ?_ | refine s_asC ?_ | refine s_sm ?_ | refine s_req (by first | rfl | exact ⟨rfl, rfl⟩) ?_ | refine h_ldI H (by repeat (first | exact pick_head | apply pick_tail | apply pick_app)) (by first | rfl | (simp; done)) ?_ | refine h_ldB H (by repeat (first | exact pick_head | apply pick_tail | apply pick_app)) (by first | rfl | (simp; done)) ?_ | refine h_ldP H (by repeat (first | exact pick_head | apply pick_tail | apply pick_app)) (by first | rfl | (simp; done)) ?_ | refine h_ldS H (by repeat (first | exact pick_head | apply pick_tail | apply pick_app)) (by first | rfl | (simp; done)) ?_ | refine h_ldM H (by repeat (first | exact pick_head | apply pick_tail | apply pick_app)) (by first | rfl | (simp; done)) ?_ | refine h_ldT H (by repeat (first | exact pick_head | apply pick_tail | apply pick_app)) (by first | rfl | (simp; done)) ?_ | refine h_ldV H (by repeat (first | exact pick_head | apply pick_tail | apply pick_app)) (by first | rfl | (simp; done)) ?_ | (refine h_new H fun _ u H => ?_) | (refine h_st H (by repeat (first | exact pick_head | apply pick_tail | apply pick_app)) (by first | (simp; done) | exact Nat.le_of_ble_eq_true rfl) rfl fun u H => ?_) | (refine h_drew H fun u H => ?_) | refine s_chk c_nil ?_))
    (refine s_call (rindex_c (x := x) H) ?_; rintro _ u ⟨rfl, H⟩; refine ⟨_, rfl, ?_⟩)
    refine s_asI (s_ite (fun g => s_ret ⟨?_, H.drop⟩) (fun g => ?_))
    · rw [fits_idx hb (by simpa using g)]
    have g : idxP x = 0 := by simpa using g
    rw [fits_ok hb g]
    refine h_blk (fun vs => vs = [.int .i64 (lowP x.op), .int .i64 (highP x.op)]) H ?_ ?_
    · refine h_ldI H (by repeat (first | exact pick_head | apply pick_tail | apply pick_app)) rfl ?_
      (refine s_call (wide_c (op := x.op) H) ?_; rintro _ u ⟨rfl, H⟩; refine ⟨_, rfl, ?_⟩)
      refine s_asI (s_ite (fun g1 => h_ldI H (by repeat (first | exact pick_head | apply pick_tail | apply pick_app)) rfl (s_ite (fun g2 => s_next ⟨rfl, rfl⟩ ?_) (fun g2 => s_next ⟨rfl, rfl⟩ ?_))) (fun g1 => s_next ⟨rfl, rfl⟩ ?_))
      all_goals
        simp only [beq_iff_eq, beq_eq_false_iff_ne, ne_eq] at *
        simp only [if_true]
        refine ⟨H, ?_⟩
        unfold lowP highP
      · rw [if_pos ⟨g1, g2⟩, if_pos g1, if_pos g2]
      · rw [if_neg (fun h => g2 h.2), if_pos g1, if_neg g2]
      · rw [if_neg (fun h => g1 h.1), if_neg g1]
    · rintro _ _ W H rfl
      refine s_asI (s_asI (h_ldI H (by repeat (first | exact pick_head | apply pick_tail | apply pick_app)) rfl (s_ite (fun g1 => s_ret ⟨?_, H.drop⟩) (fun g1 => h_ldI H (by repeat (first | exact pick_head | apply pick_tail | apply pick_app)) rfl (s_ite (fun g2 => s_ret ⟨?_, H.drop⟩) (fun g2 => s_ret ⟨?_, H.drop⟩))))))
      all_goals simp only [decide_eq_true_eq, decide_eq_false_iff_not] at *
      · rw [if_pos (.inl g1)]
      · rw [if_pos (.inr g2)]
      · rw [if_neg (by omega)]

/-- A list of bytes of one's own, as the one value of a block. -/
def Grown (w0 : World) (m : Hp) (l : List Int) (vs : List Value) (W : World) : Prop :=
  ∃ o cap c, vs = [.slice o l.length cap] ∧ OwnC 5 1 (.slice o l.length cap) l.length (byts l) c ∧ Has w0 W (c ++ m)

theorem bytes_c (H : Has w0 w m) : Calls Try.prog 35 #[insV x] w fun e w' => ∃ v c, e = .returned (.tuple #[v, .int .i64 (fitsP x)]) ∧ Has w0 w' (c ++ m) ∧
    (fitsP x = 0 → OwnC 5 1 v (bytsP x).length (byts (bytsP x)) c) ∧ (fitsP x ≠ 0 → v = .slice none 0 0) := by
  apply c35
  (refine h_new H fun n5 u H => ?_)
  refine h_ldI H (by repeat (first | exact pick_head | apply pick_tail | apply pick_app)) rfl ?_
  (refine s_call (form_c (op := x.op) H) ?_; rintro _ u ⟨rfl, H⟩; refine ⟨_, rfl, ?_⟩)
  refine s_asU (s_req rfl (s_asI (s_asB ?_)))
  refine h_blk (fun _ => ¬ badP x) H ?_ ?_
  · refine s_ite (fun g => s_ret ⟨.slice none 0 0, [], ?_⟩) (fun g => ?_)
    · have g : ¬ (0 ≤ x.op ∧ x.op < 28) := by simpa only [Bool.not_eq_true', decide_eq_false_iff_not] using g
      have : szP x.op = 0 := Classical.byContradiction fun h => g (szP_pos.1 h)
      have hf : fitsP x = 130 := fits_bad (.inl this)
      refine ⟨by rw [hf], H.drop, by rw [hf]; simp, fun _ => rfl⟩
    have g : 0 ≤ x.op ∧ x.op < 28 := by simpa only [Bool.not_eq_false', decide_eq_true_eq] using g
    obtain ⟨b1, b2, b3, b4, b5, b6⟩ := bit_all' g.1 g.2
    have g0 : szP x.op ≠ 0 := szP_pos.2 g
    have b1' : (bitsI .and .i64 (formP x.op) 1 == 0) = !fstP x.op := by rw [← b1]; simp [bne]
    have b2' : (bitsI .and .i64 (formP x.op) 2 == 0) = !twoP x.op := by rw [← b2]; simp [bne]
    have fin : ∀ (W : World), Has w0 W (cl n5 40 (insR x) :: m) → ¬ (fstP x.op = false ∧ x.a ≠ 0) → ¬ (twoP x.op = false ∧ x.b ≠ 0) → ¬ (wideP x.op = 0 ∧ x.imm ≠ 0) → Has w0 W (cl n5 40 (insR x) :: m) ∧ ¬ badP x :=
      fun W H a b c => ⟨H, fun h => Or.elim h g0 fun h => Or.elim h a fun h => Or.elim h b c⟩
    have bad : badP x → Ending.returned (.tuple #[.slice none 0 0, .int .i64 130]) = Ending.returned (.tuple #[.slice none 0 0, .int .i64 (fitsP x)]) ∧ Has w0 u ([] ++ m) ∧
        (fitsP x = 0 → OwnC 5 1 (.slice none 0 0) (bytsP x).length (byts (bytsP x)) []) ∧ (fitsP x ≠ 0 → (.slice none 0 0 : Value) = .slice none 0 0) := fun h => by
      have hf : fitsP x = 130 := fits_bad h
      exact ⟨by rw [hf], H.drop, by rw [hf]; simp, fun _ => rfl⟩
    rw [b1', b2', b6]
    refine s_ite (fun g1 => h_ldI H (by repeat (first | exact pick_head | apply pick_tail | apply pick_app)) rfl (s_ite (fun g2 => s_ret ⟨_, [], bad ?_⟩) (fun g2 => ?_))) (fun g1 => ?_)
    · exact .inr (.inl ⟨by simpa using g1, by simpa using g2⟩)
    · have na : ¬ (fstP x.op = false ∧ x.a ≠ 0) := fun h => h.2 (by simpa using g2)
      refine s_ite (fun g5 => h_ldI H (by repeat (first | exact pick_head | apply pick_tail | apply pick_app)) rfl (s_ite (fun g6 => s_ret ⟨_, [], bad ?_⟩) (fun g6 => ?_))) (fun g5 => ?_)
      · exact .inr (.inr (.inl ⟨by simpa using g5, by simpa using g6⟩))
      · have nb : ¬ (twoP x.op = false ∧ x.b ≠ 0) := fun h => h.2 (by simpa using g6)
        refine s_ite (fun g3 => h_ldI H (by repeat (first | exact pick_head | apply pick_tail | apply pick_app)) rfl (s_ite (fun g4 => s_ret ⟨_, [], bad ?_⟩) (fun g4 => s_next ⟨rfl, rfl⟩ ?_))) (fun g3 => s_next ⟨rfl, rfl⟩ ?_)
        · exact .inr (.inr (.inr ⟨by simpa using g3, by simpa using g4⟩))
        · simp only [if_true]
          exact fin _ H na nb (fun h => h.2 (by simpa using g4))
        · simp only [if_true]
          exact fin _ H na nb (fun h => by simp [h.1] at g3)
      · have nb : ¬ (twoP x.op = false ∧ x.b ≠ 0) := fun h => by simp [h.1] at g5
        refine s_ite (fun g3 => h_ldI H (by repeat (first | exact pick_head | apply pick_tail | apply pick_app)) rfl (s_ite (fun g4 => s_ret ⟨_, [], bad ?_⟩) (fun g4 => s_next ⟨rfl, rfl⟩ ?_))) (fun g3 => s_next ⟨rfl, rfl⟩ ?_)
        · exact .inr (.inr (.inr ⟨by simpa using g3, by simpa using g4⟩))
        · simp only [if_true]
          exact fin _ H na nb (fun h => h.2 (by simpa using g4))
        · simp only [if_true]
          exact fin _ H na nb (fun h => by simp [h.1] at g3)
    · have na : ¬ (fstP x.op = false ∧ x.a ≠ 0) := fun h => by simp [h.1] at g1
      refine s_ite (fun g5 => h_ldI H (by repeat (first | exact pick_head | apply pick_tail | apply pick_app)) rfl (s_ite (fun g6 => s_ret ⟨_, [], bad ?_⟩) (fun g6 => ?_))) (fun g5 => ?_)
      · exact .inr (.inr (.inl ⟨by simpa using g5, by simpa using g6⟩))
      · have nb : ¬ (twoP x.op = false ∧ x.b ≠ 0) := fun h => h.2 (by simpa using g6)
        refine s_ite (fun g3 => h_ldI H (by repeat (first | exact pick_head | apply pick_tail | apply pick_app)) rfl (s_ite (fun g4 => s_ret ⟨_, [], bad ?_⟩) (fun g4 => s_next ⟨rfl, rfl⟩ ?_))) (fun g3 => s_next ⟨rfl, rfl⟩ ?_)
        · exact .inr (.inr (.inr ⟨by simpa using g3, by simpa using g4⟩))
        · simp only [if_true]
          exact fin _ H na nb (fun h => h.2 (by simpa using g4))
        · simp only [if_true]
          exact fin _ H na nb (fun h => by simp [h.1] at g3)
      · have nb : ¬ (twoP x.op = false ∧ x.b ≠ 0) := fun h => by simp [h.1] at g5
        refine s_ite (fun g3 => h_ldI H (by repeat (first | exact pick_head | apply pick_tail | apply pick_app)) rfl (s_ite (fun g4 => s_ret ⟨_, [], bad ?_⟩) (fun g4 => s_next ⟨rfl, rfl⟩ ?_))) (fun g3 => s_next ⟨rfl, rfl⟩ ?_)
        · exact .inr (.inr (.inr ⟨by simpa using g3, by simpa using g4⟩))
        · simp only [if_true]
          exact fin _ H na nb (fun h => h.2 (by simpa using g4))
        · simp only [if_true]
          exact fin _ H na nb (fun h => by simp [h.1] at g3)
  · rintro _ _ W H hb
    have g := bad_op hb
    obtain ⟨b1, b2, b3, b4, b5, b6⟩ := bit_all' g.1 g.2
    rw [b1, b2, b3, b4, b5]
    (repeat (first | refine s_asI ?_ | refine s_asS ?_ | refine s_asP ?_ | refine s_asB ?_ | refine s_asA ?_ | refine s_asT ?_ | refine s_asM ?_ | refine s_asU ?_ | refine s_asC ?_ | refine s_sm ?_ | refine s_req (by first | rfl | exact ⟨rfl, rfl⟩) ?_ | refine h_ldI H (by repeat (first | exact pick_head | apply pick_tail | apply pick_app)) (by first | rfl | (simp; done)) ?_ | refine h_ldB H (by repeat (first | exact pick_head | apply pick_tail | apply pick_app)) (by first | rfl | (simp; done)) ?_ | refine h_ldP H (by repeat (first | exact pick_head | apply pick_tail | apply pick_app)) (by first | rfl | (simp; done)) ?_ | refine h_ldS H (by repeat (first | exact pick_head | apply pick_tail | apply pick_app)) (by first | rfl | (simp; done)) ?_ | refine h_ldM H (by repeat (first | exact pick_head | apply pick_tail | apply pick_app)) (by first | rfl | (simp; done)) ?_ | refine h_ldT H (by repeat (first | exact pick_head | apply pick_tail | apply pick_app)) (by first | rfl | (simp; done)) ?_ | refine h_ldV H (by repeat (first | exact pick_head | apply pick_tail | apply pick_app)) (by first | rfl | (simp; done)) ?_ | (refine h_new H fun _ u H => ?_) | (refine h_st H (by repeat (first | exact pick_head | apply pick_tail | apply pick_app)) (by first | (simp; done) | exact Nat.le_of_ble_eq_true rfl) rfl fun u H => ?_) | (refine h_drew H fun u H => ?_) | refine s_chk c_nil ?_))
    (refine s_call (index_c (x := x) H) ?_; rintro _ u ⟨rfl, H⟩; refine ⟨_, rfl, ?_⟩)
    rw [idx_bool hb]
    refine s_asB (s_ite (fun g1 => s_ret ⟨.slice none 0 0, [], ?_⟩) (fun g1 => ?_))
    · have g1 : idxP x ≠ 0 := by simpa using g1
      have h132 : idxP x = 132 := (idx_132 x).elim (fun h => absurd h g1) id
      have hf : fitsP x = 132 := by rw [fits_idx hb g1, h132]
      exact ⟨by rw [hf], H.drop, by rw [hf]; simp, fun _ => rfl⟩
    have g1 : idxP x = 0 := by simpa using g1
    have hok := fits_ok hb g1
    refine h_ldI H (by repeat (first | exact pick_head | apply pick_tail | apply pick_app)) rfl ?_
    (refine h_new H fun n21 u H => ?_)
    refine s_blk (Grown w0 (cl n5 40 (insR x) :: m) (byt x.op :: (if fstP x.op = true then [byt x.a] else []))) ?_ ?_
    rotate_left
    · have ho : OwnC 5 1 (.slice (some ⟨n21, 0, none⟩) 1 1) 1 (byts [byt x.op]) [cl n21 5 [.int .u8 (IntKind.wrap .u8 x.op)]] :=
        ⟨rfl, .inr ⟨n21, 1, [], rfl, by rw [wrap_u8]; rfl, Nat.le_refl _, by decide, rfl⟩⟩
      refine s_ite (fun g2 => h_ldI H (by repeat (first | exact pick_head | apply pick_tail | apply pick_app)) rfl ?_) (fun g2 => s_next ⟨rfl, rfl⟩ ?_)
      · (refine h_new H fun n77 u H => ?_)
        refine h_app1 elemY H (m' := cl n77 5 [.int .u8 (IntKind.wrap .u8 x.a)] :: cl n5 40 (insR x) :: m) (c := [cl n21 5 [.int .u8 (IntKind.wrap .u8 x.op)]]) (cut_one (by repeat (first | exact pick_head | apply pick_tail | apply pick_app))) ho (by repeat (first | exact pick_head | apply pick_tail | apply pick_app)) rfl (by simp [Value.oneCell']) (by decide) (by decide) fun v' c' w' ho' H => ?_
        obtain ⟨o, cap, rfl⟩ := ho'.slice
        refine s_asS (s_next ⟨rfl, rfl⟩ ?_)
        simp only [if_true]
        rw [g2, if_pos rfl]
        refine ⟨o, cap, c', rfl, ?_, H.sub (by repeat (first | exact sb_refl | exact sb_nil | refine sb_cons (by repeat (first | exact pick_head | apply pick_tail | apply pick_app)) ?_ | refine sb_app (by repeat (first | exact cut_head | exact cut_all | apply cut_tail | apply cut_app)) ?_ | exact sb_one (by repeat (first | exact cut_head | exact cut_all | apply cut_tail | apply cut_app))))⟩
        rw [wrap_u8] at ho'
        exact ho'
      · simp only [if_true]
        rw [g2, if_neg (by simp)]
        exact ⟨_, _, _, rfl, ho, H⟩
    rintro _ _ W ⟨o, cap, c, rfl, ho, H⟩
    refine s_asS (s_blk (Grown w0 (cl n5 40 (insR x) :: m) (byt x.op :: ((if fstP x.op = true then [byt x.a] else []) ++ (if twoP x.op = true then [byt x.b] else [])))) ?_ ?_)
    rotate_left
    · refine s_ite (fun g2 => h_ldI H (by repeat (first | exact pick_head | apply pick_tail | apply pick_app)) rfl ?_) (fun g2 => s_next ⟨rfl, rfl⟩ ?_)
      · (refine h_new H fun n77 u H => ?_)
        refine h_app1 elemY H (m' := cl n77 5 [.int .u8 (IntKind.wrap .u8 x.b)] :: cl n5 40 (insR x) :: m) (c := c) (by repeat (first | exact cut_head | exact cut_all | apply cut_tail | apply cut_app)) ho (by repeat (first | exact pick_head | apply pick_tail | apply pick_app)) rfl (by simp [Value.oneCell']) (by simp; split <;> simp) (by simp; split <;> simp) fun v' c' w' ho' H => ?_
        obtain ⟨o, cap, rfl⟩ := ho'.slice
        refine s_asS (s_next ⟨rfl, rfl⟩ ?_)
        simp only [if_true]
        have hlen : (byt x.op :: ((if fstP x.op = true then [byt x.a] else []) ++ (if twoP x.op = true then [byt x.b] else []))).length = (byt x.op :: (if fstP x.op = true then [byt x.a] else [])).length + 1 := by rw [g2]; simp
        refine ⟨o, cap, c', by rw [hlen], ?_, H.sub (by repeat (first | exact sb_refl | exact sb_nil | refine sb_cons (by repeat (first | exact pick_head | apply pick_tail | apply pick_app)) ?_ | refine sb_app (by repeat (first | exact cut_head | exact cut_all | apply cut_tail | apply cut_app)) ?_ | exact sb_one (by repeat (first | exact cut_head | exact cut_all | apply cut_tail | apply cut_app))))⟩
        rw [hlen]
        rw [wrap_u8] at ho'
        rw [g2, if_pos rfl, ← List.cons_append, byts_append]
        exact ho'
      · simp only [if_true]
        rw [g2, if_neg (by simp : ¬ (false = true)), List.append_nil]
        exact ⟨_, _, _, rfl, ho, H⟩
    clear ho H
    rintro _ _ W ⟨o, cap, c, rfl, ho, H⟩
    refine s_asS (s_blk (fun vs W => ∃ v b c, vs = [v, .bool b] ∧ b = decide (fitsP x = 0) ∧ (b = true → OwnC 5 1 v (bytsP x).length (byts (bytsP x)) c) ∧ (∃ o n k, v = .slice o n k) ∧ Has w0 W (c ++ (cl n5 40 (insR x) :: m))) ?_ ?_)
    · rintro _ _ W ⟨_, b, c, rfl, hbf, hv, ⟨o, n, k, rfl⟩, H⟩
      refine s_asS (s_asB (s_ite (fun g2 => s_ret ⟨.slice none 0 0, [], ?_⟩) (fun g2 => s_ret ⟨.slice o n k, c, ?_⟩)))
      · have g2 : b = false := by simpa using g2
        have hne : fitsP x ≠ 0 := by simpa [g2] using hbf
        have hf : fitsP x = 130 := by rw [hok] at hne ⊢; split at hne <;> simp_all
        exact ⟨by rw [hf], H.sub (by repeat (first | exact sb_refl | exact sb_nil | refine sb_cons (by repeat (first | exact pick_head | apply pick_tail | apply pick_app)) ?_ | refine sb_app (by repeat (first | exact cut_head | exact cut_all | apply cut_tail | apply cut_app)) ?_ | exact sb_one (by repeat (first | exact cut_head | exact cut_all | apply cut_tail | apply cut_app)))), by rw [hf]; simp, fun _ => rfl⟩
      · have g2 : b = true := by simpa using g2
        have hf : fitsP x = 0 := by simpa [g2] using hbf
        exact ⟨by rw [hf], H.sub (by repeat (first | exact sb_refl | exact sb_nil | refine sb_cons (by repeat (first | exact pick_head | apply pick_tail | apply pick_app)) ?_ | refine sb_app (by repeat (first | exact cut_head | exact cut_all | apply cut_tail | apply cut_app)) ?_ | exact sb_one (by repeat (first | exact cut_head | exact cut_all | apply cut_tail | apply cut_app)))), fun _ => hv g2, fun h => absurd hf h⟩
    obtain ⟨hw, hz⟩ := wide_is g.1 g.2
    have hl4 : (byt x.op :: ((if fstP x.op = true then [byt x.a] else []) ++ (if twoP x.op = true then [byt x.b] else []))).length ≤ 3 := by
      simp only [List.length_cons, List.length_append]
      split <;> split <;> simp
    generalize hL : (byt x.op :: ((if fstP x.op = true then [byt x.a] else []) ++ (if twoP x.op = true then [byt x.b] else []))) = L at *
    have hbp : bytsP x = L ++ immB x := by unfold bytsP; rw [← hL]; simp
    refine s_ite (fun g2 => h_ldI H (by repeat (first | exact pick_head | apply pick_tail | apply pick_app)) rfl (s_ite (fun g3 => h_ldI H (by repeat (first | exact pick_head | apply pick_tail | apply pick_app)) rfl (h_ldI H (by repeat (first | exact pick_head | apply pick_tail | apply pick_app)) rfl ?_)) (fun g3 => h_ldI H (by repeat (first | exact pick_head | apply pick_tail | apply pick_app)) rfl ?_))) (fun g2 => s_ite (fun g3 => ?_) (fun g3 => s_ite (fun g4 => ?_) (fun g4 => s_next ⟨rfl, rfl⟩ ?_)))
    · have g2 : wideP x.op = 1 := by simpa using g2
      (refine h_new H fun n41 u H => ?_)
      refine h_app1 elemY H (m' := cl n41 5 [.int .u8 (IntKind.wrap .u8 x.imm)] :: cl n5 40 (insR x) :: m) (c := c) (by repeat (first | exact cut_head | exact cut_all | apply cut_tail | apply cut_app)) ho (by repeat (first | exact pick_head | apply pick_tail | apply pick_app)) rfl (by simp [Value.oneCell']) (by omega) (by omega) fun v' c' w' ho' H => ?_
      obtain ⟨o, cap, rfl⟩ := ho'.slice
      refine s_asS (s_next ⟨rfl, rfl⟩ ?_)
      simp only [if_true]
      refine ⟨_, _, c', rfl, ?_, fun _ => ?_, ⟨_, _, _, rfl⟩, H.sub (by repeat (first | exact sb_refl | exact sb_nil | refine sb_cons (by repeat (first | exact pick_head | apply pick_tail | apply pick_app)) ?_ | refine sb_app (by repeat (first | exact cut_head | exact cut_all | apply cut_tail | apply cut_app)) ?_ | exact sb_one (by repeat (first | exact cut_head | exact cut_all | apply cut_tail | apply cut_app))))⟩
      · rw [hok]
        simp only [decide_eq_true_eq] at g3
        rw [(lim_0 (by omega)).1, (lim_0 (by omega)).2, Bool.eq_iff_iff]
        simp only [decide_eq_true_eq]
        split <;> simp <;> omega
      · rw [hbp]
        unfold immB
        rw [if_neg (by omega), if_pos g2, List.length_append, byts_append]
        rw [wrap_u8] at ho'
        exact ho'
    · have g2 : wideP x.op = 1 := by simpa using g2
      (refine h_new H fun n41 u H => ?_)
      refine h_app1 elemY H (m' := cl n41 5 [.int .u8 (IntKind.wrap .u8 x.imm)] :: cl n5 40 (insR x) :: m) (c := c) (by repeat (first | exact cut_head | exact cut_all | apply cut_tail | apply cut_app)) ho (by repeat (first | exact pick_head | apply pick_tail | apply pick_app)) rfl (by simp [Value.oneCell']) (by omega) (by omega) fun v' c' w' ho' H => ?_
      obtain ⟨o, cap, rfl⟩ := ho'.slice
      refine s_asS (s_next ⟨rfl, rfl⟩ ?_)
      simp only [if_true]
      refine ⟨_, _, c', rfl, ?_, fun h => by simp at h, ⟨_, _, _, rfl⟩, H.sub (by repeat (first | exact sb_refl | exact sb_nil | refine sb_cons (by repeat (first | exact pick_head | apply pick_tail | apply pick_app)) ?_ | refine sb_app (by repeat (first | exact cut_head | exact cut_all | apply cut_tail | apply cut_app)) ?_ | exact sb_one (by repeat (first | exact cut_head | exact cut_all | apply cut_tail | apply cut_app))))⟩
      rw [hok]
      simp only [decide_eq_false_iff_not] at g3
      rw [(lim_0 (by omega)).1, (lim_0 (by omega)).2, if_pos (by omega)]
      rfl
    · have g3 : wideP x.op = 2 ∧ x.op = 1 := by simpa using g3
      iterate 4 refine h_ldI H (by repeat (first | exact pick_head | apply pick_tail | apply pick_app)) rfl ?_
      refine s_req (by decide) ?_
      (refine h_new H fun n56 u H => ?_)
      refine h_app (j := 2) (news := [.int .u8 (IntKind.wrap .u8 x.imm), .int .u8 (IntKind.wrap .u8 (shrI .i64 x.imm 8))]) elemY H (m' := cl n56 5 [.int .u8 (IntKind.wrap .u8 x.imm), .int .u8 (IntKind.wrap .u8 (shrI .i64 x.imm 8))] :: cl n5 40 (insR x) :: m) (c := c) (by repeat (first | exact cut_head | exact cut_all | apply cut_tail | apply cut_app)) ho rfl (H.cells (by repeat (first | exact pick_head | apply pick_tail | apply pick_app))).reads (by simp [Value.oneCell']) (by omega) (by omega) fun v' c' w' ho' H _ => ?_
      obtain ⟨o, cap, rfl⟩ := ho'.slice
      refine s_asS (s_next ⟨rfl, rfl⟩ ?_)
      simp only [if_true]
      refine ⟨_, _, c', rfl, ?_, fun _ => ?_, ⟨_, _, _, rfl⟩, H.sub (by repeat (first | exact sb_refl | exact sb_nil | refine sb_cons (by repeat (first | exact pick_head | apply pick_tail | apply pick_app)) ?_ | refine sb_app (by repeat (first | exact cut_head | exact cut_all | apply cut_tail | apply cut_app)) ?_ | exact sb_one (by repeat (first | exact cut_head | exact cut_all | apply cut_tail | apply cut_app))))⟩
      · rw [hok, i16_iff]
        rw [(lim_c g3).1, (lim_c g3).2, Bool.eq_iff_iff]
        simp only [decide_eq_true_eq]
        split <;> simp <;> omega
      · rw [hbp]
        unfold immB
        rw [if_pos g3.1, List.length_append, byts_append]
        rw [wrap_u8, wrap_u8, shr8] at ho'
        exact ho'
    · have g4 : wideP x.op = 2 ∧ x.op ≠ 1 := by simpa using g4
      iterate 4 refine h_ldI H (by repeat (first | exact pick_head | apply pick_tail | apply pick_app)) rfl ?_
      refine s_req (by decide) ?_
      (refine h_new H fun n56 u H => ?_)
      refine h_app (j := 2) (news := [.int .u8 (IntKind.wrap .u8 x.imm), .int .u8 (IntKind.wrap .u8 (shrI .i64 x.imm 8))]) elemY H (m' := cl n56 5 [.int .u8 (IntKind.wrap .u8 x.imm), .int .u8 (IntKind.wrap .u8 (shrI .i64 x.imm 8))] :: cl n5 40 (insR x) :: m) (c := c) (by repeat (first | exact cut_head | exact cut_all | apply cut_tail | apply cut_app)) ho rfl (H.cells (by repeat (first | exact pick_head | apply pick_tail | apply pick_app))).reads (by simp [Value.oneCell']) (by omega) (by omega) fun v' c' w' ho' H _ => ?_
      obtain ⟨o, cap, rfl⟩ := ho'.slice
      refine s_asS (s_next ⟨rfl, rfl⟩ ?_)
      simp only [if_true]
      refine ⟨_, _, c', rfl, ?_, fun _ => ?_, ⟨_, _, _, rfl⟩, H.sub (by repeat (first | exact sb_refl | exact sb_nil | refine sb_cons (by repeat (first | exact pick_head | apply pick_tail | apply pick_app)) ?_ | refine sb_app (by repeat (first | exact cut_head | exact cut_all | apply cut_tail | apply cut_app)) ?_ | exact sb_one (by repeat (first | exact cut_head | exact cut_all | apply cut_tail | apply cut_app))))⟩
      · rw [hok, u16_iff]
        rw [(lim_j g4).1, (lim_j g4).2, Bool.eq_iff_iff]
        simp only [decide_eq_true_eq]
        split <;> simp <;> omega
      · rw [hbp]
        unfold immB
        rw [if_pos g4.1, List.length_append, byts_append]
        rw [wrap_u8, wrap_u8, shr8] at ho'
        exact ho'
    · simp only [decide_eq_false_iff_not] at g2 g3 g4
      simp only [if_true]
      have hw0 : wideP x.op = 0 := by
        rcases hw with h | h | h
        · exact h
        · exact absurd h g2
        · by_cases h1 : x.op = 1
          · exact absurd ⟨h, h1⟩ g3
          · exact absurd ⟨h, h1⟩ g4
      have hi0 : x.imm = 0 := Classical.byContradiction fun h => hb (.inr (.inr (.inr ⟨hw0, h⟩)))
      refine ⟨_, _, c, rfl, ?_, fun _ => ?_, ⟨_, _, _, rfl⟩, H⟩
      · rw [hok]
        rw [(lim_0 (by omega)).1, (lim_0 (by omega)).2, hi0]
        rfl
      · rw [hbp]
        unfold immB
        rw [if_neg (by omega), if_neg (by omega), List.append_nil]
        exact ho
end
end Go.Proofs.Ytgoecmggbcaoiaa
