/- One instruction at an address: the program and the reference. -/
import Derived.Test.YtgoecmggbcaoiaaEncM
import Derived.Test.YtgoecmggbcaoiaaTreesB
set_option linter.unusedVariables false
set_option linter.unusedSimpArgs false
set_option maxRecDepth 100000
set_option maxHeartbeats 4000000
namespace Go.Proofs.Ytgoecmggbcaoiaa
open Go hiding Expr
open Go.RowKit Tr

theorem or_bytes {a b : Int} (ha : 0 ≤ a ∧ a ≤ 255) (hb : 0 ≤ b ∧ b ≤ 255) : bitsI .or .u16 (IntKind.wrap .u16 a) (shlI .u16 (IntKind.wrap .u16 b) 8) = a + 256 * b := by
  have h1 : IntKind.wrap .u16 a = a := by rw [wrap_u16]; omega
  have h2 : IntKind.wrap .u16 b = b := by rw [wrap_u16]; omega
  have h3 : shlI .u16 b 8 = 256 * b := by
    unfold shlI
    rw [show (2 : Int) ^ (min (8 : Int).toNat IntKind.u16.bits) = 256 by decide, wrap_u16]
    omega
  rw [h1, h2, h3]
  unfold bitsI
  obtain ⟨x, rfl⟩ := Int.eq_ofNat_of_zero_le ha.1
  obtain ⟨y, rfl⟩ := Int.eq_ofNat_of_zero_le hb.1
  simp only [BitVec.toNat_or, BitVec.toNat_ofInt]
  have e1 : (((x : Int) % ((2 ^ IntKind.u16.bits : Nat) : Int)).toNat) = x := by
    rw [show ((2 ^ IntKind.u16.bits : Nat) : Int) = 65536 by decide]
    omega
  have e2 : (((256 * (y : Int)) % ((2 ^ IntKind.u16.bits : Nat) : Int)).toNat) = y <<< 8 := by
    rw [show ((2 ^ IntKind.u16.bits : Nat) : Int) = 65536 by decide, Nat.shiftLeft_eq]
    omega
  rw [e1, e2, Nat.or_comm, ← Nat.shiftLeft_add_eq_or_of_lt (by omega : x < 2 ^ 8), wrap_u16, Nat.shiftLeft_eq]
  omega

section
variable {bs : List Int} {at_ : Int}
theorem one_b1 (h : at_ < 0 ∨ (bs.length : Int) ≤ at_) : oneP bs at_ = (.zero, 0, 130) := by unfold oneP; rw [if_pos h]
theorem one_b2 (h0 : ¬ (at_ < 0 ∨ (bs.length : Int) ≤ at_)) (h : szP (bs.getD at_.toNat 0) = 0 ∨ (bs.length : Int) - at_ < szP (bs.getD at_.toNat 0)) : oneP bs at_ = (.zero, 0, 130) := by unfold oneP; rw [if_neg h0, if_pos h]
theorem one_b3 (h0 : ¬ (at_ < 0 ∨ (bs.length : Int) ≤ at_)) (h1 : ¬ (szP (bs.getD at_.toNat 0) = 0 ∨ (bs.length : Int) - at_ < szP (bs.getD at_.toNat 0))) (h : idxP (insP bs at_) ≠ 0) : oneP bs at_ = (.zero, 0, 132) := by unfold oneP; rw [if_neg h0, if_neg h1, if_pos h]
theorem one_ok (h0 : ¬ (at_ < 0 ∨ (bs.length : Int) ≤ at_)) (h1 : ¬ (szP (bs.getD at_.toNat 0) = 0 ∨ (bs.length : Int) - at_ < szP (bs.getD at_.toNat 0))) (h : idxP (insP bs at_) = 0) : oneP bs at_ = (insP bs at_, at_ + szP (bs.getD at_.toNat 0), 0) := by
  unfold oneP; rw [if_neg h0, if_neg h1, if_neg (by simpa using h)]
theorem ins_ok (h : szP (bs.getD at_.toNat 0) ≠ 0) : ¬ badP (insP bs at_) := by
  have ⟨h0, h1⟩ := szP_pos.1 h
  rintro (h' | ⟨h', h2⟩ | ⟨h', h2⟩ | ⟨h', h2⟩)
  · exact h h'
  · apply h2
    show (if fstP (bs.getD at_.toNat 0) = true then _ else 0) = _
    rw [if_neg (by rw [show fstP (bs.getD at_.toNat 0) = false from h']; simp)]
  · apply h2
    show (if twoP (bs.getD at_.toNat 0) = true then _ else 0) = _
    rw [if_neg (by rw [show twoP (bs.getD at_.toNat 0) = false from h']; simp)]
  · apply h2
    have h' : wideP (bs.getD at_.toNat 0) = 0 := h'
    show immP bs (bs.getD at_.toNat 0) at_ = 0
    unfold immP
    simp only [h']
    simp
end

section
variable {bs : List Int} {op at_ : Int}
theorem immP_eq {V : Int} (h : (if 1 ≤ wideP op then bs.getD (kI_ op at_) 0 else 0) + (if wideP op = 2 then 256 * bs.getD (kI_ op at_ + 1) 0 else 0) = V) : immP bs op at_ = if op = 1 ∧ 32768 ≤ V then V - 65536 else V := by
  subst h
  rfl
theorem immP_1 (h : wideP op = 1) : immP bs op at_ = bs.getD (kI_ op at_ + 0) 0 := by
  rw [immP_eq (V := bs.getD (kI_ op at_) 0) (by rw [if_pos (by omega), if_neg (by omega), Int.add_zero])]
  exact if_neg (by rintro ⟨rfl, _⟩; exact absurd h (by decide))
theorem immP_2 (h : wideP op = 2) : immP bs op at_ = if op = 1 ∧ 32768 ≤ bs.getD (kI_ op at_ + 0) 0 + 256 * bs.getD (kI_ op at_ + 1) 0 then bs.getD (kI_ op at_ + 0) 0 + 256 * bs.getD (kI_ op at_ + 1) 0 - 65536 else bs.getD (kI_ op at_ + 0) 0 + 256 * bs.getD (kI_ op at_ + 1) 0 :=
  immP_eq (by rw [if_pos (by omega), if_pos h]; rfl)
end

/-- What is left of an instruction's bytes: r of them, from k on. -/
def Rest (w0 : World) (m : Hp) (bs : List Int) (k r : Nat) (v : Value) : Prop := ∃ o1 c1, v = .slice o1 r c1 ∧ r ≤ c1 ∧ ∀ u, Has w0 u m → BytAt u o1 ((bs.drop k).take r)

section
variable {w w' w0 : World} {m m' c : Hp} {bs : List Int} {o : Option Addr} {cap k r : Nat} {at_ : Int} {v : Value}

theorem rest_get {u : World} {o1 : Option Addr} (h : BytAt u o1 ((bs.drop k).take r)) {i : Nat} (hi : i < r) (hk : k + r ≤ bs.length) : ∃ g off, o1 = some ⟨g, off, none⟩ ∧ u.cell? ⟨g, off + i * 1, none⟩ = some (.int .u8 (bs.getD (k + i) 0)) := by
  refine h.get ?_
  rw [List.getElem?_take_of_lt hi, List.getElem?_drop, List.getD, List.getElem?_eq_getElem (by omega)]
  rfl
theorem rest_next {o1 : Option Addr} {c1 : Nat} (h : ∀ u, Has w0 u m → BytAt u o1 ((bs.drop k).take r)) (hr : 1 ≤ r) (hc : r ≤ c1) : Rest w0 m bs (k + 1) (r - 1) (.slice (sliceBase o1 1 c1 1) (r - 1) (c1 - 1)) := by
  refine ⟨_, _, rfl, by omega, fun u hu => ?_⟩
  have := (h u hu).sub (k := 1) (cap := c1) (by rw [List.length_take]; omega)
  rw [List.drop_take, List.drop_drop] at this
  exact this
theorem byte_ok (hu : ∀ x ∈ bs, 0 ≤ x ∧ x ≤ 255) (i : Nat) : 0 ≤ bs.getD i 0 ∧ bs.getD i 0 ≤ 255 := by
  unfold List.getD
  cases h : bs[i]? with
  | none => simp
  | some x => exact hu x (List.mem_of_getElem? h)

theorem one_c (H : Has w0 w m) (hb : ∀ u, Has w0 u m → BytAt u o bs) (hu : ∀ x ∈ bs, 0 ≤ x ∧ x ≤ 255) (hc : bs.length ≤ cap) (hl : bs.length ≤ 140737488355328) : Calls Try.prog 27 #[.slice o bs.length cap, .int .i64 at_] w fun e w' =>
    e = .returned (.tuple #[insV (oneP bs at_).1, .int .i64 (oneP bs at_).2.1, .int .i64 (oneP bs at_).2.2]) ∧ Has w0 w' m := by
  apply c27
  (refine h_new H fun n4 u H => ?_)
  refine h_blk (fun _ => ¬ (at_ < 0 ∨ (bs.length : Int) ≤ at_)) H ?_ ?_
  · refine s_ite (fun g => ?_) (fun g => s_ite (fun g1 => ?_) (fun g1 => s_next ⟨rfl, rfl⟩ ?_))
    · simp only [decide_eq_true_eq] at g
      rw [one_b1 (.inl g)]
      (repeat (first | refine s_asI ?_ | refine s_asS ?_ | refine s_asP ?_ | refine s_asB ?_ | refine s_asA ?_ | refine s_asT ?_ | refine s_asM ?_ | refine s_asU ?_ | refine s_asC ?_ | refine s_sm ?_ | refine s_req (by first | rfl | exact ⟨rfl, rfl⟩) ?_ | refine h_ldI H (by repeat (first | exact pick_head | apply pick_tail | apply pick_app)) (by first | rfl | (simp; done)) ?_ | refine h_ldB H (by repeat (first | exact pick_head | apply pick_tail | apply pick_app)) (by first | rfl | (simp; done)) ?_ | refine h_ldP H (by repeat (first | exact pick_head | apply pick_tail | apply pick_app)) (by first | rfl | (simp; done)) ?_ | refine h_ldS H (by repeat (first | exact pick_head | apply pick_tail | apply pick_app)) (by first | rfl | (simp; done)) ?_ | refine h_ldM H (by repeat (first | exact pick_head | apply pick_tail | apply pick_app)) (by first | rfl | (simp; done)) ?_ | refine h_ldT H (by repeat (first | exact pick_head | apply pick_tail | apply pick_app)) (by first | rfl | (simp; done)) ?_ | refine h_ldV H (by repeat (first | exact pick_head | apply pick_tail | apply pick_app)) (by first | rfl | (simp; done)) ?_ | (refine h_new H fun _ u H => ?_) | (refine h_st H (by repeat (first | exact pick_head | apply pick_tail | apply pick_app)) (by first | (simp; done) | exact Nat.le_of_ble_eq_true rfl) rfl fun u H => ?_) | (refine h_drew H fun u H => ?_) | refine s_chk c_nil ?_))
      exact s_ret ⟨rfl, H.drop⟩
    · simp only [decide_eq_true_eq] at g1
      rw [one_b1 (.inr g1)]
      (repeat (first | refine s_asI ?_ | refine s_asS ?_ | refine s_asP ?_ | refine s_asB ?_ | refine s_asA ?_ | refine s_asT ?_ | refine s_asM ?_ | refine s_asU ?_ | refine s_asC ?_ | refine s_sm ?_ | refine s_req (by first | rfl | exact ⟨rfl, rfl⟩) ?_ | refine h_ldI H (by repeat (first | exact pick_head | apply pick_tail | apply pick_app)) (by first | rfl | (simp; done)) ?_ | refine h_ldB H (by repeat (first | exact pick_head | apply pick_tail | apply pick_app)) (by first | rfl | (simp; done)) ?_ | refine h_ldP H (by repeat (first | exact pick_head | apply pick_tail | apply pick_app)) (by first | rfl | (simp; done)) ?_ | refine h_ldS H (by repeat (first | exact pick_head | apply pick_tail | apply pick_app)) (by first | rfl | (simp; done)) ?_ | refine h_ldM H (by repeat (first | exact pick_head | apply pick_tail | apply pick_app)) (by first | rfl | (simp; done)) ?_ | refine h_ldT H (by repeat (first | exact pick_head | apply pick_tail | apply pick_app)) (by first | rfl | (simp; done)) ?_ | refine h_ldV H (by repeat (first | exact pick_head | apply pick_tail | apply pick_app)) (by first | rfl | (simp; done)) ?_ | (refine h_new H fun _ u H => ?_) | (refine h_st H (by repeat (first | exact pick_head | apply pick_tail | apply pick_app)) (by first | (simp; done) | exact Nat.le_of_ble_eq_true rfl) rfl fun u H => ?_) | (refine h_drew H fun u H => ?_) | refine s_chk c_nil ?_))
      exact s_ret ⟨rfl, H.drop⟩
    · simp only [decide_eq_false_iff_not] at g g1
      simp only [if_true]
      exact ⟨H, by omega⟩
  rintro _ _ W H h0
  obtain ⟨gg, off, rfl, p⟩ := (hb W H.drop).get (i := at_.toNat) (x := bs.getD at_.toNat 0) (by rw [List.getD, List.getElem?_eq_getElem (by omega)]; rfl)
  refine s_req ⟨by omega, by omega⟩ (s_sm (s_loadI p ?_))
  have hop := byte_ok hu at_.toNat
  rw [wrapI (by omega) (by omega)]
  (refine s_call (size_c (op := bs.getD at_.toNat 0) H) ?_; rintro _ u ⟨rfl, H⟩; refine ⟨_, rfl, ?_⟩)
  refine s_asU (s_req rfl (s_asI (s_asB (h_blk (fun _ => ¬ (szP (bs.getD at_.toNat 0) = 0 ∨ (bs.length : Int) - at_ < szP (bs.getD at_.toNat 0))) H ?_ ?_))))
  · rw [wrapI (n := (bs.length : Int) - at_) (by omega) (by omega)]
    refine s_ite (fun g => ?_) (fun g => s_ite (fun g1 => ?_) (fun g1 => s_next ⟨rfl, rfl⟩ ?_))
    · have g : ¬ (0 ≤ bs.getD at_.toNat 0 ∧ bs.getD at_.toNat 0 < 28) := by simpa only [Bool.not_eq_true', decide_eq_false_iff_not] using g
      have : szP (bs.getD at_.toNat 0) = 0 := Classical.byContradiction fun h => g (szP_pos.1 h)
      rw [one_b2 h0 (.inl this)]
      (repeat (first | refine s_asI ?_ | refine s_asS ?_ | refine s_asP ?_ | refine s_asB ?_ | refine s_asA ?_ | refine s_asT ?_ | refine s_asM ?_ | refine s_asU ?_ | refine s_asC ?_ | refine s_sm ?_ | refine s_req (by first | rfl | exact ⟨rfl, rfl⟩) ?_ | refine h_ldI H (by repeat (first | exact pick_head | apply pick_tail | apply pick_app)) (by first | rfl | (simp; done)) ?_ | refine h_ldB H (by repeat (first | exact pick_head | apply pick_tail | apply pick_app)) (by first | rfl | (simp; done)) ?_ | refine h_ldP H (by repeat (first | exact pick_head | apply pick_tail | apply pick_app)) (by first | rfl | (simp; done)) ?_ | refine h_ldS H (by repeat (first | exact pick_head | apply pick_tail | apply pick_app)) (by first | rfl | (simp; done)) ?_ | refine h_ldM H (by repeat (first | exact pick_head | apply pick_tail | apply pick_app)) (by first | rfl | (simp; done)) ?_ | refine h_ldT H (by repeat (first | exact pick_head | apply pick_tail | apply pick_app)) (by first | rfl | (simp; done)) ?_ | refine h_ldV H (by repeat (first | exact pick_head | apply pick_tail | apply pick_app)) (by first | rfl | (simp; done)) ?_ | (refine h_new H fun _ u H => ?_) | (refine h_st H (by repeat (first | exact pick_head | apply pick_tail | apply pick_app)) (by first | (simp; done) | exact Nat.le_of_ble_eq_true rfl) rfl fun u H => ?_) | (refine h_drew H fun u H => ?_) | refine s_chk c_nil ?_))
      exact s_ret ⟨rfl, H.drop⟩
    · simp only [decide_eq_true_eq] at g1
      rw [one_b2 h0 (.inr (by omega))]
      (repeat (first | refine s_asI ?_ | refine s_asS ?_ | refine s_asP ?_ | refine s_asB ?_ | refine s_asA ?_ | refine s_asT ?_ | refine s_asM ?_ | refine s_asU ?_ | refine s_asC ?_ | refine s_sm ?_ | refine s_req (by first | rfl | exact ⟨rfl, rfl⟩) ?_ | refine h_ldI H (by repeat (first | exact pick_head | apply pick_tail | apply pick_app)) (by first | rfl | (simp; done)) ?_ | refine h_ldB H (by repeat (first | exact pick_head | apply pick_tail | apply pick_app)) (by first | rfl | (simp; done)) ?_ | refine h_ldP H (by repeat (first | exact pick_head | apply pick_tail | apply pick_app)) (by first | rfl | (simp; done)) ?_ | refine h_ldS H (by repeat (first | exact pick_head | apply pick_tail | apply pick_app)) (by first | rfl | (simp; done)) ?_ | refine h_ldM H (by repeat (first | exact pick_head | apply pick_tail | apply pick_app)) (by first | rfl | (simp; done)) ?_ | refine h_ldT H (by repeat (first | exact pick_head | apply pick_tail | apply pick_app)) (by first | rfl | (simp; done)) ?_ | refine h_ldV H (by repeat (first | exact pick_head | apply pick_tail | apply pick_app)) (by first | rfl | (simp; done)) ?_ | (refine h_new H fun _ u H => ?_) | (refine h_st H (by repeat (first | exact pick_head | apply pick_tail | apply pick_app)) (by first | (simp; done) | exact Nat.le_of_ble_eq_true rfl) rfl fun u H => ?_) | (refine h_drew H fun u H => ?_) | refine s_chk c_nil ?_))
      exact s_ret ⟨rfl, H.drop⟩
    · have g : 0 ≤ bs.getD at_.toNat 0 ∧ bs.getD at_.toNat 0 < 28 := by simpa only [Bool.not_eq_false', decide_eq_true_eq] using g
      simp only [decide_eq_false_iff_not] at g1
      simp only [if_true]
      refine ⟨H, fun h => ?_⟩
      have := szP_pos.2 g
      omega
  rintro _ _ W H h1
  have hsz : szP (bs.getD at_.toNat 0) ≠ 0 := fun h => h1 (.inl h)
  have hop2 := szP_pos.1 hsz
  have hs4 := szP_le (bs.getD at_.toNat 0)
  obtain ⟨hw, hz⟩ := wide_is hop2.1 hop2.2
  obtain ⟨b1, b2, b3, b4, b5, b6⟩ := bit_all' hop2.1 hop2.2
  obtain ⟨gg2, off2, he2, p⟩ := (hb W H.drop).get (i := at_.toNat) (x := bs.getD at_.toNat 0) (by rw [List.getD, List.getElem?_eq_getElem (by omega)]; rfl)
  obtain ⟨rfl, rfl⟩ : gg = gg2 ∧ off = off2 := by simpa using he2
  refine s_req ⟨by omega, by omega⟩ (s_sm (s_loadI p ?_))
  rw [wrapI (n := bs.getD at_.toNat 0) (by omega) (by omega)]
  (refine h_new H fun n19 u H => ?_)
  iterate 5 refine h_st H (by repeat (first | exact pick_head | apply pick_tail | apply pick_app)) (by first | (simp; done) | exact Nat.le_of_ble_eq_true rfl) rfl fun u H => ?_
  refine h_ldI H (by repeat (first | exact pick_head | apply pick_tail | apply pick_app)) rfl ?_
  have hk : (kA at_ : Int) = at_ + 1 := by unfold kA; omega
  have hins : insP bs at_ = ⟨at_, bs.getD at_.toNat 0, if fstP (bs.getD at_.toNat 0) = true then bs.getD (kA at_) 0 else 0, if twoP (bs.getD at_.toNat 0) = true then bs.getD (kB (bs.getD at_.toNat 0) at_) 0 else 0, immP bs (bs.getD at_.toNat 0) at_⟩ := rfl
  generalize hopg : bs.getD at_.toNat 0 = op at *
  have H : Has w0 u (cl n19 40 (insR ⟨at_, op, 0, 0, 0⟩) :: cl n4 40 (insR .zero) :: m) := H
  (refine s_call (form_c (op := op) H) ?_; rintro _ u ⟨rfl, H⟩; refine ⟨_, rfl, ?_⟩)
  refine s_asU (s_req rfl (s_asI (s_asB ?_)))
  rw [b1, b2, b3, b4, b5]
  rw [wrapI (n := at_ + szP op) (by omega) (by omega), wrapI (n := at_ + 1) (by omega) (by omega)]
  refine s_req ⟨by omega, by omega, by omega, by omega⟩ ?_
  have hkB : (kB op at_ : Int) = at_ + 1 + (if fstP op = true then 1 else 0) := by unfold kB; split <;> omega
  have hkI : (kI_ op at_ : Int) = at_ + 1 + (if fstP op = true then 1 else 0) + (if twoP op = true then 1 else 0) := by unfold kI_; split <;> omega
  refine s_blk (fun vs W => ∃ v, vs = [v] ∧ Rest w0 m bs (kB op at_) (szP op - 1 - (if fstP op = true then 1 else 0)).toNat v ∧ Has w0 W (cl n19 40 (insR ⟨at_, op, if fstP op = true then bs.getD (kA at_) 0 else 0, 0, 0⟩) :: cl n4 40 (insR .zero) :: m)) ?_ ?_
  rotate_left
  · have hR : Rest w0 m bs (kA at_) ((at_ + szP op).toNat - (at_ + 1).toNat) (.slice (sliceBase (some ⟨gg, off, none⟩) (at_ + 1).toNat cap 1) ((at_ + szP op).toNat - (at_ + 1).toNat) (cap - (at_ + 1).toNat)) := by
      refine ⟨_, _, rfl, by omega, fun u hu => ?_⟩
      have := ((hb u hu).sub (k := (at_ + 1).toNat) hc).take (k := (at_ + szP op).toNat - (at_ + 1).toNat)
      rw [show kA at_ = (at_ + 1).toNat by omega]
      exact this
    have hr0 : (at_ + szP op).toNat - (at_ + 1).toNat = (szP op - 1).toNat := by omega
    refine s_ite (fun g => h_drew H fun u H => ?_) (fun g => s_next ⟨rfl, rfl⟩ ?_)
    · obtain ⟨o1, c1, he, hc1, hR⟩ := hR
      obtain ⟨rfl, _, rfl⟩ := Value.slice.inj he
      rw [g, if_pos rfl] at hz
      obtain ⟨g1, f1, he1, p1⟩ := rest_get (hR u H.drop.drop) (i := 0) (by omega) (by omega)
      refine s_req ⟨by omega, by omega⟩ ⟨g1, f1, he1, s_loadI p1 (s_req ⟨by omega, by omega⟩ ?_)⟩
      have hy := byte_ok hu (kA at_ + 0)
      rw [wrapI (by omega) (by omega)]
      refine h_st H (by repeat (first | exact pick_head | apply pick_tail | apply pick_app)) (by simp [insR]) rfl fun u H => s_chk c_nil (s_next ⟨rfl, rfl⟩ ?_)
      simp only [if_true]
      refine ⟨_, rfl, ?_, ?_⟩
      · have := rest_next hR (by omega) hc1
        rw [g, if_pos rfl]
        unfold kB
        rw [g, if_pos rfl, show (szP op - 1 - 1).toNat = (at_ + szP op).toNat - (at_ + 1).toNat - 1 by omega]
        exact this
      · rw [g, if_pos rfl]
        exact H
    · simp only [if_true]
      refine ⟨_, rfl, ?_, ?_⟩
      · rw [g, if_neg (by simp : ¬ (false = true)), Int.sub_zero, ← hr0]
        unfold kB
        rw [g, if_neg (by simp : ¬ (false = true))]
        exact hR
      · rw [g, if_neg (by simp : ¬ (false = true))]
        exact H
  clear H
  rintro _ _ W ⟨_, rfl, ⟨o1, c1, rfl, hc1, hR⟩, H⟩
  generalize hA : (if fstP op = true then bs.getD (kA at_) 0 else 0) = A at *
  generalize hF : (if fstP op = true then (1 : Int) else 0) = F at *
  have hF1 : 0 ≤ F ∧ F ≤ 1 := by subst hF; split <;> omega
  generalize hG : (if twoP op = true then (1 : Int) else 0) = G at *
  have hG1 : 0 ≤ G ∧ G ≤ 1 := by subst hG; split <;> omega
  refine s_asS (s_blk (fun vs W => ∃ v, vs = [v] ∧ Rest w0 m bs (kI_ op at_) (wideP op).toNat v ∧ Has w0 W (cl n19 40 (insR ⟨at_, op, A, if twoP op = true then bs.getD (kB op at_) 0 else 0, 0⟩) :: cl n4 40 (insR .zero) :: m)) ?_ ?_)
  rotate_left
  · refine s_ite (fun g => h_drew H fun u H => ?_) (fun g => s_next ⟨rfl, rfl⟩ ?_)
    · rw [g, if_pos rfl] at hG
      subst hG
      obtain ⟨g1, f1, he1, p1⟩ := rest_get (hR u H.drop.drop) (i := 0) (by omega) (by omega)
      refine s_req ⟨by omega, by omega⟩ ⟨g1, f1, he1, s_loadI p1 (s_req ⟨by omega, by omega⟩ ?_)⟩
      have hy := byte_ok hu (kB op at_ + 0)
      rw [wrapI (by omega) (by omega)]
      refine h_st H (by repeat (first | exact pick_head | apply pick_tail | apply pick_app)) (by simp [insR]) rfl fun u H => s_chk c_nil (s_next ⟨rfl, rfl⟩ ?_)
      simp only [if_true]
      refine ⟨_, rfl, ?_, ?_⟩
      · have := rest_next hR (by omega) hc1
        rw [show kI_ op at_ = kB op at_ + 1 by omega, show (wideP op).toNat = (szP op - 1 - F).toNat - 1 by omega]
        exact this
      · rw [g, if_pos rfl]
        exact H
    · rw [g, if_neg (by simp : ¬ (false = true))] at hG
      subst hG
      simp only [if_true]
      refine ⟨_, rfl, ?_, ?_⟩
      · rw [show kI_ op at_ = kB op at_ by omega, show (wideP op).toNat = (szP op - 1 - F).toNat by omega]
        exact ⟨_, _, rfl, hc1, hR⟩
      · rw [g, if_neg (by simp : ¬ (false = true))]
        exact H
  clear hR hc1 H
  rintro _ _ W ⟨_, rfl, ⟨o2, c2, rfl, hc2, hR⟩, H⟩
  generalize hB : (if twoP op = true then bs.getD (kB op at_) 0 else 0) = B at *
  refine s_asS (s_blk (fun vs W => Has w0 W (cl n19 40 (insR (insP bs at_)) :: cl n4 40 (insR .zero) :: m)) ?_ ?_)
  · rintro _ _ W H
    (repeat (first | refine s_asI ?_ | refine s_asS ?_ | refine s_asP ?_ | refine s_asB ?_ | refine s_asA ?_ | refine s_asT ?_ | refine s_asM ?_ | refine s_asU ?_ | refine s_asC ?_ | refine s_sm ?_ | refine s_req (by first | rfl | exact ⟨rfl, rfl⟩) ?_ | refine h_ldI H (by repeat (first | exact pick_head | apply pick_tail | apply pick_app)) (by first | rfl | (simp; done)) ?_ | refine h_ldB H (by repeat (first | exact pick_head | apply pick_tail | apply pick_app)) (by first | rfl | (simp; done)) ?_ | refine h_ldP H (by repeat (first | exact pick_head | apply pick_tail | apply pick_app)) (by first | rfl | (simp; done)) ?_ | refine h_ldS H (by repeat (first | exact pick_head | apply pick_tail | apply pick_app)) (by first | rfl | (simp; done)) ?_ | refine h_ldM H (by repeat (first | exact pick_head | apply pick_tail | apply pick_app)) (by first | rfl | (simp; done)) ?_ | refine h_ldT H (by repeat (first | exact pick_head | apply pick_tail | apply pick_app)) (by first | rfl | (simp; done)) ?_ | refine h_ldV H (by repeat (first | exact pick_head | apply pick_tail | apply pick_app)) (by first | rfl | (simp; done)) ?_ | (refine h_new H fun _ u H => ?_) | (refine h_st H (by repeat (first | exact pick_head | apply pick_tail | apply pick_app)) (by first | (simp; done) | exact Nat.le_of_ble_eq_true rfl) rfl fun u H => ?_) | (refine h_drew H fun u H => ?_) | refine s_chk c_nil ?_))
    (refine s_call (index_c (x := insP bs at_) H) ?_; rintro _ u ⟨rfl, H⟩; refine ⟨_, rfl, ?_⟩)
    have hbad : ¬ badP (insP bs at_) := ins_ok (by rw [hopg]; exact hsz)
    rw [idx_bool hbad]
    refine s_asB (s_ite (fun g => ?_) (fun g => ?_))
    · have g : idxP (insP bs at_) ≠ 0 := by simpa using g
      rw [one_b3 h0 (by rw [hopg]; exact h1) g]
      (repeat (first | refine s_asI ?_ | refine s_asS ?_ | refine s_asP ?_ | refine s_asB ?_ | refine s_asA ?_ | refine s_asT ?_ | refine s_asM ?_ | refine s_asU ?_ | refine s_asC ?_ | refine s_sm ?_ | refine s_req (by first | rfl | exact ⟨rfl, rfl⟩) ?_ | refine h_ldI H (by repeat (first | exact pick_head | apply pick_tail | apply pick_app)) (by first | rfl | (simp; done)) ?_ | refine h_ldB H (by repeat (first | exact pick_head | apply pick_tail | apply pick_app)) (by first | rfl | (simp; done)) ?_ | refine h_ldP H (by repeat (first | exact pick_head | apply pick_tail | apply pick_app)) (by first | rfl | (simp; done)) ?_ | refine h_ldS H (by repeat (first | exact pick_head | apply pick_tail | apply pick_app)) (by first | rfl | (simp; done)) ?_ | refine h_ldM H (by repeat (first | exact pick_head | apply pick_tail | apply pick_app)) (by first | rfl | (simp; done)) ?_ | refine h_ldT H (by repeat (first | exact pick_head | apply pick_tail | apply pick_app)) (by first | rfl | (simp; done)) ?_ | refine h_ldV H (by repeat (first | exact pick_head | apply pick_tail | apply pick_app)) (by first | rfl | (simp; done)) ?_ | (refine h_new H fun _ u H => ?_) | (refine h_st H (by repeat (first | exact pick_head | apply pick_tail | apply pick_app)) (by first | (simp; done) | exact Nat.le_of_ble_eq_true rfl) rfl fun u H => ?_) | (refine h_drew H fun u H => ?_) | refine s_chk c_nil ?_))
      exact s_ret ⟨rfl, H.drop.drop⟩
    · have g : idxP (insP bs at_) = 0 := by simpa using g
      rw [one_ok h0 (by rw [hopg]; exact h1) g, hopg]
      (repeat (first | refine s_asI ?_ | refine s_asS ?_ | refine s_asP ?_ | refine s_asB ?_ | refine s_asA ?_ | refine s_asT ?_ | refine s_asM ?_ | refine s_asU ?_ | refine s_asC ?_ | refine s_sm ?_ | refine s_req (by first | rfl | exact ⟨rfl, rfl⟩) ?_ | refine h_ldI H (by repeat (first | exact pick_head | apply pick_tail | apply pick_app)) (by first | rfl | (simp; done)) ?_ | refine h_ldB H (by repeat (first | exact pick_head | apply pick_tail | apply pick_app)) (by first | rfl | (simp; done)) ?_ | refine h_ldP H (by repeat (first | exact pick_head | apply pick_tail | apply pick_app)) (by first | rfl | (simp; done)) ?_ | refine h_ldS H (by repeat (first | exact pick_head | apply pick_tail | apply pick_app)) (by first | rfl | (simp; done)) ?_ | refine h_ldM H (by repeat (first | exact pick_head | apply pick_tail | apply pick_app)) (by first | rfl | (simp; done)) ?_ | refine h_ldT H (by repeat (first | exact pick_head | apply pick_tail | apply pick_app)) (by first | rfl | (simp; done)) ?_ | refine h_ldV H (by repeat (first | exact pick_head | apply pick_tail | apply pick_app)) (by first | rfl | (simp; done)) ?_ | (refine h_new H fun _ u H => ?_) | (refine h_st H (by repeat (first | exact pick_head | apply pick_tail | apply pick_app)) (by first | (simp; done) | exact Nat.le_of_ble_eq_true rfl) rfl fun u H => ?_) | (refine h_drew H fun u H => ?_) | refine s_chk c_nil ?_))
      exact s_ret ⟨rfl, H.drop.drop⟩
  have hb0 := byte_ok hu (kI_ op at_ + 0)
  have hb1 := byte_ok hu (kI_ op at_ + 1)
  refine s_ite (fun g => ?_) (fun g => s_ite (fun g2 => h_drew H fun u H => ?_) (fun g2 => s_ite (fun g3 => h_drew H fun u H => ?_) (fun g3 => s_next ⟨rfl, rfl⟩ ?_)))
  · have g : wideP op = 1 := by simpa using g
    obtain ⟨g1, f1, he1, p1⟩ := rest_get (hR W H.drop.drop) (i := 0) (by omega) (by omega)
    refine s_req ⟨by omega, by omega⟩ ⟨g1, f1, he1, s_loadI p1 ?_⟩
    rw [wrapI (by omega) (by omega)]
    refine h_st H (by repeat (first | exact pick_head | apply pick_tail | apply pick_app)) (by simp [insR]) rfl fun u H => s_next ⟨rfl, rfl⟩ ?_
    simp only [if_true]
    rw [hins, immP_1 g]
    exact H
  · have g2 : wideP op = 2 ∧ op = 1 := by simpa using g2
    obtain ⟨g1, f1, he1, p1⟩ := rest_get (hR u H.drop.drop) (i := 0) (by omega) (by omega)
    obtain ⟨g1', f1', he1', p1'⟩ := rest_get (hR u H.drop.drop) (i := 1) (by omega) (by omega)
    refine s_req ⟨by omega, by omega⟩ ⟨g1, f1, he1, s_loadI p1 (s_req ⟨by omega, by omega⟩ ⟨g1', f1', he1', s_loadI p1' (s_req (by decide) ?_)⟩)⟩
    rw [or_bytes hb0 hb1, wrap_i16, wrapI (by omega) (by omega)]
    refine h_st H (by repeat (first | exact pick_head | apply pick_tail | apply pick_app)) (by simp [insR]) rfl fun u H => s_chk c_nil (s_next ⟨rfl, rfl⟩ ?_)
    simp only [if_true]
    have : immP bs op at_ = (bs.getD (kI_ op at_ + 0) 0 + 256 * bs.getD (kI_ op at_ + 1) 0 + 32768) % 65536 - 32768 := by
      rw [immP_2 g2.1]
      split <;> omega
    rw [hins, this]
    exact H
  · have g3 : wideP op = 2 ∧ op ≠ 1 := by simpa using g3
    obtain ⟨g1, f1, he1, p1⟩ := rest_get (hR u H.drop.drop) (i := 0) (by omega) (by omega)
    obtain ⟨g1', f1', he1', p1'⟩ := rest_get (hR u H.drop.drop) (i := 1) (by omega) (by omega)
    refine s_req ⟨by omega, by omega⟩ ⟨g1, f1, he1, s_loadI p1 (s_req ⟨by omega, by omega⟩ ⟨g1', f1', he1', s_loadI p1' (s_req (by decide) ?_)⟩)⟩
    rw [or_bytes hb0 hb1, wrapI (by omega) (by omega)]
    refine h_st H (by repeat (first | exact pick_head | apply pick_tail | apply pick_app)) (by simp [insR]) rfl fun u H => s_chk c_nil (s_next ⟨rfl, rfl⟩ ?_)
    simp only [if_true]
    have : immP bs op at_ = bs.getD (kI_ op at_ + 0) 0 + 256 * bs.getD (kI_ op at_ + 1) 0 := by
      rw [immP_2 g3.1]
      exact if_neg (fun h => g3.2 h.1)
    rw [hins, this]
    exact H
  · simp only [decide_eq_false_iff_not] at g g2 g3
    simp only [if_true]
    have hw0 : wideP op = 0 := by
      rcases hw with h | h | h
      · exact h
      · exact absurd h g
      · by_cases h1 : op = 1
        · exact absurd ⟨h, h1⟩ g2
        · exact absurd ⟨h, h1⟩ g3
    have : immP bs op at_ = 0 := by
      unfold immP
      simp only [hw0]
      simp
    rw [hins, this]
    exact H
end
end Go.Proofs.Ytgoecmggbcaoiaa
