/- There and back: what is written is read as it was; what is read, written again, is the bytes. In plain words. -/
import Derived.Test.YtgoecmggbcaoiaaEncM
import Derived.Test.YtgoecmggbcaoiaaOneM
import Derived.Test.YtgoecmggbcaoiaaWalkP
set_option linter.unusedVariables false
set_option linter.unusedSimpArgs false
namespace Go.Proofs.Ytgoecmggbcaoiaa

def place : Int → List Ins → List Ins
  | _, [] => []
  | a, x :: r => { x with at_ := a } :: place (a + szP x.op) r

theorem fits_facts {x : Ins} (h : fitsP x = 0) : ¬ badP x ∧ idxP x = 0 ∧ lowP x.op ≤ x.imm ∧ x.imm ≤ highP x.op := by
  have hb : ¬ badP x := fun hb => by rw [fits_bad hb] at h; cases h
  have hi : idxP x = 0 := Classical.byContradiction fun hi => by rw [fits_idx hb hi] at h; exact hi h
  rw [fits_ok hb hi] at h
  split at h
  · cases h
  · exact ⟨hb, hi, by omega, by omega⟩
theorem byt_id {n : Int} (h0 : 0 ≤ n) (h1 : n ≤ 255) : byt n = n := by unfold byt; omega
theorem len_byts {x : Ins} (h : 0 ≤ x.op ∧ x.op < 28) : ((bytsP x).length : Int) = szP x.op := by
  obtain ⟨hw, hz⟩ := wide_is h.1 h.2
  have hi := immB_len h
  unfold bytsP
  simp only [List.length_cons, List.length_append]
  rw [hz]
  split <;> split <;> simp <;> omega
theorem reg_facts {x : Ins} (hb : ¬ badP x) (hi : idxP x = 0) : (fstP x.op = true → 0 ≤ x.a ∧ x.a < 8) ∧ (fstP x.op = false → x.a = 0) ∧ (twoP x.op = true → 0 ≤ x.b ∧ x.b < 8) ∧ (twoP x.op = false → x.b = 0) := by
  unfold idxP at hi
  split at hi
  · cases hi
  · rename_i h1
    unfold badP at hb
    refine ⟨fun h => ?_, fun h => ?_, fun h => ?_, fun h => ?_⟩
    · refine Classical.byContradiction fun h' => h1 (.inl ⟨h, by omega⟩)
    · exact Classical.byContradiction fun h' => hb (.inr (.inl ⟨h, h'⟩))
    · refine Classical.byContradiction fun h' => h1 (.inr ⟨h, by omega⟩)
    · exact Classical.byContradiction fun h' => hb (.inr (.inr (.inl ⟨h, h'⟩)))

theorem getD_off {pre l : List Int} (j : Nat) : (pre ++ l).getD (pre.length + j) 0 = l.getD j 0 := by
  simp [List.getD, List.getElem?_append_right]

theorem getD_byts {x : Ins} {pre rest : List Int} {at_ : Int} (ha : at_ = pre.length) (h : 0 ≤ x.op ∧ x.op < 28) : let bs := pre ++ (bytsP x ++ rest)
    bs.getD at_.toNat 0 = x.op ∧ (fstP x.op = true → bs.getD (kA at_) 0 = byt x.a) ∧ (twoP x.op = true → bs.getD (kB x.op at_) 0 = byt x.b) ∧ (1 ≤ wideP x.op → bs.getD (kI_ x.op at_ + 0) 0 = byt x.imm) ∧ (wideP x.op = 2 → bs.getD (kI_ x.op at_ + 1) 0 = byt (x.imm / 256)) := by
  subst ha
  intro bs
  obtain ⟨hw, hz⟩ := wide_is h.1 h.2
  have h0 : ((pre.length : Int)).toNat = pre.length + 0 := by omega
  have hA : kA (pre.length : Int) = pre.length + 1 := by unfold kA; omega
  have hB : kB x.op (pre.length : Int) = pre.length + (if fstP x.op = true then 2 else 1) := by unfold kB; rw [hA]; split <;> omega
  have hI : kI_ x.op (pre.length : Int) = pre.length + ((if fstP x.op = true then 2 else 1) + (if twoP x.op = true then 1 else 0)) := by unfold kI_; rw [hB]; split <;> omega
  show (pre ++ (bytsP x ++ rest)).getD _ 0 = _ ∧ (_ → (pre ++ (bytsP x ++ rest)).getD _ 0 = _) ∧ (_ → (pre ++ (bytsP x ++ rest)).getD _ 0 = _) ∧ (_ → (pre ++ (bytsP x ++ rest)).getD _ 0 = _) ∧ (_ → (pre ++ (bytsP x ++ rest)).getD _ 0 = _)
  rw [h0, hA, hB, hI, Nat.add_assoc pre.length, Nat.add_assoc pre.length _ 1]
  rw [getD_off, getD_off, getD_off, getD_off, getD_off]
  have hop : byt x.op = x.op := byt_id h.1 (by omega)
  unfold bytsP
  refine ⟨by simp [hop], fun hf => ?_, fun ht => ?_, fun hw1 => ?_, fun hw2 => ?_⟩
  · rw [if_pos hf]; rfl
  · rw [if_pos ht]
    cases hf : fstP x.op <;> rfl
  · unfold immB
    rcases hw with hw | hw | hw
    · omega
    · rw [if_neg (show ¬ wideP x.op = 2 by omega), if_pos hw]
      cases hf : fstP x.op <;> cases ht : twoP x.op <;> rfl
    · rw [if_pos hw]
      cases hf : fstP x.op <;> cases ht : twoP x.op <;> rfl
  · unfold immB
    rw [if_pos hw2]
    cases hf : fstP x.op <;> cases ht : twoP x.op <;> rfl

theorem one_of_byts {x : Ins} {pre rest : List Int} {at_ : Int} (ha : at_ = pre.length) (h : fitsP x = 0) : oneP (pre ++ (bytsP x ++ rest)) at_ = ({ x with at_ := at_ }, at_ + szP x.op, 0) := by
  obtain ⟨hb, hi, hlo, hhi⟩ := fits_facts h
  have hop := bad_op hb
  obtain ⟨r1, r2, r3, r4⟩ := reg_facts hb hi
  obtain ⟨hw, hz⟩ := wide_is hop.1 hop.2
  obtain ⟨g0, g1, g2, g3, g4⟩ := getD_byts (rest := rest) ha hop
  have hl := len_byts hop
  have hlen : ((pre ++ (bytsP x ++ rest)).length : Int) = at_ + szP x.op + rest.length := by
    simp only [List.length_append]
    omega
  have hins : insP (pre ++ (bytsP x ++ rest)) at_ = { x with at_ := at_ } := by
    unfold insP
    simp only [g0]
    have e1 : (if fstP x.op = true then (pre ++ (bytsP x ++ rest)).getD (kA at_) 0 else 0) = x.a := by
      cases hf : fstP x.op with
      | true => rw [if_pos rfl, g1 hf, byt_id (r1 hf).1 (by have := (r1 hf).2; omega)]
      | false => rw [if_neg (by simp), r2 hf]
    have e2 : (if twoP x.op = true then (pre ++ (bytsP x ++ rest)).getD (kB x.op at_) 0 else 0) = x.b := by
      cases hf : twoP x.op with
      | true => rw [if_pos rfl, g2 hf, byt_id (r3 hf).1 (by have := (r3 hf).2; omega)]
      | false => rw [if_neg (by simp), r4 hf]
    have e3 : immP (pre ++ (bytsP x ++ rest)) x.op at_ = x.imm := by
      rcases hw with hw | hw | hw
      · have : x.imm = 0 := Classical.byContradiction fun h' => hb (.inr (.inr (.inr ⟨hw, h'⟩)))
        rw [this]
        unfold immP
        simp only [hw]
        simp
      · rw [immP_1 hw, g3 (by omega)]
        rw [(lim_0 (by omega)).1] at hlo
        rw [(lim_0 (by omega)).2] at hhi
        exact byt_id hlo hhi
      · rw [immP_2 hw, g3 (by omega), g4 hw]
        by_cases h1 : x.op = 1
        · rw [(lim_c ⟨hw, h1⟩).1] at hlo
          rw [(lim_c ⟨hw, h1⟩).2] at hhi
          unfold byt
          split <;> omega
        · rw [(lim_j ⟨hw, h1⟩).1] at hlo
          rw [(lim_j ⟨hw, h1⟩).2] at hhi
          rw [if_neg (fun h => h1 h.1)]
          unfold byt
          omega
    rw [e1, e2, e3]
  have hs := szP_pos.2 hop
  rw [one_ok (by omega) (by rw [g0]; omega) (by rw [hins]; exact hi), hins, g0]

theorem walk_place : ∀ (l : List Ins) (pre : List Int) (at_ : Int), at_ = pre.length → (∀ x ∈ l, fitsP x = 0) → walkA (pre ++ l.flatMap bytsP) at_ = (place at_ l, 0)
  | [], pre, at_, ha, _ => by
    rw [walkA_end (by simp; omega)]
    rfl
  | x :: r, pre, at_, ha, h => by
    have hx := h x (by simp)
    have hop := bad_op (fits_facts hx).1
    have hl := len_byts hop
    have hs := szP_pos.2 hop
    have h4 := szP_le x.op
    have h1 := one_of_byts (x := x) (pre := pre) (rest := r.flatMap bytsP) ha hx
    rw [List.flatMap_cons]
    rw [walkA_ok (by simp only [List.length_append]; omega) (by omega) (by rw [h1]), h1]
    have ih := walk_place r (pre ++ bytsP x) (at_ + szP x.op) (by simp only [List.length_append]; omega) (fun y hy => h y (by simp [hy]))
    rw [List.append_assoc] at ih
    simp only
    rw [ih]
    rfl
theorem place_len : ∀ (a : Int) (l : List Ins), (place a l).length = l.length
  | _, [] => rfl
  | a, x :: r => by simp [place, place_len]
/-- Where instruction i begins. -/
def offI (a : Int) : List Ins → Int
  | [] => a
  | x :: r => offI (a + szP x.op) r
theorem place_get : ∀ (l : List Ins) (a : Int) (i : Nat) (x : Ins), l[i]? = some x → (place a l)[i]? = some { x with at_ := offI a (l.take i) }
  | [], _, i, x, h => by simp at h
  | y :: r, a, 0, x, h => by
    simp at h
    subst h
    rfl
  | y :: r, a, i + 1, x, h => by
    simp only [place, List.getElem?_cons_succ, List.take_succ_cons, offI]
    exact place_get r _ i x (by simpa using h)
theorem off_snoc : ∀ (l : List Ins) (a : Int) (x : Ins), offI a (l ++ [x]) = offI a l + szP x.op
  | [], _, _ => rfl
  | y :: r, a, x => off_snoc r _ x
theorem off_len : ∀ (l : List Ins) (a : Int), (∀ x ∈ l, fitsP x = 0) → offI a l = a + (l.flatMap bytsP).length
  | [], a, _ => by simp [offI]
  | x :: r, a, h => by
    have hop := bad_op (fits_facts (h x (by simp))).1
    have hl := len_byts hop
    rw [offI, off_len r _ (fun y hy => h y (by simp [hy])), List.flatMap_cons, List.length_append]
    omega

/-! ### What is read, written again -/
section
variable {bs : List Int} {at_ : Int}
theorem ins_fits (hu : ∀ x ∈ bs, 0 ≤ x ∧ x ≤ 255) (h : (oneP bs at_).2.2 = 0) : fitsP (insP bs at_) = 0 := by
  obtain ⟨h0, h1, h2, h3, h4, h5⟩ := one_eq h
  have hb := ins_ok h2
  have hop := szP_pos.1 h2
  obtain ⟨hw, hz⟩ := wide_is hop.1 hop.2
  rw [fits_ok hb h4]
  rw [if_neg]
  show ¬ (immP bs (bs.getD at_.toNat 0) at_ < lowP (bs.getD at_.toNat 0) ∨ highP (bs.getD at_.toNat 0) < immP bs (bs.getD at_.toNat 0) at_)
  generalize bs.getD at_.toNat 0 = op at *
  have q0 := byte_ok hu (kI_ op at_ + 0)
  have q1 := byte_ok hu (kI_ op at_ + 1)
  rcases hw with hw | hw | hw
  · rw [(lim_0 (by omega)).1, (lim_0 (by omega)).2]
    have : immP bs op at_ = 0 := by unfold immP; simp only [hw]; simp
    omega
  · rw [(lim_0 (by omega)).1, (lim_0 (by omega)).2, immP_1 hw]
    omega
  · rw [immP_2 hw]
    by_cases h1 : op = 1
    · rw [(lim_c ⟨hw, h1⟩).1, (lim_c ⟨hw, h1⟩).2]
      split <;> omega
    · rw [(lim_j ⟨hw, h1⟩).1, (lim_j ⟨hw, h1⟩).2, if_neg (fun h => h1 h.1)]
      omega
theorem take_drop_cons {k r : Nat} (h : k < bs.length) (hr : 1 ≤ r) : (bs.drop k).take r = bs.getD k 0 :: (bs.drop (k + 1)).take (r - 1) := by
  obtain ⟨r, rfl⟩ : ∃ r', r = r' + 1 := ⟨r - 1, by omega⟩
  rw [List.drop_eq_getElem_cons h, List.take_succ_cons]
  simp [List.getD, List.getElem?_eq_getElem h]
theorem ins_byts (hu : ∀ x ∈ bs, 0 ≤ x ∧ x ≤ 255) (h : (oneP bs at_).2.2 = 0) : bytsP (insP bs at_) = (bs.drop at_.toNat).take (szP (bs.getD at_.toNat 0)).toNat := by
  obtain ⟨h0, h1, h2, h3, h4, h5⟩ := one_eq h
  have hop := szP_pos.1 h2
  obtain ⟨hw, hz⟩ := wide_is hop.1 hop.2
  have hopb := byte_ok hu at_.toNat
  rw [take_drop_cons (by omega) (by omega)]
  unfold bytsP immB
  show byt (bs.getD at_.toNat 0) :: _ = _
  rw [byt_id hopb.1 hopb.2]
  congr 1
  show ((if fstP (bs.getD at_.toNat 0) = true then [byt (if fstP (bs.getD at_.toNat 0) = true then bs.getD (kA at_) 0 else 0)] else []) ++ (if twoP (bs.getD at_.toNat 0) = true then [byt (if twoP (bs.getD at_.toNat 0) = true then bs.getD (kB (bs.getD at_.toNat 0) at_) 0 else 0)] else []) ++
    (if wideP (bs.getD at_.toNat 0) = 2 then [byt (immP bs (bs.getD at_.toNat 0) at_), byt (immP bs (bs.getD at_.toNat 0) at_ / 256)] else if wideP (bs.getD at_.toNat 0) = 1 then [byt (immP bs (bs.getD at_.toNat 0) at_)] else [])) = _
  generalize bs.getD at_.toNat 0 = op at *
  have hA : kA at_ = at_.toNat + 1 := rfl
  have himm : ∀ r : Nat, r = (wideP op).toNat → (kI_ op at_ + r ≤ bs.length) → (if wideP op = 2 then [byt (immP bs op at_), byt (immP bs op at_ / 256)] else if wideP op = 1 then [byt (immP bs op at_)] else []) = (bs.drop (kI_ op at_)).take r := by
    intro r hr hle
    have q0 := byte_ok hu (kI_ op at_ + 0)
    have q1 := byte_ok hu (kI_ op at_ + 1)
    rcases hw with hw | hw | hw
    · rw [if_neg (by omega), if_neg (by omega), hr, hw]
      rfl
    · rw [if_neg (by omega), if_pos hw, hr, hw, immP_1 hw, byt_id q0.1 q0.2]
      rw [show (1 : Int).toNat = 1 from rfl, take_drop_cons (by omega) (by omega)]
      rfl
    · rw [if_pos hw, hr, hw, immP_2 hw]
      rw [show (2 : Int).toNat = 2 from rfl, take_drop_cons (by omega) (by omega), take_drop_cons (by omega) (by omega)]
      simp only [Nat.add_zero] at *
      unfold byt
      split
      · congr 1
        · omega
        · congr 1; omega
      · congr 1
        · omega
        · congr 1; omega
  have hbB : twoP op = true → byt (bs.getD (kB op at_) 0) = bs.getD (kB op at_) 0 := fun _ => byt_id (byte_ok hu _).1 (byte_ok hu _).2
  have hbA : byt (bs.getD (kA at_) 0) = bs.getD (kA at_) 0 := byt_id (byte_ok hu _).1 (byte_ok hu _).2
  cases hf : fstP op with
  | true =>
    have hkB : kB op at_ = at_.toNat + 1 + 1 := by unfold kB; rw [if_pos hf, hA]
    rw [hf, if_pos rfl] at hz
    rw [if_pos rfl, if_pos rfl, hbA, hA, take_drop_cons (by omega) (by omega)]
    cases ht : twoP op with
    | true =>
      have hkI : kI_ op at_ = at_.toNat + 1 + 1 + 1 := by unfold kI_; rw [if_pos ht, hkB]
      rw [ht, if_pos rfl] at hz
      rw [if_pos rfl, if_pos rfl, hbB ht, hkB, take_drop_cons (by omega) (by omega)]
      rw [himm ((szP op).toNat - 1 - 1 - 1) (by omega) (by omega), hkI]
      rfl
    | false =>
      have hkI : kI_ op at_ = at_.toNat + 1 + 1 := by unfold kI_; rw [if_neg (by simp [ht]), hkB]
      rw [ht, if_neg (by simp)] at hz
      rw [if_neg (by simp), himm ((szP op).toNat - 1 - 1) (by omega) (by omega), hkI]
      rfl
  | false =>
    have hkB : kB op at_ = at_.toNat + 1 := by unfold kB; rw [if_neg (by simp [hf]), hA]
    rw [hf, if_neg (by simp)] at hz
    rw [if_neg (by simp)]
    cases ht : twoP op with
    | true =>
      have hkI : kI_ op at_ = at_.toNat + 1 + 1 := by unfold kI_; rw [if_pos ht, hkB]
      rw [ht, if_pos rfl] at hz
      rw [if_pos rfl, if_pos rfl, hbB ht, hkB, take_drop_cons (by omega) (by omega)]
      rw [himm ((szP op).toNat - 1 - 1) (by omega) (by omega), hkI]
      rfl
    | false =>
      have hkI : kI_ op at_ = at_.toNat + 1 := by unfold kI_; rw [if_neg (by simp [ht]), hkB]
      rw [ht, if_neg (by simp)] at hz
      rw [if_neg (by simp), himm ((szP op).toNat - 1) (by omega) (by omega), hkI]
      rfl
theorem walk_byts (hu : ∀ x ∈ bs, 0 ≤ x ∧ x ≤ 255) (h0 : 0 ≤ at_) : (walkA bs at_).2 = 0 → (∀ x ∈ (walkA bs at_).1, fitsP x = 0) ∧ (walkA bs at_).1.flatMap bytsP = bs.drop at_.toNat := by
  refine walk_ind' (bs := bs) (fun at_ r => r.2 = 0 → (∀ x ∈ r.1, fitsP x = 0) ∧ r.1.flatMap bytsP = bs.drop at_.toNat) ?_ ?_ ?_ h0
  · intro a ha hl _
    refine ⟨by simp, ?_⟩
    rw [List.drop_eq_nil_of_le (by omega)]
    rfl
  · intro a ha hl he h
    exact absurd h he
  · intro a ha hl he ih h
    obtain ⟨i1, i2⟩ := ih h
    obtain ⟨h0, h1, h2, h3, h4, h5⟩ := one_eq he
    have hs4 := szP_le (bs.getD a.toNat 0)
    refine ⟨fun x hx => ?_, ?_⟩
    · rcases List.mem_cons.1 hx with rfl | hx
      · rw [h5]
        exact ins_fits hu he
      · exact i1 x hx
    · simp only [List.flatMap_cons]
      rw [i2, h5]
      simp only
      rw [ins_byts hu he]
      rw [show (a + szP (bs.getD a.toNat 0)).toNat = a.toNat + (szP (bs.getD a.toNat 0)).toNat by omega, ← List.drop_drop, List.take_append_drop]
theorem back_dec (hu : ∀ x ∈ bs, 0 ≤ x ∧ x ≤ 255) (hw : (walkP bs).2 = 0) (hl : bs.length ≤ 512) : encP (walkP bs).1 = (bs, 0) := by
  obtain ⟨h1, h2⟩ := walk_byts hu (by omega : (0 : Int) ≤ 0) hw
  have h2 : (walkP bs).1.flatMap bytsP = bs := h2
  have h1 : ∀ x ∈ (walkP bs).1, fitsP x = 0 := h1
  rw [encP_ok h1, h2, if_neg (by omega)]
end
end Go.Proofs.Ytgoecmggbcaoiaa
