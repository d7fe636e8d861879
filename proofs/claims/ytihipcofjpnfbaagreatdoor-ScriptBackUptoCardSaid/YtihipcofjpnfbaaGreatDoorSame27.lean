/- The reference's looks whether two steps are the same. -/
import Derived.Test.YtihipcofjpnfbaaGreatDoorZr
set_option linter.unusedVariables false
set_option linter.unusedSimpArgs false
set_option maxRecDepth 100000
set_option maxHeartbeats 8000000
namespace Go.Proofs.YtihipcofjpnfbaaGreatDoor
open Go hiding Expr
open Go.RowKit Tr

theorem toList_loop (bs : ByteArray) : ∀ (n i : Nat) (r : List UInt8), bs.size - i = n → ByteArray.toList.loop bs i r = r.reverse ++ bs.data.toList.drop i := by
  intro n
  induction n with
  | zero =>
    intro i r h
    unfold ByteArray.toList.loop
    rw [if_neg (by omega), List.drop_eq_nil_of_le (by rw [Array.length_toList]; have : bs.data.size = bs.size := rfl; omega), List.append_nil]
  | succ n ih =>
    intro i r h
    unfold ByteArray.toList.loop
    have hlt : i < bs.data.toList.length := by rw [Array.length_toList]; have : bs.data.size = bs.size := rfl; omega
    rw [if_pos (by omega), ih (i + 1) _ (by omega), List.drop_eq_getElem_cons hlt]
    have : bs.get! i = bs.data.toList[i] := by
      show bs.data[i]! = _
      rw [getElem!_pos bs.data i (by simpa using hlt)]
      simp
    rw [this]
    simp
theorem S_toList (a : List UInt8) : (S a).toList = a := by
  unfold ByteArray.toList
  rw [toList_loop (S a) _ 0 [] rfl]
  simp

section
variable {w : World} {o1 o2 : Option Addr} {n1 n2 c1 c2 : Nat}
theorem take_same {α : Type} {a b : List α} {i : Nat} {x y : α} (ht : a.take i = b.take i) (hx : a[i]? = some x) (hy : b[i]? = some y) (h : x = y) : a.take (i + 1) = b.take (i + 1) := by
  rw [List.take_add_one, List.take_add_one, ht, hx, hy, h]
theorem same_keys_c {a b : List K} (ha : KeysAt w o1 a) (hb : KeysAt w o2 b) (h1 : n1 = a.length) (h2 : n2 = b.length) (hsz : a.length ≤ 1048576) : Calls Tryz.prog 47 #[.slice o1 n1 c1, .slice o2 n2 c2] w fun e w' => e = .returned (.bool (decide (a = b))) ∧ Fr [] w w' := by
  subst h1 h2
  apply c47
  refine s_ite (fun g => ?_) (fun g => ?_)
  · simp only [bne_iff_ne, ne_eq, Int.natCast_inj] at g
    exact s_ret ⟨by rw [decide_eq_false (fun e => g (by rw [e]))], Fr.refl _ _⟩
  · have hl : a.length = b.length := by simp at g; omega
    refine s_loop (fun vs W => ∃ i : Nat, vs = [.int .i64 i] ∧ i ≤ a.length ∧ a.take i = b.take i ∧ Fr [] w W) (fun vs _ => a.length - (intOf (vs.getD 0 undef)).toNat) ⟨0, rfl, by omega, rfl, Fr.refl _ _⟩ ?_
    rintro _ j W ⟨i, rfl, hi, ht, hf⟩
    refine s_asI (s_ite (fun g1 => ?_) (fun g1 => ?_))
    · simp only [decide_eq_true_eq] at g1
      obtain ⟨x, hx⟩ : ∃ c, a[i]? = some c := ⟨_, List.getElem?_eq_getElem (by omega)⟩
      obtain ⟨y, hy⟩ : ∃ c, b[i]? = some c := ⟨_, List.getElem?_eq_getElem (by omega)⟩
      refine s_drew fun u _ f => ?_
      have hf := hf.trans f
      obtain ⟨g2, off2, rfl, p1, p2⟩ := keysGet (ha.fr hf) hx
      obtain ⟨g3, off3, rfl, p3, p4⟩ := keysGet (hb.fr hf) hy
      refine s_req ⟨by omega, by omega⟩ (s_sm (s_loadI p1 (s_loadI p2 (s_req ⟨by omega, by omega⟩ (s_sm (s_loadI p3 (s_loadI p4 (s_ite (fun g4 => ?_) (fun g4 => ?_)))))))))
      · refine s_ret ⟨?_, hf⟩
        rw [decide_eq_false]
        intro e
        rw [e, hy] at hx
        cases hx
        simp at g4
      · have hxy : x = y := by
          simp at g4
          cases x
          cases y
          simp_all
        refine s_next (by first | exact ⟨rfl, rfl⟩ | trivial) ?_
        simp (config := { decide := true }) only [if_true, if_false]
        exact ⟨⟨i + 1, by rw [w_succ (by omega)], by omega, take_same ht hx hy hxy, hf⟩, by rw [w_succ (by omega)]; simp [intOf] <;> omega⟩
    · simp only [decide_eq_false_iff_not] at g1
      rw [List.take_of_length_le (by omega), List.take_of_length_le (by omega)] at ht
      exact s_ret ⟨by rw [decide_eq_true ht], hf⟩
theorem same_vals_c {a b : List Int} (ha : ArgsAt w o1 a) (hb : ArgsAt w o2 b) (h1 : n1 = a.length) (h2 : n2 = b.length) (hsz : a.length ≤ 1048576) : Calls Tryz.prog 72 #[.slice o1 n1 c1, .slice o2 n2 c2] w fun e w' => e = .returned (.bool (decide (a = b))) ∧ Fr [] w w' := by
  subst h1 h2
  apply c72
  refine s_ite (fun g => ?_) (fun g => ?_)
  · simp only [bne_iff_ne, ne_eq, Int.natCast_inj] at g
    exact s_ret ⟨by rw [decide_eq_false (fun e => g (by rw [e]))], Fr.refl _ _⟩
  · have hl : a.length = b.length := by simp at g; omega
    refine s_loop (fun vs W => ∃ i : Nat, vs = [.int .i64 i] ∧ i ≤ a.length ∧ a.take i = b.take i ∧ Fr [] w W) (fun vs _ => a.length - (intOf (vs.getD 0 undef)).toNat) ⟨0, rfl, by omega, rfl, Fr.refl _ _⟩ ?_
    rintro _ j W ⟨i, rfl, hi, ht, hf⟩
    refine s_asI (s_ite (fun g1 => ?_) (fun g1 => ?_))
    · simp only [decide_eq_true_eq] at g1
      obtain ⟨x, hx⟩ : ∃ c, a[i]? = some c := ⟨_, List.getElem?_eq_getElem (by omega)⟩
      obtain ⟨y, hy⟩ : ∃ c, b[i]? = some c := ⟨_, List.getElem?_eq_getElem (by omega)⟩
      refine s_drew fun u _ f => ?_
      have hf := hf.trans f
      obtain ⟨g2, off2, rfl, p1⟩ := argsGet (ha.fr hf) hx
      obtain ⟨g3, off3, rfl, p3⟩ := argsGet (hb.fr hf) hy
      refine s_req ⟨by omega, by omega⟩ (s_sm (s_loadI p1 (s_req ⟨by omega, by omega⟩ (s_sm (s_loadI p3 (s_ite (fun g4 => ?_) (fun g4 => ?_)))))))
      · refine s_ret ⟨?_, hf⟩
        rw [decide_eq_false]
        intro e
        rw [e, hy] at hx
        cases hx
        simp at g4
      · have hxy : x = y := by simpa using g4
        refine s_next (by first | exact ⟨rfl, rfl⟩ | trivial) ?_
        simp (config := { decide := true }) only [if_true, if_false]
        exact ⟨⟨i + 1, by rw [w_succ (by omega)], by omega, take_same ht hx hy hxy, hf⟩, by rw [w_succ (by omega)]; simp [intOf] <;> omega⟩
    · simp only [decide_eq_false_iff_not] at g1
      rw [List.take_of_length_le (by omega), List.take_of_length_le (by omega)] at ht
      exact s_ret ⟨by rw [decide_eq_true ht], hf⟩
end

section
variable {w : World}
theorem same_txn_c {x y : TX} {v v' : TV} (ha : TxAt w x v) (hb : TxAt w y v') (hx : TxOk x) (hy : TxOk y) : Calls Tryz.prog 46 #[.agg ⟨txv x v⟩, .agg ⟨txv y v'⟩] w fun e w' => e = .returned (.bool (decide (x = y))) ∧ Fr [] w w' := by
  have sz1 := hx.szc
  have sz2 := hx.sza
  have sz3 := hx.szr
  have sz4 := hx.szw
  have sz5 := hy.szc
  apply c46
  refine h_new (Has.init w) fun n28 u H => h_new H fun n29 u H => ?_
  refine s_blk (fun vs W => vs = [] ∧ x.s = y.s ∧ x.q = y.q ∧ x.code.length = y.code.length ∧ x.args = y.args ∧ Has w W [cl n29 52 (txv y v'), cl n28 52 (txv x v)]) ?_ ?_
  · clear H
    rintro _ j W ⟨rfl, e1, e2, e3, e4, H⟩
    refine s_loop (fun vs W => ∃ i : Nat, vs = [.int .i64 i] ∧ i ≤ x.code.length ∧ x.code.take i = y.code.take i ∧ Has w W [cl n29 52 (txv y v'), cl n28 52 (txv x v)]) (fun vs _ => x.code.length - (intOf (vs.getD 0 undef)).toNat) ⟨0, rfl, by omega, rfl, H⟩ ?_
    clear H
    rintro _ j W ⟨i, rfl, hi, ht, H⟩
    refine s_asI (h_ldS H (b := n28) (by repeat (first | exact pick_head | apply pick_tail | apply pick_app)) rfl (s_ite (fun g1 => ?_) (fun g1 => ?_)))
    · simp only [decide_eq_true_eq] at g1
      obtain ⟨a, hxa⟩ : ∃ c, x.code[i]? = some c := ⟨_, List.getElem?_eq_getElem (by omega)⟩
      obtain ⟨b, hyb⟩ : ∃ c, y.code[i]? = some c := ⟨_, List.getElem?_eq_getElem (by omega)⟩
      refine h_drew H fun u H => ?_
      obtain ⟨g2, off2, he2, p1⟩ := (ha.code.fr0 H.base).get hxa
      obtain ⟨g3, off3, he3, p3⟩ := (hb.code.fr0 H.base).get hyb
      refine h_ldS H (b := n28) (by repeat (first | exact pick_head | apply pick_tail | apply pick_app)) rfl (s_req ⟨by omega, by omega⟩ ⟨g2, off2, he2, s_loadI p1 (h_ldS H (b := n29) (by repeat (first | exact pick_head | apply pick_tail | apply pick_app)) rfl (s_req ⟨by omega, by omega⟩ ⟨g3, off3, he3, s_loadI p3 (s_ite (fun g4 => ?_) (fun g4 => ?_))⟩))⟩)
      · refine s_ret ⟨?_, H.base⟩
        rw [decide_eq_false]
        intro e
        rw [e, hyb] at hxa
        cases hxa
        simp at g4
      · have hxy : a = b := by simpa using g4
        refine s_next (by first | exact ⟨rfl, rfl⟩ | trivial) ?_
        simp (config := { decide := true }) only [if_true, if_false]
        exact ⟨⟨i + 1, by rw [w_succ (by omega)], by omega, take_same ht hxa hyb hxy, H⟩, by rw [w_succ (by omega)]; simp [intOf] <;> omega⟩
    · simp only [decide_eq_false_iff_not] at g1
      rw [List.take_of_length_le (by omega), List.take_of_length_le (by omega)] at ht
      refine h_ldS H (b := n28) (by repeat (first | exact pick_head | apply pick_tail | apply pick_app)) rfl (h_ldS H (b := n29) (by repeat (first | exact pick_head | apply pick_tail | apply pick_app)) rfl ?_)
      refine s_call (same_keys_c (ha.rd.fr H.base) (hb.rd.fr H.base) rfl rfl hx.szr) ?_
      rintro _ u ⟨rfl, f⟩
      have H := H.fr0 f
      refine ⟨_, rfl, s_asB (s_ite (fun g5 => ?_) (fun g5 => ?_))⟩
      · simp only [decide_eq_true_eq] at g5
        refine h_ldS H (b := n28) (by repeat (first | exact pick_head | apply pick_tail | apply pick_app)) rfl (h_ldS H (b := n29) (by repeat (first | exact pick_head | apply pick_tail | apply pick_app)) rfl ?_)
        refine s_call (same_keys_c (ha.wr.fr H.base) (hb.wr.fr H.base) rfl rfl hx.szw) ?_
        rintro _ u ⟨rfl, f⟩
        refine ⟨_, rfl, s_asB (s_ret ⟨?_, H.base.trans f⟩)⟩
        have : (x.wr = y.wr) ↔ (x = y) := by
          constructor
          · intro e
            cases x
            cases y
            simp_all
          · rintro rfl
            rfl
        rw [decide_eq_decide.2 this]
      · simp only [decide_eq_false_iff_not] at g5
        exact s_ret ⟨by rw [decide_eq_false (fun e => g5 (by rw [e]))], H.base⟩
  · refine h_ldI H (b := n28) (by repeat (first | exact pick_head | apply pick_tail | apply pick_app)) rfl (h_ldI H (b := n29) (by repeat (first | exact pick_head | apply pick_tail | apply pick_app)) rfl (s_ite (fun g => ?_) (fun g => ?_)))
    · exact s_ret ⟨by rw [decide_eq_false (fun e => by rw [e] at g; simp at g)], H.base⟩
    · have e1 : x.s = y.s := by simpa using g
      refine h_ldI H (b := n28) (by repeat (first | exact pick_head | apply pick_tail | apply pick_app)) rfl (h_ldI H (b := n29) (by repeat (first | exact pick_head | apply pick_tail | apply pick_app)) rfl (s_ite (fun g => ?_) (fun g => ?_)))
      · exact s_ret ⟨by rw [decide_eq_false (fun e => by rw [e] at g; simp at g)], H.base⟩
      · have e2 : x.q = y.q := by simpa using g
        refine h_ldS H (b := n28) (by repeat (first | exact pick_head | apply pick_tail | apply pick_app)) rfl (h_ldS H (b := n29) (by repeat (first | exact pick_head | apply pick_tail | apply pick_app)) rfl (s_ite (fun g => ?_) (fun g => ?_)))
        · exact s_ret ⟨by rw [decide_eq_false (fun e => by rw [e] at g; simp at g)], H.base⟩
        · have e3 : x.code.length = y.code.length := by simp at g; omega
          refine h_ldS H (b := n28) (by repeat (first | exact pick_head | apply pick_tail | apply pick_app)) rfl (h_ldS H (b := n29) (by repeat (first | exact pick_head | apply pick_tail | apply pick_app)) rfl ?_)
          refine s_call (same_vals_c (ha.args.fr H.base) (hb.args.fr H.base) rfl rfl hx.sza) ?_
          rintro _ u ⟨rfl, f⟩
          have H := H.fr0 f
          refine ⟨_, rfl, s_asB (s_ite (fun g => ?_) (fun g => ?_))⟩
          · have e4 : ¬ x.args = y.args := by simpa using g
            exact s_ret ⟨by rw [decide_eq_false (fun e => e4 (by rw [e]))], H.base⟩
          · have e4 : x.args = y.args := by simpa using g
            exact s_next ⟨rfl, rfl⟩ ⟨rfl, e1, e2, e3, e4, H⟩

theorem same_step_c {x y : ST} {v v' : SV27} (ha : StAt w x v) (hb : StAt w y v') (hx : StOk x) (hy : StOk y) : Calls Tryz.prog 21 #[.agg ⟨stv x v⟩, .agg ⟨stv y v'⟩] w fun e w' => e = .returned (.bool (decide (x = y))) ∧ Fr [] w w' := by
  apply c21
  refine h_new (Has.init w) fun n52 u H => h_new H fun n53 u H => ?_
  refine h_ldI H (b := n52) (by repeat (first | exact pick_head | apply pick_tail | apply pick_app)) rfl (h_ldI H (b := n53) (by repeat (first | exact pick_head | apply pick_tail | apply pick_app)) rfl (s_ite (fun g1 => ?_) (fun g => s_ret ⟨by rw [decide_eq_false (fun e => by rw [e] at g; simp at g)], H.base⟩)))
  refine h_ldI H (b := n52) (by repeat (first | exact pick_head | apply pick_tail | apply pick_app)) rfl (h_ldI H (b := n53) (by repeat (first | exact pick_head | apply pick_tail | apply pick_app)) rfl (s_ite (fun g2 => ?_) (fun g => s_ret ⟨by rw [decide_eq_false (fun e => by rw [e] at g; simp at g)], H.base⟩)))
  refine h_ldI H (b := n52) (by repeat (first | exact pick_head | apply pick_tail | apply pick_app)) rfl (h_ldI H (b := n53) (by repeat (first | exact pick_head | apply pick_tail | apply pick_app)) rfl (s_ite (fun g3 => ?_) (fun g => s_ret ⟨by rw [decide_eq_false (fun e => by rw [e] at g; simp at g)], H.base⟩)))
  iterate 2 refine h_ldI H (b := n52) (by repeat (first | exact pick_head | apply pick_tail | apply pick_app)) rfl ?_
  iterate 4 refine h_ldS H (b := n52) (by repeat (first | exact pick_head | apply pick_tail | apply pick_app)) rfl ?_
  iterate 2 refine h_ldI H (b := n53) (by repeat (first | exact pick_head | apply pick_tail | apply pick_app)) rfl ?_
  iterate 4 refine h_ldS H (b := n53) (by repeat (first | exact pick_head | apply pick_tail | apply pick_app)) rfl ?_
  refine s_call (same_txn_c (v := v.v) (v' := v'.v) (txFr ha.tx H.base) (txFr hb.tx H.base) hx.tx hy.tx) ?_
  rintro _ u ⟨rfl, f⟩
  have H := H.fr0 f
  refine ⟨_, rfl, s_asB (s_ite (fun g4 => ?_) (fun g => s_ret ⟨by rw [decide_eq_false (fun e => by rw [e] at g; simp at g)], H.base⟩))⟩
  refine h_ldS H (b := n52) (by repeat (first | exact pick_head | apply pick_tail | apply pick_app)) rfl (h_ldS H (b := n53) (by repeat (first | exact pick_head | apply pick_tail | apply pick_app)) rfl ?_)
  refine s_call (same_keys_c (ha.keys.fr H.base) (hb.keys.fr H.base) rfl rfl hx.szk) ?_
  rintro _ u ⟨rfl, f⟩
  have H := H.fr0 f
  refine ⟨_, rfl, s_asB (s_ite (fun g5 => ?_) (fun g => s_ret ⟨by rw [decide_eq_false (fun e => by rw [e] at g; simp at g)], H.base⟩))⟩
  iterate 2 refine h_ldI H (b := n52) (by repeat (first | exact pick_head | apply pick_tail | apply pick_app)) rfl ?_
  iterate 2 refine h_ldI H (b := n53) (by repeat (first | exact pick_head | apply pick_tail | apply pick_app)) rfl ?_
  refine s_ite (fun g6 => ?_) (fun g => s_ret ⟨by rw [decide_eq_false (fun e => by rw [e] at g; simp at g)], H.base⟩)
  refine h_ldI H (b := n52) (by repeat (first | exact pick_head | apply pick_tail | apply pick_app)) rfl (h_ldI H (b := n53) (by repeat (first | exact pick_head | apply pick_tail | apply pick_app)) rfl (s_ite (fun g7 => ?_) (fun g => s_ret ⟨by rw [decide_eq_false (fun e => by rw [e] at g; simp at g)], H.base⟩)))
  refine h_ldI H (b := n52) (by repeat (first | exact pick_head | apply pick_tail | apply pick_app)) rfl (h_ldI H (b := n53) (by repeat (first | exact pick_head | apply pick_tail | apply pick_app)) rfl (s_ite (fun g8 => ?_) (fun g => s_ret ⟨by rw [decide_eq_false (fun e => by rw [e] at g; simp at g)], H.base⟩)))
  refine h_ldI H (b := n52) (by repeat (first | exact pick_head | apply pick_tail | apply pick_app)) rfl (h_ldI H (b := n53) (by repeat (first | exact pick_head | apply pick_tail | apply pick_app)) rfl (s_ite (fun g9 => ?_) (fun g => s_ret ⟨by rw [decide_eq_false (fun e => by rw [e] at g; simp at g)], H.base⟩)))
  refine h_ldI H (b := n52) (by repeat (first | exact pick_head | apply pick_tail | apply pick_app)) rfl (h_ldI H (b := n53) (by repeat (first | exact pick_head | apply pick_tail | apply pick_app)) rfl (s_ret ⟨?_, H.base⟩))
  have : (x.count = y.count) ↔ (x = y) := by
    simp only [beq_iff_eq, decide_eq_true_eq, Bool.and_true, Bool.and_eq_true] at g1 g2 g3 g4 g5 g6 g7 g8 g9
    constructor
    · intro e
      cases x
      cases y
      simp_all
    · rintro rfl
      rfl
  rw [← decide_eq_decide.2 this]
  rfl
end
end Go.Proofs.YtihipcofjpnfbaaGreatDoor
