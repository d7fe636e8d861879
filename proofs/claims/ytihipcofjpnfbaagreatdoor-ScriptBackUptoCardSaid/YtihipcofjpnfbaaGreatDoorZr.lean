/- A step's field as words, taken out of it; a step with nothing but its kind. -/
import Derived.Test.YtihipcofjpnfbaaGreatDoorSt
set_option linter.unusedVariables false
set_option linter.unusedSimpArgs false
set_option maxRecDepth 100000
set_option maxHeartbeats 8000000
namespace Go.Proofs.YtihipcofjpnfbaaGreatDoor
open Go hiding Expr
open Go.RowKit Tr

def TX.none : TX := ⟨0, 0, [], [], [], []⟩
def TV.none : TV := ⟨Option.none, 0, Option.none, 0, Option.none, 0, Option.none, 0⟩
def fieldR (x : ST) (f : Int) : List UInt8 × Int :=
  if f = 0 then (dI x.at_, 0) else if f = 1 then (dI x.client, 0) else if f = 2 then resT x.tx else if f = 3 then (keysL x.keys, 0) else if f = 4 then (joinL [dI x.frm, dI x.dst], 0) else if f = 5 then (dI x.place, 0) else if f = 6 then (dI x.wth, 0) else if f = 7 then (dI x.keep, 0) else (dI x.count, 0)
def zf (x : ST) (f : Int) : ST :=
  if f = 0 then { x with at_ := 0 } else if f = 1 then { x with client := 0 } else if f = 2 then { x with tx := TX.none } else if f = 3 then { x with keys := [] } else if f = 4 then { x with frm := 0, dst := 0 } else if f = 5 then { x with place := 0 } else if f = 6 then { x with wth := 0 } else if f = 7 then { x with keep := 0 } else { x with count := 0 }
def IsField (f : Int) : Prop := f = 0 ∨ f = 1 ∨ f = 2 ∨ f = 3 ∨ f = 4 ∨ f = 5 ∨ f = 6 ∨ f = 7 ∨ f = 8
theorem zero64 : In64 0 := ⟨by decide, by decide⟩
theorem txNone : TxOk TX.none := ⟨zero64, zero64, by simp [TX.none], by simp [TX.none], by simp [TX.none], by simp [TX.none], by simp [TX.none], by simp [TX.none], by simp [TX.none], by simp [TX.none]⟩
theorem zfOk {x : ST} (h : StOk x) {f : Int} (hf : IsField f) : StOk (zf x f) := by
  rcases hf with rfl | rfl | rfl | rfl | rfl | rfl | rfl | rfl | rfl
  · exact { h with at_ := zero64 }
  · exact { h with client := zero64 }
  · exact { h with tx := txNone }
  · exact { h with keys := by simp [zf], szk := by simp [zf] }
  · exact { h with frm := zero64, dst := zero64 }
  · exact { h with place := zero64 }
  · exact { h with wth := (⟨by decide, by decide⟩ : IsByte 0) }
  · exact { h with keep := zero64 }
  · exact { h with count := zero64 }
theorem join2_len {a b : Int} (ha : In64 a) (hb : In64 b) : (joinL [dI a, dI b]).length ≤ 43 := by
  have := dI_len ha
  have := dI_len hb
  rw [joinL_jt]
  simp only [jt, List.flatMap_cons, List.flatMap_nil, List.length_append, List.length_cons, List.length_nil]
  omega
theorem fieldR_len {x : ST} (h : StOk x) {f : Int} (hf : IsField f) : (fieldR x f).1.length ≤ 134217728 := by
  rcases hf with rfl | rfl | rfl | rfl | rfl | rfl | rfl | rfl | rfl
  · exact Nat.le_trans (dI_len h.at_) (by decide)
  · exact Nat.le_trans (dI_len h.client) (by decide)
  · show (resT x.tx).1.length ≤ _
    unfold resT
    split
    · simp
    · exact txnL_len h.tx
  · exact Nat.le_trans (keysL_len h.keys h.szk) (by decide)
  · exact Nat.le_trans (join2_len h.frm h.dst) (by decide)
  · exact Nat.le_trans (dI_len h.place) (by decide)
  · exact Nat.le_trans (dI_len (n := x.wth) ⟨by have := h.wth.1; omega, by have := h.wth.2; omega⟩) (by decide)
  · exact Nat.le_trans (dI_len h.keep) (by decide)
  · exact Nat.le_trans (dI_len h.count) (by decide)

theorem zero_c {w0 w : World} {g : Nat} {m : Hp} {x : ST} {v : SV27} {f : Int} (hT : Tab w0) (H : Has w0 w (cl g 56 (stv x v) :: m)) (hA : StAt w0 x v) (hx : StOk x) (hf : IsField f) :
    Calls Tryz.prog 52 #[.pointer (some ⟨g, 0, none⟩), .int .i64 f] w fun e w' => ∃ v', e = .returned (.tuple #[.string (S (fieldR x f).1), .int .i64 (fieldR x f).2]) ∧ StAt w0 (zf x f) v' ∧ Has w0 w' (cl g 56 (stv (zf x f) v') :: m) := by
  have hw64 : In64 x.wth := ⟨by have := hx.wth.1; omega, by have := hx.wth.2; omega⟩
  have hml : (2 : Nat) ≤ maxLen := by decide
  simp only [stv] at H
  apply c52
  iterate 5 refine h_ldI H (by repeat (first | exact pick_head | apply pick_tail | apply pick_app)) rfl ?_
  iterate 5 refine h_ldS H (by repeat (first | exact pick_head | apply pick_tail | apply pick_app)) rfl ?_
  iterate 6 refine h_ldI H (by repeat (first | exact pick_head | apply pick_tail | apply pick_app)) rfl ?_
  refine h_new H fun n29 u H => ?_
  iterate 16 (refine h_st H (b := n29) (by repeat (first | exact pick_head | apply pick_tail | apply pick_app)) (by first | (simp; done) | exact Nat.le_of_ble_eq_true rfl) rfl fun u H => ?_; simp only [List.set_cons_zero, List.set_cons_succ] at H)
  simp only [Nat.zero_add]
  rcases hf with rfl | rfl | rfl | rfl | rfl | rfl | rfl | rfl | rfl
  · refine s_true rfl ?_
    refine h_st H (by repeat (first | exact pick_head | apply pick_tail | apply pick_app)) (by first | (simp; done) | exact Nat.le_of_ble_eq_true rfl) rfl fun u H => ?_
    simp only [List.set_cons_zero, List.set_cons_succ] at H
    refine h_ldI H (b := n29) (by repeat (first | exact pick_head | apply pick_tail | apply pick_app)) rfl (s_call (numI_c (hT.fr H.base) hx.at_) ?_)
    rintro _ u ⟨rfl, f⟩
    exact ⟨_, rfl, s_asT (s_ret ⟨v, rfl, ⟨hA.tx, hA.keys⟩, (H.fr0 f).sub (by repeat (first | exact sb_refl | exact sb_nil | refine sb_cons (by repeat (first | exact pick_head | apply pick_tail | apply pick_app)) ?_ | refine sb_app (by repeat (first | exact cut_head | exact cut_all | apply cut_tail | apply cut_app)) ?_ | exact sb_one (by repeat (first | exact cut_head | exact cut_all | apply cut_tail | apply cut_app))))⟩)⟩
  · refine s_false rfl (s_true rfl ?_)
    refine h_st H (by repeat (first | exact pick_head | apply pick_tail | apply pick_app)) (by first | (simp; done) | exact Nat.le_of_ble_eq_true rfl) rfl fun u H => ?_
    simp only [List.set_cons_zero, List.set_cons_succ] at H
    refine h_ldI H (b := n29) (by repeat (first | exact pick_head | apply pick_tail | apply pick_app)) rfl (s_call (numI_c (hT.fr H.base) hx.client) ?_)
    rintro _ u ⟨rfl, f⟩
    exact ⟨_, rfl, s_asT (s_ret ⟨v, rfl, ⟨hA.tx, hA.keys⟩, (H.fr0 f).sub (by repeat (first | exact sb_refl | exact sb_nil | refine sb_cons (by repeat (first | exact pick_head | apply pick_tail | apply pick_app)) ?_ | refine sb_app (by repeat (first | exact cut_head | exact cut_all | apply cut_tail | apply cut_app)) ?_ | exact sb_one (by repeat (first | exact cut_head | exact cut_all | apply cut_tail | apply cut_app))))⟩)⟩
  · refine s_false rfl (s_false rfl (s_true rfl ?_))
    refine h_st H (by repeat (first | exact pick_head | apply pick_tail | apply pick_app)) (by first | (simp; done) | exact Nat.le_of_ble_eq_true rfl) rfl fun u H => ?_
    simp only [List.set_cons_zero, List.set_cons_succ] at H
    refine h_st H (by repeat (first | exact pick_head | apply pick_tail | apply pick_app)) (by first | (simp; done) | exact Nat.le_of_ble_eq_true rfl) rfl fun u H => ?_
    simp only [List.set_cons_zero, List.set_cons_succ] at H
    refine h_st H (by repeat (first | exact pick_head | apply pick_tail | apply pick_app)) (by first | (simp; done) | exact Nat.le_of_ble_eq_true rfl) rfl fun u H => ?_
    simp only [List.set_cons_zero, List.set_cons_succ] at H
    refine h_st H (by repeat (first | exact pick_head | apply pick_tail | apply pick_app)) (by first | (simp; done) | exact Nat.le_of_ble_eq_true rfl) rfl fun u H => ?_
    simp only [List.set_cons_zero, List.set_cons_succ] at H
    refine h_st H (by repeat (first | exact pick_head | apply pick_tail | apply pick_app)) (by first | (simp; done) | exact Nat.le_of_ble_eq_true rfl) rfl fun u H => ?_
    simp only [List.set_cons_zero, List.set_cons_succ] at H
    refine h_st H (by repeat (first | exact pick_head | apply pick_tail | apply pick_app)) (by first | (simp; done) | exact Nat.le_of_ble_eq_true rfl) rfl fun u H => ?_
    simp only [List.set_cons_zero, List.set_cons_succ] at H
    refine h_ldI H (b := n29) (by repeat (first | exact pick_head | apply pick_tail | apply pick_app)) rfl (h_ldI H (b := n29) (by repeat (first | exact pick_head | apply pick_tail | apply pick_app)) rfl (h_ldS H (b := n29) (by repeat (first | exact pick_head | apply pick_tail | apply pick_app)) rfl (h_ldS H (b := n29) (by repeat (first | exact pick_head | apply pick_tail | apply pick_app)) rfl (h_ldS H (b := n29) (by repeat (first | exact pick_head | apply pick_tail | apply pick_app)) rfl (h_ldS H (b := n29) (by repeat (first | exact pick_head | apply pick_tail | apply pick_app)) rfl ?_)))))
    refine s_call (txn_c (v := v.v) (hT.fr H.base) (txFr hA.tx H.base) hx.tx) ?_
    rintro _ u ⟨rfl, f⟩
    refine ⟨_, rfl, s_asU (s_req rfl (s_asT (s_asI (s_ret ⟨⟨TV.none, v.o, v.c⟩, rfl, ⟨⟨.inl rfl, .inl rfl, .inl rfl, .inl rfl⟩, hA.keys⟩, (H.fr0 f).sub (by repeat (first | exact sb_refl | exact sb_nil | refine sb_cons (by repeat (first | exact pick_head | apply pick_tail | apply pick_app)) ?_ | refine sb_app (by repeat (first | exact cut_head | exact cut_all | apply cut_tail | apply cut_app)) ?_ | exact sb_one (by repeat (first | exact cut_head | exact cut_all | apply cut_tail | apply cut_app))))⟩))))⟩
  · refine s_false rfl (s_false rfl (s_false rfl (s_true rfl ?_)))
    refine h_st H (by repeat (first | exact pick_head | apply pick_tail | apply pick_app)) (by first | (simp; done) | exact Nat.le_of_ble_eq_true rfl) rfl fun u H => ?_
    simp only [List.set_cons_zero, List.set_cons_succ] at H
    refine h_ldS H (b := n29) (by repeat (first | exact pick_head | apply pick_tail | apply pick_app)) rfl (s_call (keys_c (hT.fr H.base) (hA.keys.fr H.base) rfl hx.keys hx.szk) ?_)
    rintro _ u ⟨rfl, f⟩
    exact ⟨_, rfl, s_asT (s_ret ⟨⟨v.v, Option.none, 0⟩, rfl, ⟨hA.tx, .inl rfl⟩, (H.fr0 f).sub (by repeat (first | exact sb_refl | exact sb_nil | refine sb_cons (by repeat (first | exact pick_head | apply pick_tail | apply pick_app)) ?_ | refine sb_app (by repeat (first | exact cut_head | exact cut_all | apply cut_tail | apply cut_app)) ?_ | exact sb_one (by repeat (first | exact cut_head | exact cut_all | apply cut_tail | apply cut_app))))⟩)⟩
  · refine s_false rfl (s_false rfl (s_false rfl (s_false rfl (s_true rfl ?_))))
    refine h_st H (by repeat (first | exact pick_head | apply pick_tail | apply pick_app)) (by first | (simp; done) | exact Nat.le_of_ble_eq_true rfl) rfl fun u H => ?_
    simp only [List.set_cons_zero, List.set_cons_succ] at H
    refine h_st H (by repeat (first | exact pick_head | apply pick_tail | apply pick_app)) (by first | (simp; done) | exact Nat.le_of_ble_eq_true rfl) rfl fun u H => ?_
    simp only [List.set_cons_zero, List.set_cons_succ] at H
    refine h_drew H fun u H => h_ldI H (b := n29) (by repeat (first | exact pick_head | apply pick_tail | apply pick_app)) rfl (h_ldI H (b := n29) (by repeat (first | exact pick_head | apply pick_tail | apply pick_app)) rfl ?_)
    refine s_call (numI_c (hT.fr H.base) hx.frm) ?_
    rintro _ u ⟨rfl, f⟩
    have H := H.fr0 f
    refine ⟨_, rfl, s_asT (s_chk (hc_cons H (b := n29) (by repeat (first | exact pick_head | apply pick_tail | apply pick_app)) rfl c_nil) (s_call (numI_c (hT.fr H.base) hx.dst) ?_))⟩
    rintro _ u ⟨rfl, f⟩
    have H := H.fr0 f
    refine ⟨_, rfl, s_asT (s_chk c_nil ?_)⟩
    (refine h_new H fun n65 u H => ?_)
    refine s_chk c_nil ?_
    have hl := join2_len hx.frm hx.dst
    refine s_call (join_c (l := [dI x.frm, dI x.dst]) (rowsAt_cells (ty := 9) (sp := []) (sr1 _) (H.cells (by repeat (first | exact pick_head | apply pick_tail | apply pick_app)))) rfl (by decide) (by simp) (by simp) (Nat.le_trans hl (by decide))) ?_
    rintro _ u ⟨rfl, f⟩
    exact ⟨_, rfl, s_asT (s_chk c_nil (s_ret ⟨v, rfl, ⟨hA.tx, hA.keys⟩, (H.fr0 f).sub (by repeat (first | exact sb_refl | exact sb_nil | refine sb_cons (by repeat (first | exact pick_head | apply pick_tail | apply pick_app)) ?_ | refine sb_app (by repeat (first | exact cut_head | exact cut_all | apply cut_tail | apply cut_app)) ?_ | exact sb_one (by repeat (first | exact cut_head | exact cut_all | apply cut_tail | apply cut_app))))⟩))⟩
  · refine s_false rfl (s_false rfl (s_false rfl (s_false rfl (s_false rfl (s_true rfl ?_)))))
    refine h_st H (by repeat (first | exact pick_head | apply pick_tail | apply pick_app)) (by first | (simp; done) | exact Nat.le_of_ble_eq_true rfl) rfl fun u H => ?_
    simp only [List.set_cons_zero, List.set_cons_succ] at H
    refine h_ldI H (b := n29) (by repeat (first | exact pick_head | apply pick_tail | apply pick_app)) rfl (s_call (numI_c (hT.fr H.base) hx.place) ?_)
    rintro _ u ⟨rfl, f⟩
    exact ⟨_, rfl, s_asT (s_ret ⟨v, rfl, ⟨hA.tx, hA.keys⟩, (H.fr0 f).sub (by repeat (first | exact sb_refl | exact sb_nil | refine sb_cons (by repeat (first | exact pick_head | apply pick_tail | apply pick_app)) ?_ | refine sb_app (by repeat (first | exact cut_head | exact cut_all | apply cut_tail | apply cut_app)) ?_ | exact sb_one (by repeat (first | exact cut_head | exact cut_all | apply cut_tail | apply cut_app))))⟩)⟩
  · refine s_false rfl (s_false rfl (s_false rfl (s_false rfl (s_false rfl (s_false rfl (s_true rfl ?_))))))
    refine h_st H (by repeat (first | exact pick_head | apply pick_tail | apply pick_app)) (by first | (simp; done) | exact Nat.le_of_ble_eq_true rfl) rfl fun u H => ?_
    simp only [List.set_cons_zero, List.set_cons_succ] at H
    refine h_ldI H (b := n29) (by repeat (first | exact pick_head | apply pick_tail | apply pick_app)) rfl ?_
    rw [wrapI hw64.1 hw64.2]
    refine s_call (numI_c (hT.fr H.base) hw64) ?_
    rintro _ u ⟨rfl, f⟩
    exact ⟨_, rfl, s_asT (s_ret ⟨v, rfl, ⟨hA.tx, hA.keys⟩, (H.fr0 f).sub (by repeat (first | exact sb_refl | exact sb_nil | refine sb_cons (by repeat (first | exact pick_head | apply pick_tail | apply pick_app)) ?_ | refine sb_app (by repeat (first | exact cut_head | exact cut_all | apply cut_tail | apply cut_app)) ?_ | exact sb_one (by repeat (first | exact cut_head | exact cut_all | apply cut_tail | apply cut_app))))⟩)⟩
  · refine s_false rfl (s_false rfl (s_false rfl (s_false rfl (s_false rfl (s_false rfl (s_false rfl (s_true rfl ?_)))))))
    refine h_st H (by repeat (first | exact pick_head | apply pick_tail | apply pick_app)) (by first | (simp; done) | exact Nat.le_of_ble_eq_true rfl) rfl fun u H => ?_
    simp only [List.set_cons_zero, List.set_cons_succ] at H
    refine h_ldI H (b := n29) (by repeat (first | exact pick_head | apply pick_tail | apply pick_app)) rfl (s_call (numI_c (hT.fr H.base) hx.keep) ?_)
    rintro _ u ⟨rfl, f⟩
    exact ⟨_, rfl, s_asT (s_ret ⟨v, rfl, ⟨hA.tx, hA.keys⟩, (H.fr0 f).sub (by repeat (first | exact sb_refl | exact sb_nil | refine sb_cons (by repeat (first | exact pick_head | apply pick_tail | apply pick_app)) ?_ | refine sb_app (by repeat (first | exact cut_head | exact cut_all | apply cut_tail | apply cut_app)) ?_ | exact sb_one (by repeat (first | exact cut_head | exact cut_all | apply cut_tail | apply cut_app))))⟩)⟩
  · refine s_false rfl (s_false rfl (s_false rfl (s_false rfl (s_false rfl (s_false rfl (s_false rfl (s_false rfl ?_)))))))
    refine h_st H (by repeat (first | exact pick_head | apply pick_tail | apply pick_app)) (by first | (simp; done) | exact Nat.le_of_ble_eq_true rfl) rfl fun u H => ?_
    simp only [List.set_cons_zero, List.set_cons_succ] at H
    refine h_ldI H (b := n29) (by repeat (first | exact pick_head | apply pick_tail | apply pick_app)) rfl (s_call (numI_c (hT.fr H.base) hx.count) ?_)
    rintro _ u ⟨rfl, f⟩
    exact ⟨_, rfl, s_asT (s_ret ⟨v, rfl, ⟨hA.tx, hA.keys⟩, (H.fr0 f).sub (by repeat (first | exact sb_refl | exact sb_nil | refine sb_cons (by repeat (first | exact pick_head | apply pick_tail | apply pick_app)) ?_ | refine sb_app (by repeat (first | exact cut_head | exact cut_all | apply cut_tail | apply cut_app)) ?_ | exact sb_one (by repeat (first | exact cut_head | exact cut_all | apply cut_tail | apply cut_app))))⟩)⟩

def isNone (x : ST) : Bool := x.at_ == 0 && x.client == 0 && x.tx.s == 0 && x.tx.q == 0 && (x.tx.code.length + x.tx.args.length + x.tx.rd.length + x.tx.wr.length + x.keys.length) == 0 && x.frm == 0 && x.dst == 0 && x.place == 0 && x.wth == 0 && x.keep == 0 && x.count == 0
theorem none_c {w : World} {x : ST} {v : SV27} (hx : StOk x) : Calls Tryz.prog 53 #[.agg ⟨stv x v⟩] w fun e w' => e = .returned (.bool (isNone x)) ∧ Fr [] w w' := by
  have s1 := hx.tx.szc
  have s2 := hx.tx.sza
  have s3 := hx.tx.szr
  have s4 := hx.tx.szw
  have s5 := hx.szk
  apply c53
  refine h_new (Has.init w) fun n26 u H => ?_
  iterate 2 refine h_ldI H (by repeat (first | exact pick_head | apply pick_tail | apply pick_app)) rfl ?_
  iterate 4 refine h_ldS H (by repeat (first | exact pick_head | apply pick_tail | apply pick_app)) rfl ?_
  refine h_new H fun n41 u H => ?_
  iterate 6 (refine h_st H (b := n41) (by repeat (first | exact pick_head | apply pick_tail | apply pick_app)) (by first | (simp; done) | exact Nat.le_of_ble_eq_true rfl) rfl fun u H => ?_; simp only [List.set_cons_zero, List.set_cons_succ] at H)
  refine h_ldI H (b := n26) (by repeat (first | exact pick_head | apply pick_tail | apply pick_app)) rfl (s_ite (fun g1 => ?_) (fun g1 => s_ret ⟨by unfold isNone; rw [g1]; simp, H.base⟩))
  refine h_ldI H (b := n26) (by repeat (first | exact pick_head | apply pick_tail | apply pick_app)) rfl (s_ite (fun g2 => ?_) (fun g2 => s_ret ⟨by unfold isNone; rw [g2]; simp, H.base⟩))
  refine h_ldI H (b := n41) (by repeat (first | exact pick_head | apply pick_tail | apply pick_app)) rfl (s_ite (fun g3 => ?_) (fun g3 => s_ret ⟨by unfold isNone; rw [g3]; simp, H.base⟩))
  refine h_ldI H (b := n41) (by repeat (first | exact pick_head | apply pick_tail | apply pick_app)) rfl (s_ite (fun g4 => ?_) (fun g4 => s_ret ⟨by unfold isNone; rw [g4]; simp, H.base⟩))
  iterate 4 refine h_ldS H (b := n41) (by repeat (first | exact pick_head | apply pick_tail | apply pick_app)) rfl ?_
  refine h_ldS H (b := n26) (by repeat (first | exact pick_head | apply pick_tail | apply pick_app)) rfl ?_
  rw [w_add (by omega), w_add (by omega), w_add (by omega), w_add (by omega)]
  refine s_ite (fun g5 => ?_) (fun g5 => s_ret ⟨?_, H.base⟩)
  · have g5 : (x.tx.code.length + x.tx.args.length + x.tx.rd.length + x.tx.wr.length + x.keys.length == 0) = true := by
      simp only [beq_iff_eq] at g5 ⊢
      omega
    iterate 2 refine h_ldI H (b := n26) (by repeat (first | exact pick_head | apply pick_tail | apply pick_app)) rfl ?_
    refine s_ite (fun g6 => ?_) (fun g6 => s_ret ⟨?_, H.base⟩)
    · simp only [Bool.and_true, Bool.and_eq_true] at g6
      refine h_ldI H (b := n26) (by repeat (first | exact pick_head | apply pick_tail | apply pick_app)) rfl (s_ite (fun g7 => ?_) (fun g7 => s_ret ⟨by unfold isNone; rw [g7]; simp, H.base⟩))
      refine h_ldI H (b := n26) (by repeat (first | exact pick_head | apply pick_tail | apply pick_app)) rfl (s_ite (fun g8 => ?_) (fun g8 => s_ret ⟨by unfold isNone; rw [g8]; simp, H.base⟩))
      refine h_ldI H (b := n26) (by repeat (first | exact pick_head | apply pick_tail | apply pick_app)) rfl (s_ite (fun g9 => ?_) (fun g9 => s_ret ⟨by unfold isNone; rw [g9]; simp, H.base⟩))
      refine h_ldI H (b := n26) (by repeat (first | exact pick_head | apply pick_tail | apply pick_app)) rfl (s_ret ⟨?_, H.base⟩)
      unfold isNone
      rw [g1, g2, g3, g4, g5, g6.1, g6.2, g7, g8, g9]
      simp
    · unfold isNone
      simp only [Bool.and_true] at g6
      have : (x.frm == 0 && x.dst == 0) = false := g6
      rcases Bool.and_eq_false_iff.1 this with h | h <;> rw [h] <;> simp
  · have g5 : (x.tx.code.length + x.tx.args.length + x.tx.rd.length + x.tx.wr.length + x.keys.length == 0) = false := by
      rw [beq_eq_false_iff_ne] at g5 ⊢
      omega
    unfold isNone
    rw [g5]
    simp
end Go.Proofs.YtihipcofjpnfbaaGreatDoor
