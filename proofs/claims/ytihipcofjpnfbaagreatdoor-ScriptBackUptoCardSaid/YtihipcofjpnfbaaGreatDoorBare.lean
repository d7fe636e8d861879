/- The reference's step with the fields that its line has alone. -/
import Derived.Test.YtihipcofjpnfbaaGreatDoorSame27
import Derived.Test.YtihipcofjpnfbaaGreatDoorTreesD
set_option linter.unusedVariables false
set_option linter.unusedSimpArgs false
set_option maxRecDepth 100000
set_option maxHeartbeats 8000000
namespace Go.Proofs.YtihipcofjpnfbaaGreatDoor
open Go hiding Expr
open Go.RowKit Tr

def wordK (k : Int) : List UInt8 := if 1 ≤ k ∧ k ≤ 20 then (forms.getD k.toNat ([], [])).1 else []
def bareS (x : ST) : ST :=
  let z : ST := ⟨x.kind, 0, 0, TX.none, [], 0, 0, 0, 0, 0, 0⟩
  if x.kind = 1 ∨ x.kind = 6 ∨ x.kind = 13 ∨ x.kind = 11 then { z with at_ := x.at_ }
  else if x.kind = 2 then { z with client := x.client, at_ := x.at_, tx := x.tx }
  else if x.kind = 3 ∨ x.kind = 16 ∨ x.kind = 17 then { z with client := x.client }
  else if x.kind = 4 then { z with client := x.client, at_ := x.at_, keys := x.keys }
  else if x.kind = 5 then { z with at_ := x.at_, count := x.count }
  else if x.kind = 7 ∨ x.kind = 8 ∨ x.kind = 9 ∨ x.kind = 18 ∨ x.kind = 19 ∨ x.kind = 20 then { z with frm := x.frm, dst := x.dst }
  else if x.kind = 10 then { z with frm := x.frm, dst := x.dst, place := x.place, wth := x.wth }
  else if x.kind = 12 then { z with at_ := x.at_, count := x.count, keep := x.keep }
  else z
theorem bareOk {x : ST} (h : StOk x) : StOk (bareS x) := by
  have zb : IsByte 0 := ⟨by decide, by decide⟩
  unfold bareS
  repeat' split
  all_goals exact ⟨h.kind, by first | exact h.at_ | exact zero64, by first | exact h.client | exact zero64, by first | exact h.tx | exact txNone, by first | exact h.keys | simp, by first | exact h.szk | simp, by first | exact h.frm | exact zero64, by first | exact h.dst | exact zero64, by first | exact h.place | exact zero64, by first | exact h.wth | exact zb, by first | exact h.keep | exact zero64, by first | exact h.count | exact zero64⟩

theorem word_c {w : World} {k : Int} : Calls Tryz.prog 83 #[.int .i64 k] w fun e w' => e = .returned (.string (S (wordK k))) ∧ Fr [] w w' := by
  apply c83
  iterate 20 refine s_ite (fun g => by have g := eq_of_beq g; subst g; exact s_ret ⟨rfl, Fr.refl _ _⟩) (fun g => ?_)
  refine s_ret ⟨?_, Fr.refl _ _⟩
  have : wordK k = [] := by
    unfold wordK
    rw [if_neg]
    simp only [beq_eq_false_iff_ne] at *
    omega
  rw [this]

theorem bare_c {w : World} {x : ST} {v : SV27} : Calls Tryz.prog 55 #[.agg ⟨stv x v⟩] w fun e w' =>
    ∃ v', e = .returned (.tuple #[.agg ⟨stv (bareS x) v'⟩, .string (S (wordK x.kind)), .bool (!decide (wordK x.kind = []))]) ∧ (∀ W, StAt W x v → StAt W (bareS x) v') ∧ Fr [] w w' := by
  apply c55
  refine h_new (Has.init w) fun n26 u H => h_new H fun n27 u H => ?_
  simp only [stv] at H
  refine h_ldI H (b := n26) (by repeat (first | exact pick_head | apply pick_tail | apply pick_app)) rfl (h_new H fun n29 u H => ?_)
  iterate 16 (refine h_st H (b := n29) (by repeat (first | exact pick_head | apply pick_tail | apply pick_app)) (by first | (simp; done) | exact Nat.le_of_ble_eq_true rfl) rfl fun u H => ?_; simp only [List.set_cons_zero, List.set_cons_succ] at H)
  refine s_blk (fun vs W => vs = [] ∧ ∃ v', (∀ W, StAt W x v → StAt W (bareS x) v') ∧ Has w W [cl n29 56 (stv (bareS x) v'), cl n27 56 [.int .i64 0, .int .i64 0, .int .i64 0, .int .i64 0, .int .i64 0, .slice none 0 0, .slice none 0 0, .slice none 0 0, .slice none 0 0, .slice none 0 0, .int .i64 0, .int .i64 0, .int .i64 0, .int .u8 0, .int .i64 0, .int .i64 0], cl n26 56 (stv x v)]) ?_ ?_
  · clear H
    rintro _ j W ⟨rfl, v', h', H⟩
    simp only [stv] at H
    refine h_ldI H (b := n26) (by repeat (first | exact pick_head | apply pick_tail | apply pick_app)) rfl (s_call word_c ?_)
    rintro _ u ⟨rfl, f⟩
    have H := H.fr0 f
    refine ⟨_, rfl, s_asT ?_⟩
    iterate 5 refine h_ldI H (b := n29) (by repeat (first | exact pick_head | apply pick_tail | apply pick_app)) rfl ?_
    iterate 5 refine h_ldS H (b := n29) (by repeat (first | exact pick_head | apply pick_tail | apply pick_app)) rfl ?_
    iterate 6 refine h_ldI H (b := n29) (by repeat (first | exact pick_head | apply pick_tail | apply pick_app)) rfl ?_
    iterate 16 (refine h_st H (b := n27) (by repeat (first | exact pick_head | apply pick_tail | apply pick_app)) (by first | (simp; done) | exact Nat.le_of_ble_eq_true rfl) rfl fun u H => ?_; simp only [List.set_cons_zero, List.set_cons_succ] at H)
    iterate 5 refine h_ldI H (b := n27) (by repeat (first | exact pick_head | apply pick_tail | apply pick_app)) rfl ?_
    iterate 5 refine h_ldS H (b := n27) (by repeat (first | exact pick_head | apply pick_tail | apply pick_app)) rfl ?_
    iterate 6 refine h_ldI H (b := n27) (by repeat (first | exact pick_head | apply pick_tail | apply pick_app)) rfl ?_
    refine s_ret ⟨v', ?_, h', H.base⟩
    have : (!(S (wordK x.kind)).toList == (S []).toList) = !decide (wordK x.kind = []) := by
      rw [S_toList, S_toList]
      cases wordK x.kind <;> rfl
    rw [← this]
    rfl
  · refine h_ldI H (b := n26) (by repeat (first | exact pick_head | apply pick_tail | apply pick_app)) rfl ?_
    have hnil : ∀ W, KeysAt W none [] := fun W => .inl rfl
    have hnx : ∀ W, TxAt W TX.none TV.none := fun W => ⟨.inl rfl, .inl rfl, .inl rfl, .inl rfl⟩
    refine s_blk (fun vs W => vs = [.bool (decide (x.kind = 1 ∨ x.kind = 6 ∨ x.kind = 13 ∨ x.kind = 11))] ∧ W = u) ?_ ?_
    · rintro _ j W ⟨rfl, rfl⟩
      refine s_asB (s_ite (fun g1 => ?_) (fun g1 => ?_))
      · simp only [decide_eq_true_eq] at g1
        refine h_ldI H (b := n26) (by repeat (first | exact pick_head | apply pick_tail | apply pick_app)) rfl ?_
        refine h_st H (b := n29) (by repeat (first | exact pick_head | apply pick_tail | apply pick_app)) (by first | (simp; done) | exact Nat.le_of_ble_eq_true rfl) rfl fun u H => ?_
        simp only [List.set_cons_zero, List.set_cons_succ] at H
        refine s_next ⟨rfl, rfl⟩ ⟨rfl, ⟨TV.none, none, 0⟩, ?_, ?_⟩
        · rw [bareS, if_pos g1]; exact fun W h => ⟨hnx W, hnil W⟩
        · rw [bareS, if_pos g1]; exact H.sub (by repeat (first | exact sb_refl | exact sb_nil | refine sb_cons (by repeat (first | exact pick_head | apply pick_tail | apply pick_app)) ?_ | refine sb_app (by repeat (first | exact cut_head | exact cut_all | apply cut_tail | apply cut_app)) ?_ | exact sb_one (by repeat (first | exact cut_head | exact cut_all | apply cut_tail | apply cut_app))))
      · simp only [decide_eq_false_iff_not] at g1
        refine s_ite (fun g2 => ?_) (fun g2 => ?_)
        · have g2 := eq_of_beq g2
          refine h_drew H fun u H => ?_
          refine h_ldI H (b := n26) (by repeat (first | exact pick_head | apply pick_tail | apply pick_app)) rfl ?_
          refine h_ldI H (b := n26) (by repeat (first | exact pick_head | apply pick_tail | apply pick_app)) rfl ?_
          refine h_ldI H (b := n26) (by repeat (first | exact pick_head | apply pick_tail | apply pick_app)) rfl ?_
          refine h_ldI H (b := n26) (by repeat (first | exact pick_head | apply pick_tail | apply pick_app)) rfl ?_
          refine h_ldS H (b := n26) (by repeat (first | exact pick_head | apply pick_tail | apply pick_app)) rfl ?_
          refine h_ldS H (b := n26) (by repeat (first | exact pick_head | apply pick_tail | apply pick_app)) rfl ?_
          refine h_ldS H (b := n26) (by repeat (first | exact pick_head | apply pick_tail | apply pick_app)) rfl ?_
          refine h_ldS H (b := n26) (by repeat (first | exact pick_head | apply pick_tail | apply pick_app)) rfl ?_
          refine h_st H (b := n29) (by repeat (first | exact pick_head | apply pick_tail | apply pick_app)) (by first | (simp; done) | exact Nat.le_of_ble_eq_true rfl) rfl fun u H => ?_
          simp only [List.set_cons_zero, List.set_cons_succ] at H
          refine s_chk (by repeat (first | exact c_nil | refine hc_cons H (b := n26) (by repeat (first | exact pick_head | apply pick_tail | apply pick_app)) rfl ?_)) ?_
          refine h_st H (b := n29) (by repeat (first | exact pick_head | apply pick_tail | apply pick_app)) (by first | (simp; done) | exact Nat.le_of_ble_eq_true rfl) rfl fun u H => ?_
          simp only [List.set_cons_zero, List.set_cons_succ] at H
          refine s_chk (by repeat (first | exact c_nil | refine hc_cons H (b := n26) (by repeat (first | exact pick_head | apply pick_tail | apply pick_app)) rfl ?_)) ?_
          refine h_st H (b := n29) (by repeat (first | exact pick_head | apply pick_tail | apply pick_app)) (by first | (simp; done) | exact Nat.le_of_ble_eq_true rfl) rfl fun u H => ?_
          simp only [List.set_cons_zero, List.set_cons_succ] at H
          refine h_st H (b := n29) (by repeat (first | exact pick_head | apply pick_tail | apply pick_app)) (by first | (simp; done) | exact Nat.le_of_ble_eq_true rfl) rfl fun u H => ?_
          simp only [List.set_cons_zero, List.set_cons_succ] at H
          refine h_st H (b := n29) (by repeat (first | exact pick_head | apply pick_tail | apply pick_app)) (by first | (simp; done) | exact Nat.le_of_ble_eq_true rfl) rfl fun u H => ?_
          simp only [List.set_cons_zero, List.set_cons_succ] at H
          refine h_st H (b := n29) (by repeat (first | exact pick_head | apply pick_tail | apply pick_app)) (by first | (simp; done) | exact Nat.le_of_ble_eq_true rfl) rfl fun u H => ?_
          simp only [List.set_cons_zero, List.set_cons_succ] at H
          refine h_st H (b := n29) (by repeat (first | exact pick_head | apply pick_tail | apply pick_app)) (by first | (simp; done) | exact Nat.le_of_ble_eq_true rfl) rfl fun u H => ?_
          simp only [List.set_cons_zero, List.set_cons_succ] at H
          refine h_st H (b := n29) (by repeat (first | exact pick_head | apply pick_tail | apply pick_app)) (by first | (simp; done) | exact Nat.le_of_ble_eq_true rfl) rfl fun u H => ?_
          simp only [List.set_cons_zero, List.set_cons_succ] at H
          refine s_chk c_nil (s_next ⟨rfl, rfl⟩ ⟨rfl, ⟨v.v, none, 0⟩, ?_, ?_⟩)
          · rw [bareS, if_neg g1, if_pos g2]; exact fun W h => ⟨h.tx, hnil W⟩
          · rw [bareS, if_neg g1, if_pos g2]; exact H.sub (by repeat (first | exact sb_refl | exact sb_nil | refine sb_cons (by repeat (first | exact pick_head | apply pick_tail | apply pick_app)) ?_ | refine sb_app (by repeat (first | exact cut_head | exact cut_all | apply cut_tail | apply cut_app)) ?_ | exact sb_one (by repeat (first | exact cut_head | exact cut_all | apply cut_tail | apply cut_app))))
        · have g2 := ne_of_beq_false g2
          refine s_blk (fun vs W' => vs = [.bool (decide (x.kind = 3 ∨ x.kind = 16 ∨ x.kind = 17))] ∧ W' = W) ?_ ?_
          · rintro _ j W' ⟨rfl, rfl⟩
            refine s_asB (s_ite (fun g3 => ?_) (fun g3 => ?_))
            · simp only [decide_eq_true_eq] at g3
              refine h_ldI H (b := n26) (by repeat (first | exact pick_head | apply pick_tail | apply pick_app)) rfl ?_
              refine h_st H (b := n29) (by repeat (first | exact pick_head | apply pick_tail | apply pick_app)) (by first | (simp; done) | exact Nat.le_of_ble_eq_true rfl) rfl fun u H => ?_
              simp only [List.set_cons_zero, List.set_cons_succ] at H
              refine s_next ⟨rfl, rfl⟩ ⟨rfl, ⟨TV.none, none, 0⟩, ?_, ?_⟩
              · rw [bareS, if_neg g1, if_neg g2, if_pos g3]; exact fun W h => ⟨hnx W, hnil W⟩
              · rw [bareS, if_neg g1, if_neg g2, if_pos g3]; exact H.sub (by repeat (first | exact sb_refl | exact sb_nil | refine sb_cons (by repeat (first | exact pick_head | apply pick_tail | apply pick_app)) ?_ | refine sb_app (by repeat (first | exact cut_head | exact cut_all | apply cut_tail | apply cut_app)) ?_ | exact sb_one (by repeat (first | exact cut_head | exact cut_all | apply cut_tail | apply cut_app))))
            · simp only [decide_eq_false_iff_not] at g3
              refine s_ite (fun g4 => ?_) (fun g4 => ?_)
              · have g4 := eq_of_beq g4
                refine h_drew H fun u H => ?_
                refine h_ldI H (b := n26) (by repeat (first | exact pick_head | apply pick_tail | apply pick_app)) rfl ?_
                refine h_ldI H (b := n26) (by repeat (first | exact pick_head | apply pick_tail | apply pick_app)) rfl ?_
                refine h_ldS H (b := n26) (by repeat (first | exact pick_head | apply pick_tail | apply pick_app)) rfl ?_
                refine h_st H (b := n29) (by repeat (first | exact pick_head | apply pick_tail | apply pick_app)) (by first | (simp; done) | exact Nat.le_of_ble_eq_true rfl) rfl fun u H => ?_
                simp only [List.set_cons_zero, List.set_cons_succ] at H
                refine s_chk (by repeat (first | exact c_nil | refine hc_cons H (b := n26) (by repeat (first | exact pick_head | apply pick_tail | apply pick_app)) rfl ?_)) ?_
                refine h_st H (b := n29) (by repeat (first | exact pick_head | apply pick_tail | apply pick_app)) (by first | (simp; done) | exact Nat.le_of_ble_eq_true rfl) rfl fun u H => ?_
                simp only [List.set_cons_zero, List.set_cons_succ] at H
                refine s_chk (by repeat (first | exact c_nil | refine hc_cons H (b := n26) (by repeat (first | exact pick_head | apply pick_tail | apply pick_app)) rfl ?_)) ?_
                refine h_st H (b := n29) (by repeat (first | exact pick_head | apply pick_tail | apply pick_app)) (by first | (simp; done) | exact Nat.le_of_ble_eq_true rfl) rfl fun u H => ?_
                simp only [List.set_cons_zero, List.set_cons_succ] at H
                refine s_chk c_nil (s_next ⟨rfl, rfl⟩ ⟨rfl, ⟨TV.none, v.o, v.c⟩, ?_, ?_⟩)
                · rw [bareS, if_neg g1, if_neg g2, if_neg g3, if_pos g4]; exact fun W h => ⟨hnx W, h.keys⟩
                · rw [bareS, if_neg g1, if_neg g2, if_neg g3, if_pos g4]; exact H.sub (by repeat (first | exact sb_refl | exact sb_nil | refine sb_cons (by repeat (first | exact pick_head | apply pick_tail | apply pick_app)) ?_ | refine sb_app (by repeat (first | exact cut_head | exact cut_all | apply cut_tail | apply cut_app)) ?_ | exact sb_one (by repeat (first | exact cut_head | exact cut_all | apply cut_tail | apply cut_app))))
              · have g4 := ne_of_beq_false g4
                refine s_ite (fun g5 => ?_) (fun g5 => ?_)
                · have g5 := eq_of_beq g5
                  refine h_drew H fun u H => ?_
                  refine h_ldI H (b := n26) (by repeat (first | exact pick_head | apply pick_tail | apply pick_app)) rfl ?_
                  refine h_ldI H (b := n26) (by repeat (first | exact pick_head | apply pick_tail | apply pick_app)) rfl ?_
                  refine h_st H (b := n29) (by repeat (first | exact pick_head | apply pick_tail | apply pick_app)) (by first | (simp; done) | exact Nat.le_of_ble_eq_true rfl) rfl fun u H => ?_
                  simp only [List.set_cons_zero, List.set_cons_succ] at H
                  refine s_chk (by repeat (first | exact c_nil | refine hc_cons H (b := n26) (by repeat (first | exact pick_head | apply pick_tail | apply pick_app)) rfl ?_)) ?_
                  refine h_st H (b := n29) (by repeat (first | exact pick_head | apply pick_tail | apply pick_app)) (by first | (simp; done) | exact Nat.le_of_ble_eq_true rfl) rfl fun u H => ?_
                  simp only [List.set_cons_zero, List.set_cons_succ] at H
                  refine s_chk c_nil (s_next ⟨rfl, rfl⟩ ⟨rfl, ⟨TV.none, none, 0⟩, ?_, ?_⟩)
                  · rw [bareS, if_neg g1, if_neg g2, if_neg g3, if_neg g4, if_pos g5]; exact fun W h => ⟨hnx W, hnil W⟩
                  · rw [bareS, if_neg g1, if_neg g2, if_neg g3, if_neg g4, if_pos g5]; exact H.sub (by repeat (first | exact sb_refl | exact sb_nil | refine sb_cons (by repeat (first | exact pick_head | apply pick_tail | apply pick_app)) ?_ | refine sb_app (by repeat (first | exact cut_head | exact cut_all | apply cut_tail | apply cut_app)) ?_ | exact sb_one (by repeat (first | exact cut_head | exact cut_all | apply cut_tail | apply cut_app))))
                · have g5 := ne_of_beq_false g5
                  refine s_blk (fun vs W2 => vs = [.bool (decide (x.kind = 7 ∨ x.kind = 8 ∨ x.kind = 9 ∨ x.kind = 18 ∨ x.kind = 19 ∨ x.kind = 20))] ∧ W2 = W') ?_ ?_
                  · rintro _ j W2 ⟨rfl, rfl⟩
                    refine s_asB (s_ite (fun g6 => ?_) (fun g6 => ?_))
                    · simp only [decide_eq_true_eq] at g6
                      refine h_ldI H (b := n26) (by repeat (first | exact pick_head | apply pick_tail | apply pick_app)) rfl ?_
                      refine h_ldI H (b := n26) (by repeat (first | exact pick_head | apply pick_tail | apply pick_app)) rfl ?_
                      refine h_st H (b := n29) (by repeat (first | exact pick_head | apply pick_tail | apply pick_app)) (by first | (simp; done) | exact Nat.le_of_ble_eq_true rfl) rfl fun u H => ?_
                      simp only [List.set_cons_zero, List.set_cons_succ] at H
                      refine h_st H (b := n29) (by repeat (first | exact pick_head | apply pick_tail | apply pick_app)) (by first | (simp; done) | exact Nat.le_of_ble_eq_true rfl) rfl fun u H => ?_
                      simp only [List.set_cons_zero, List.set_cons_succ] at H
                      refine s_next ⟨rfl, rfl⟩ ⟨rfl, ⟨TV.none, none, 0⟩, ?_, ?_⟩
                      · rw [bareS, if_neg g1, if_neg g2, if_neg g3, if_neg g4, if_neg g5, if_pos g6]; exact fun W h => ⟨hnx W, hnil W⟩
                      · rw [bareS, if_neg g1, if_neg g2, if_neg g3, if_neg g4, if_neg g5, if_pos g6]; exact H.sub (by repeat (first | exact sb_refl | exact sb_nil | refine sb_cons (by repeat (first | exact pick_head | apply pick_tail | apply pick_app)) ?_ | refine sb_app (by repeat (first | exact cut_head | exact cut_all | apply cut_tail | apply cut_app)) ?_ | exact sb_one (by repeat (first | exact cut_head | exact cut_all | apply cut_tail | apply cut_app))))
                    · simp only [decide_eq_false_iff_not] at g6
                      refine s_ite (fun g7 => ?_) (fun g7 => ?_)
                      · have g7 := eq_of_beq g7
                        refine h_drew H fun u H => ?_
                        refine h_ldI H (b := n26) (by repeat (first | exact pick_head | apply pick_tail | apply pick_app)) rfl ?_
                        refine h_ldI H (b := n26) (by repeat (first | exact pick_head | apply pick_tail | apply pick_app)) rfl ?_
                        refine h_ldI H (b := n26) (by repeat (first | exact pick_head | apply pick_tail | apply pick_app)) rfl ?_
                        refine h_ldI H (b := n26) (by repeat (first | exact pick_head | apply pick_tail | apply pick_app)) rfl ?_
                        refine h_st H (b := n29) (by repeat (first | exact pick_head | apply pick_tail | apply pick_app)) (by first | (simp; done) | exact Nat.le_of_ble_eq_true rfl) rfl fun u H => ?_
                        simp only [List.set_cons_zero, List.set_cons_succ] at H
                        refine h_st H (b := n29) (by repeat (first | exact pick_head | apply pick_tail | apply pick_app)) (by first | (simp; done) | exact Nat.le_of_ble_eq_true rfl) rfl fun u H => ?_
                        simp only [List.set_cons_zero, List.set_cons_succ] at H
                        refine s_chk (by repeat (first | exact c_nil | refine hc_cons H (b := n26) (by repeat (first | exact pick_head | apply pick_tail | apply pick_app)) rfl ?_)) ?_
                        refine h_st H (b := n29) (by repeat (first | exact pick_head | apply pick_tail | apply pick_app)) (by first | (simp; done) | exact Nat.le_of_ble_eq_true rfl) rfl fun u H => ?_
                        simp only [List.set_cons_zero, List.set_cons_succ] at H
                        refine s_chk (by repeat (first | exact c_nil | refine hc_cons H (b := n26) (by repeat (first | exact pick_head | apply pick_tail | apply pick_app)) rfl ?_)) ?_
                        refine h_st H (b := n29) (by repeat (first | exact pick_head | apply pick_tail | apply pick_app)) (by first | (simp; done) | exact Nat.le_of_ble_eq_true rfl) rfl fun u H => ?_
                        simp only [List.set_cons_zero, List.set_cons_succ] at H
                        refine s_chk c_nil (s_next ⟨rfl, rfl⟩ ⟨rfl, ⟨TV.none, none, 0⟩, ?_, ?_⟩)
                        · rw [bareS, if_neg g1, if_neg g2, if_neg g3, if_neg g4, if_neg g5, if_neg g6, if_pos g7]; exact fun W h => ⟨hnx W, hnil W⟩
                        · rw [bareS, if_neg g1, if_neg g2, if_neg g3, if_neg g4, if_neg g5, if_neg g6, if_pos g7]; exact H.sub (by repeat (first | exact sb_refl | exact sb_nil | refine sb_cons (by repeat (first | exact pick_head | apply pick_tail | apply pick_app)) ?_ | refine sb_app (by repeat (first | exact cut_head | exact cut_all | apply cut_tail | apply cut_app)) ?_ | exact sb_one (by repeat (first | exact cut_head | exact cut_all | apply cut_tail | apply cut_app))))
                      · have g7 := ne_of_beq_false g7
                        refine s_ite (fun g8 => ?_) (fun g8 => ?_)
                        · have g8 := eq_of_beq g8
                          refine h_drew H fun u H => ?_
                          refine h_ldI H (b := n26) (by repeat (first | exact pick_head | apply pick_tail | apply pick_app)) rfl ?_
                          refine h_ldI H (b := n26) (by repeat (first | exact pick_head | apply pick_tail | apply pick_app)) rfl ?_
                          refine h_ldI H (b := n26) (by repeat (first | exact pick_head | apply pick_tail | apply pick_app)) rfl ?_
                          refine h_st H (b := n29) (by repeat (first | exact pick_head | apply pick_tail | apply pick_app)) (by first | (simp; done) | exact Nat.le_of_ble_eq_true rfl) rfl fun u H => ?_
                          simp only [List.set_cons_zero, List.set_cons_succ] at H
                          refine s_chk (by repeat (first | exact c_nil | refine hc_cons H (b := n26) (by repeat (first | exact pick_head | apply pick_tail | apply pick_app)) rfl ?_)) ?_
                          refine h_st H (b := n29) (by repeat (first | exact pick_head | apply pick_tail | apply pick_app)) (by first | (simp; done) | exact Nat.le_of_ble_eq_true rfl) rfl fun u H => ?_
                          simp only [List.set_cons_zero, List.set_cons_succ] at H
                          refine s_chk (by repeat (first | exact c_nil | refine hc_cons H (b := n26) (by repeat (first | exact pick_head | apply pick_tail | apply pick_app)) rfl ?_)) ?_
                          refine h_st H (b := n29) (by repeat (first | exact pick_head | apply pick_tail | apply pick_app)) (by first | (simp; done) | exact Nat.le_of_ble_eq_true rfl) rfl fun u H => ?_
                          simp only [List.set_cons_zero, List.set_cons_succ] at H
                          refine s_chk c_nil (s_next ⟨rfl, rfl⟩ ⟨rfl, ⟨TV.none, none, 0⟩, ?_, ?_⟩)
                          · rw [bareS, if_neg g1, if_neg g2, if_neg g3, if_neg g4, if_neg g5, if_neg g6, if_neg g7, if_pos g8]; exact fun W h => ⟨hnx W, hnil W⟩
                          · rw [bareS, if_neg g1, if_neg g2, if_neg g3, if_neg g4, if_neg g5, if_neg g6, if_neg g7, if_pos g8]; exact H.sub (by repeat (first | exact sb_refl | exact sb_nil | refine sb_cons (by repeat (first | exact pick_head | apply pick_tail | apply pick_app)) ?_ | refine sb_app (by repeat (first | exact cut_head | exact cut_all | apply cut_tail | apply cut_app)) ?_ | exact sb_one (by repeat (first | exact cut_head | exact cut_all | apply cut_tail | apply cut_app))))
                        · have g8 := ne_of_beq_false g8
                          refine s_next ⟨rfl, rfl⟩ ⟨rfl, ⟨TV.none, none, 0⟩, ?_, ?_⟩
                          · rw [bareS, if_neg g1, if_neg g2, if_neg g3, if_neg g4, if_neg g5, if_neg g6, if_neg g7, if_neg g8]; exact fun W h => ⟨hnx W, hnil W⟩
                          · rw [bareS, if_neg g1, if_neg g2, if_neg g3, if_neg g4, if_neg g5, if_neg g6, if_neg g7, if_neg g8]; exact H.sub (by repeat (first | exact sb_refl | exact sb_nil | refine sb_cons (by repeat (first | exact pick_head | apply pick_tail | apply pick_app)) ?_ | refine sb_app (by repeat (first | exact cut_head | exact cut_all | apply cut_tail | apply cut_app)) ?_ | exact sb_one (by repeat (first | exact cut_head | exact cut_all | apply cut_tail | apply cut_app))))
                  · iterate 5 refine s_ite (fun g => s_next ⟨rfl, rfl⟩ ⟨by rw [g, decide_eq_true (by have := eq_of_beq g; omega)], rfl⟩) (fun g => ?_)
                    refine s_next ⟨rfl, rfl⟩ ⟨?_, rfl⟩
                    congr 2
                    simp only [beq_eq_false_iff_ne] at *
                    by_cases e : x.kind = 20 <;> simp_all
          · iterate 2 refine s_ite (fun g => s_next ⟨rfl, rfl⟩ ⟨by rw [g, decide_eq_true (by have := eq_of_beq g; omega)], rfl⟩) (fun g => ?_)
            refine s_next ⟨rfl, rfl⟩ ⟨?_, rfl⟩
            congr 2
            simp only [beq_eq_false_iff_ne] at *
            by_cases e : x.kind = 17 <;> simp_all
    · iterate 3 refine s_ite (fun g => s_next ⟨rfl, rfl⟩ ⟨by rw [g, decide_eq_true (by have := eq_of_beq g; omega)], rfl⟩) (fun g => ?_)
      refine s_next ⟨rfl, rfl⟩ ⟨?_, rfl⟩
      congr 2
      simp only [beq_eq_false_iff_ne] at *
      by_cases e : x.kind = 11 <;> simp_all
end Go.Proofs.YtihipcofjpnfbaaGreatDoor
