/- The walk of ShardBytes. -/
import Derived.Test.YteimilnigiagjaaFrom
set_option linter.unusedVariables false
set_option linter.unusedSimpArgs false
set_option maxRecDepth 100000
set_option maxHeartbeats 4000000
namespace Go.Proofs.Yteimilnigiagjaa
open Go hiding Expr
open Go.RowKit Tr

def ordOf (a b : K) (i : Nat) : Int := if dig a i < dig b i then -1 else 1
theorem dig_eq {a b : K} {j : Nat} : dig a j = dig b j ↔ digN a.T a.R j = digN b.T b.R j := by unfold dig; omega
theorem ord_cmp {a b : K} (ha : a.In) (hb : b.In) {i : Nat} (hi : i < 12) (heq : ∀ j, j < i → dig a j = dig b j) (hne : dig a i ≠ dig b i) : ordOf a b i = cmpK a b := by
  have heq' : ∀ j, j < i → digN a.T a.R j = digN b.T b.R j := fun j hj => dig_eq.1 (heq j hj)
  unfold ordOf
  split
  · rename_i h
    exact (dig_lex ha hb hi heq' (by unfold dig at h; omega)).symm
  · rename_i h
    have := dig_lex hb ha hi (fun j hj => (heq' j hj).symm) (by unfold dig at h hne; omega)
    rw [cmpK_neg a b] at this
    omega
theorem bytesK_get (k : K) {i : Nat} (h : i < 12) : (bytesK k)[0 + Int.toNat (i : Int) * 1]? = some (.int .u8 (dig k i)) := by
  rw [Int.toNat_natCast, Nat.zero_add, Nat.mul_one]
  simp [bytesK, byteL, h]


theorem sbytes_c {w : World} (a b : K) (ha : a.In) (hb : b.In) (f : Nat → Nat) (hf : ∀ j, f j < 256) : Calls Try.prog 4 #[.agg ⟨kr a⟩, .agg ⟨kr b⟩, .agg ⟨byteL (fun j => (f j : Int))⟩] w fun e w' => e = .returned (.bool true) ∧ Fr [] w w' := by
  refine c4 a.t a.r b.t b.r (f 0) (f 1) (f 2) (f 3) (f 4) (f 5) (f 6) (f 7) (f 8) (f 9) (f 10) (f 11) ?_
  refine h_new (Has.init w) fun r16 u H => ?_
  (refine h_new H fun r17 u H => ?_)
  (refine h_new H fun r18 u H => ?_)
  have H : Has w u (cl r18 27 (byteL (fun j => (f j : Int))) :: cl r17 23 (kr b) :: cl r16 23 (kr a) :: []) := H
  refine h_drew H fun u H => ?_
  iterate 4 refine h_ldI H (by repeat (first | exact pick_head | apply pick_tail | apply pick_app)) rfl ?_
  refine s_both ?_ ?_
  · refine s_call (bytes_c a ha) ?_
    rintro _ u ⟨rfl, fr⟩
    have H := H.fr0 fr
    refine ⟨_, rfl, s_asA (s_req rfl ?_)⟩
    iterate 12 refine s_asI ?_
    refine s_chk (by repeat (first | exact c_nil | refine hc_cons H (by repeat (first | exact pick_head | apply pick_tail | apply pick_app)) rfl ?_)) ?_
    refine s_both ?_ ?_
    · refine s_call (bytes_c b hb) ?_
      rintro _ u ⟨rfl, fr⟩
      have H := H.fr0 fr
      refine ⟨_, rfl, s_asA (s_req rfl ?_)⟩
      iterate 12 refine s_asI ?_
      refine s_chk (by repeat (first | exact c_nil | refine hc_cons H (by repeat (first | exact pick_head | apply pick_tail | apply pick_app)) rfl ?_)) ?_
      refine s_both ?_ ?_
      · refine h_new H fun r51 u H => ?_
        refine s_chk (by repeat (first | exact c_nil | refine hc_cons H (by repeat (first | exact pick_head | apply pick_tail | apply pick_app)) rfl ?_)) ?_
        refine h_new H fun r52 u H => ?_
        refine s_chk (by repeat (first | exact c_nil | refine hc_cons H (by repeat (first | exact pick_head | apply pick_tail | apply pick_app)) rfl ?_)) ?_
        refine h_st H (by repeat (first | exact pick_head | apply pick_tail | apply pick_app)) (by simp) rfl fun u H => ?_
        simp only [List.set_cons_succ, List.set_cons_zero] at H
        refine h_st H (by repeat (first | exact pick_head | apply pick_tail | apply pick_app)) (by simp) rfl fun u H => ?_
        simp only [List.set_cons_succ, List.set_cons_zero] at H
        refine h_st H (by repeat (first | exact pick_head | apply pick_tail | apply pick_app)) (by simp) rfl fun u H => ?_
        simp only [List.set_cons_succ, List.set_cons_zero] at H
        refine h_st H (by repeat (first | exact pick_head | apply pick_tail | apply pick_app)) (by simp) rfl fun u H => ?_
        simp only [List.set_cons_succ, List.set_cons_zero] at H
        refine h_st H (by repeat (first | exact pick_head | apply pick_tail | apply pick_app)) (by simp) rfl fun u H => ?_
        simp only [List.set_cons_succ, List.set_cons_zero] at H
        refine h_st H (by repeat (first | exact pick_head | apply pick_tail | apply pick_app)) (by simp) rfl fun u H => ?_
        simp only [List.set_cons_succ, List.set_cons_zero] at H
        refine h_st H (by repeat (first | exact pick_head | apply pick_tail | apply pick_app)) (by simp) rfl fun u H => ?_
        simp only [List.set_cons_succ, List.set_cons_zero] at H
        refine h_st H (by repeat (first | exact pick_head | apply pick_tail | apply pick_app)) (by simp) rfl fun u H => ?_
        simp only [List.set_cons_succ, List.set_cons_zero] at H
        refine h_st H (by repeat (first | exact pick_head | apply pick_tail | apply pick_app)) (by simp) rfl fun u H => ?_
        simp only [List.set_cons_succ, List.set_cons_zero] at H
        refine h_st H (by repeat (first | exact pick_head | apply pick_tail | apply pick_app)) (by simp) rfl fun u H => ?_
        simp only [List.set_cons_succ, List.set_cons_zero] at H
        refine h_st H (by repeat (first | exact pick_head | apply pick_tail | apply pick_app)) (by simp) rfl fun u H => ?_
        simp only [List.set_cons_succ, List.set_cons_zero] at H
        refine h_st H (by repeat (first | exact pick_head | apply pick_tail | apply pick_app)) (by simp) rfl fun u H => ?_
        simp only [List.set_cons_succ, List.set_cons_zero] at H
        refine s_chk (by repeat (first | exact c_nil | refine hc_cons H (by repeat (first | exact pick_head | apply pick_tail | apply pick_app)) rfl ?_)) ?_
        refine h_st H (by repeat (first | exact pick_head | apply pick_tail | apply pick_app)) (by simp) rfl fun u H => ?_
        simp only [List.set_cons_succ, List.set_cons_zero] at H
        refine h_st H (by repeat (first | exact pick_head | apply pick_tail | apply pick_app)) (by simp) rfl fun u H => ?_
        simp only [List.set_cons_succ, List.set_cons_zero] at H
        refine h_st H (by repeat (first | exact pick_head | apply pick_tail | apply pick_app)) (by simp) rfl fun u H => ?_
        simp only [List.set_cons_succ, List.set_cons_zero] at H
        refine h_st H (by repeat (first | exact pick_head | apply pick_tail | apply pick_app)) (by simp) rfl fun u H => ?_
        simp only [List.set_cons_succ, List.set_cons_zero] at H
        refine h_st H (by repeat (first | exact pick_head | apply pick_tail | apply pick_app)) (by simp) rfl fun u H => ?_
        simp only [List.set_cons_succ, List.set_cons_zero] at H
        refine h_st H (by repeat (first | exact pick_head | apply pick_tail | apply pick_app)) (by simp) rfl fun u H => ?_
        simp only [List.set_cons_succ, List.set_cons_zero] at H
        refine h_st H (by repeat (first | exact pick_head | apply pick_tail | apply pick_app)) (by simp) rfl fun u H => ?_
        simp only [List.set_cons_succ, List.set_cons_zero] at H
        refine h_st H (by repeat (first | exact pick_head | apply pick_tail | apply pick_app)) (by simp) rfl fun u H => ?_
        simp only [List.set_cons_succ, List.set_cons_zero] at H
        refine h_st H (by repeat (first | exact pick_head | apply pick_tail | apply pick_app)) (by simp) rfl fun u H => ?_
        simp only [List.set_cons_succ, List.set_cons_zero] at H
        refine h_st H (by repeat (first | exact pick_head | apply pick_tail | apply pick_app)) (by simp) rfl fun u H => ?_
        simp only [List.set_cons_succ, List.set_cons_zero] at H
        refine h_st H (by repeat (first | exact pick_head | apply pick_tail | apply pick_app)) (by simp) rfl fun u H => ?_
        simp only [List.set_cons_succ, List.set_cons_zero] at H
        refine h_st H (by repeat (first | exact pick_head | apply pick_tail | apply pick_app)) (by simp) rfl fun u H => ?_
        simp only [List.set_cons_succ, List.set_cons_zero] at H
        refine s_chk (by repeat (first | exact c_nil | refine hc_cons H (by repeat (first | exact pick_head | apply pick_tail | apply pick_app)) rfl ?_)) ?_
        refine s_blk (fun vs W' => vs = [.int .i64 (cmpK a b)] ∧ Has w W' (cl r51 27 (bytesK a) :: cl r52 27 (bytesK b) :: cl r18 27 (byteL (fun j => (f j : Int))) :: cl r17 23 (kr b) :: cl r16 23 (kr a) :: [])) ?_ ?_
        · rintro _ j W ⟨rfl, H⟩
          refine s_asI (h_drew H fun u H => s_call live_c ?_)
          rintro _ u ⟨rfl, fr⟩
          have H := H.fr0 fr
          refine ⟨_, rfl, s_asB (s_chk c_nil (s_true rfl ?_))⟩
          iterate 4 refine h_ldI H (by repeat (first | exact pick_head | apply pick_tail | apply pick_app)) rfl ?_
          refine s_call (cmpK_c a b) ?_
          rintro _ u ⟨rfl, fr⟩
          have H := H.fr0 fr
          refine ⟨_, rfl, s_asI (s_chk c_nil (s_true (by simp) ?_))⟩
          have H : Has w u (cl r51 27 [.int .u8 (dig a 0), .int .u8 (dig a 1), .int .u8 (dig a 2), .int .u8 (dig a 3), .int .u8 (dig a 4), .int .u8 (dig a 5), .int .u8 (dig a 6), .int .u8 (dig a 7), .int .u8 (dig a 8), .int .u8 (dig a 9), .int .u8 (dig a 10), .int .u8 (dig a 11)] :: cl r52 27 [.int .u8 (dig b 0), .int .u8 (dig b 1), .int .u8 (dig b 2), .int .u8 (dig b 3), .int .u8 (dig b 4), .int .u8 (dig b 5), .int .u8 (dig b 6), .int .u8 (dig b 7), .int .u8 (dig b 8), .int .u8 (dig b 9), .int .u8 (dig b 10), .int .u8 (dig b 11)] :: cl r18 27 [.int .u8 (f 0 : Int), .int .u8 (f 1 : Int), .int .u8 (f 2 : Int), .int .u8 (f 3 : Int), .int .u8 (f 4 : Int), .int .u8 (f 5 : Int), .int .u8 (f 6 : Int), .int .u8 (f 7 : Int), .int .u8 (f 8 : Int), .int .u8 (f 9 : Int), .int .u8 (f 10 : Int), .int .u8 (f 11 : Int)] :: cl r17 23 (kr b) :: cl r16 23 (kr a) :: []) := H
          iterate 14 refine h_ldI H (by repeat (first | exact pick_head | apply pick_tail | apply pick_app)) rfl ?_
          refine s_call (from_c (digN a.T a.R) (digN_lt a.T a.R)) ?_
          rintro _ u ⟨rfl, fr⟩
          have H := H.fr0 fr
          rw [from_bytes a ha]
          refine ⟨_, rfl, s_asA (s_req rfl (s_asI (s_asI (s_chk (hc_cons H (by repeat (first | exact pick_head | apply pick_tail | apply pick_app)) rfl (hc_cons H (by repeat (first | exact pick_head | apply pick_tail | apply pick_app)) rfl c_nil)) (s_true (by simp) ?_)))))⟩
          iterate 24 refine h_ldI H (by repeat (first | exact pick_head | apply pick_tail | apply pick_app)) rfl ?_
          refine s_call (from_c f hf) ?_
          rintro _ u ⟨rfl, fr⟩
          have H := H.fr0 fr
          refine ⟨_, rfl, s_asA (s_req rfl (s_asI (s_asI (s_chk (by repeat (first | exact c_nil | refine hc_cons H (by repeat (first | exact pick_head | apply pick_tail | apply pick_app)) rfl ?_)) (s_call (bytes_c (fromK f) (fromK_in hf)) ?_)))))⟩
          rintro _ u ⟨rfl, fr⟩
          have H := H.fr0 fr
          refine ⟨_, rfl, s_asA (s_req rfl ?_)⟩
          iterate 12 refine s_asI ?_
          refine s_chk (by repeat (first | exact c_nil | refine hc_cons H (by repeat (first | exact pick_head | apply pick_tail | apply pick_app)) rfl ?_)) (s_ret ⟨?_, H.base⟩)
          have hbf := bytes_from hf
          rw [hbf 0 (by omega), hbf 1 (by omega), hbf 2 (by omega), hbf 3 (by omega), hbf 4 (by omega), hbf 5 (by omega), hbf 6 (by omega), hbf 7 (by omega), hbf 8 (by omega), hbf 9 (by omega), hbf 10 (by omega), hbf 11 (by omega)]
          simp
        · refine s_loop (fun vs W => ∃ i : Nat, vs = [.int .i64 0, .int .i64 i] ∧ i ≤ 12 ∧ (∀ j, j < i → dig a j = dig b j) ∧ Has w W (cl r51 27 (bytesK a) :: cl r52 27 (bytesK b) :: cl r18 27 (byteL (fun j => (f j : Int))) :: cl r17 23 (kr b) :: cl r16 23 (kr a) :: [])) (fun vs _ => 12 - (intOf (vs.getD 1 undef)).toNat) ⟨0, rfl, by omega, by omega, H.sub (by repeat (first | exact sb_refl | exact sb_nil | refine sb_cons (by repeat (first | exact pick_head | apply pick_tail | apply pick_app)) ?_ | refine sb_app (by repeat (first | exact cut_head | exact cut_all | apply cut_tail | apply cut_app)) ?_ | exact sb_one (by repeat (first | exact cut_head | exact cut_all | apply cut_tail | apply cut_app))))⟩ ?_
          rintro _ j W ⟨i, rfl, hi, heq, H⟩
          refine s_asI (s_asI (s_ite (fun g => ?_) (fun g => s_next (by first | exact ⟨rfl, rfl⟩ | trivial) ?_)))
          · simp only [decide_eq_true_eq] at g
            have hlt : i < 12 := by omega
            refine h_drew H fun u H => s_req ⟨by omega, g⟩ (h_ldI H (by repeat (first | exact pick_head | apply pick_tail | apply pick_app)) (bytesK_get a hlt) (s_req ⟨by omega, g⟩ (h_ldI H (by repeat (first | exact pick_head | apply pick_tail | apply pick_app)) (bytesK_get b hlt) (s_ite (fun g2 => ?_) (fun g2 => s_next (by first | exact ⟨rfl, rfl⟩ | trivial) ?_)))))
            · have hne : dig a i ≠ dig b i := by simpa using g2
              have ho := ord_cmp ha hb hlt heq hne
              unfold ordOf at ho
              refine h_drew H fun u H => s_req ⟨by omega, g⟩ (h_ldI H (by repeat (first | exact pick_head | apply pick_tail | apply pick_app)) (bytesK_get a hlt) (s_req ⟨by omega, g⟩ (h_ldI H (by repeat (first | exact pick_head | apply pick_tail | apply pick_app)) (bytesK_get b hlt) (s_ite (fun g3 => s_next (by first | exact ⟨rfl, rfl⟩ | trivial) ?_) (fun g3 => s_next (by first | exact ⟨rfl, rfl⟩ | trivial) ?_)))))
              · rw [if_pos (by simpa using g3)] at ho
                simp (config := { decide := true }) only [if_true, if_false]
                exact ⟨by rw [ho], H⟩
              · rw [if_neg (by simpa using g3)] at ho
                simp (config := { decide := true }) only [if_true, if_false]
                exact ⟨by rw [ho], H⟩
            · have hee : dig a i = dig b i := by simpa using g2
              simp (config := { decide := true }) only [if_true, if_false]
              refine ⟨⟨i + 1, by rw [w_succ (by omega)], by omega, fun j hj => ?_, H⟩, by rw [w_succ (by omega)]; simp [intOf] <;> omega⟩
              by_cases hji : j = i
              · rw [hji]; exact hee
              · exact heq j (by omega)
          · simp only [decide_eq_false_iff_not] at g
            have hab : a = b := dig_all ha hb fun j hj => dig_eq.1 (heq j (by omega))
            simp (config := { decide := true }) only [if_true, if_false]
            exact ⟨by rw [cmpK_zero.2 hab], H⟩
      · refine h_new H fun r132 u H => ?_
        refine s_chk (by repeat (first | exact c_nil | refine hc_cons H (by repeat (first | exact pick_head | apply pick_tail | apply pick_app)) rfl ?_)) ?_
        refine h_new H fun r133 u H => ?_
        refine s_chk (by repeat (first | exact c_nil | refine hc_cons H (by repeat (first | exact pick_head | apply pick_tail | apply pick_app)) rfl ?_)) ?_
        refine h_st H (by repeat (first | exact pick_head | apply pick_tail | apply pick_app)) (by simp) rfl fun u H => ?_
        simp only [List.set_cons_succ, List.set_cons_zero] at H
        refine h_st H (by repeat (first | exact pick_head | apply pick_tail | apply pick_app)) (by simp) rfl fun u H => ?_
        simp only [List.set_cons_succ, List.set_cons_zero] at H
        refine h_st H (by repeat (first | exact pick_head | apply pick_tail | apply pick_app)) (by simp) rfl fun u H => ?_
        simp only [List.set_cons_succ, List.set_cons_zero] at H
        refine h_st H (by repeat (first | exact pick_head | apply pick_tail | apply pick_app)) (by simp) rfl fun u H => ?_
        simp only [List.set_cons_succ, List.set_cons_zero] at H
        refine h_st H (by repeat (first | exact pick_head | apply pick_tail | apply pick_app)) (by simp) rfl fun u H => ?_
        simp only [List.set_cons_succ, List.set_cons_zero] at H
        refine h_st H (by repeat (first | exact pick_head | apply pick_tail | apply pick_app)) (by simp) rfl fun u H => ?_
        simp only [List.set_cons_succ, List.set_cons_zero] at H
        refine h_st H (by repeat (first | exact pick_head | apply pick_tail | apply pick_app)) (by simp) rfl fun u H => ?_
        simp only [List.set_cons_succ, List.set_cons_zero] at H
        refine h_st H (by repeat (first | exact pick_head | apply pick_tail | apply pick_app)) (by simp) rfl fun u H => ?_
        simp only [List.set_cons_succ, List.set_cons_zero] at H
        refine h_st H (by repeat (first | exact pick_head | apply pick_tail | apply pick_app)) (by simp) rfl fun u H => ?_
        simp only [List.set_cons_succ, List.set_cons_zero] at H
        refine h_st H (by repeat (first | exact pick_head | apply pick_tail | apply pick_app)) (by simp) rfl fun u H => ?_
        simp only [List.set_cons_succ, List.set_cons_zero] at H
        refine h_st H (by repeat (first | exact pick_head | apply pick_tail | apply pick_app)) (by simp) rfl fun u H => ?_
        simp only [List.set_cons_succ, List.set_cons_zero] at H
        refine h_st H (by repeat (first | exact pick_head | apply pick_tail | apply pick_app)) (by simp) rfl fun u H => ?_
        simp only [List.set_cons_succ, List.set_cons_zero] at H
        refine s_chk (by repeat (first | exact c_nil | refine hc_cons H (by repeat (first | exact pick_head | apply pick_tail | apply pick_app)) rfl ?_)) ?_
        refine h_st H (by repeat (first | exact pick_head | apply pick_tail | apply pick_app)) (by simp) rfl fun u H => ?_
        simp only [List.set_cons_succ, List.set_cons_zero] at H
        refine h_st H (by repeat (first | exact pick_head | apply pick_tail | apply pick_app)) (by simp) rfl fun u H => ?_
        simp only [List.set_cons_succ, List.set_cons_zero] at H
        refine h_st H (by repeat (first | exact pick_head | apply pick_tail | apply pick_app)) (by simp) rfl fun u H => ?_
        simp only [List.set_cons_succ, List.set_cons_zero] at H
        refine h_st H (by repeat (first | exact pick_head | apply pick_tail | apply pick_app)) (by simp) rfl fun u H => ?_
        simp only [List.set_cons_succ, List.set_cons_zero] at H
        refine h_st H (by repeat (first | exact pick_head | apply pick_tail | apply pick_app)) (by simp) rfl fun u H => ?_
        simp only [List.set_cons_succ, List.set_cons_zero] at H
        refine h_st H (by repeat (first | exact pick_head | apply pick_tail | apply pick_app)) (by simp) rfl fun u H => ?_
        simp only [List.set_cons_succ, List.set_cons_zero] at H
        refine h_st H (by repeat (first | exact pick_head | apply pick_tail | apply pick_app)) (by simp) rfl fun u H => ?_
        simp only [List.set_cons_succ, List.set_cons_zero] at H
        refine h_st H (by repeat (first | exact pick_head | apply pick_tail | apply pick_app)) (by simp) rfl fun u H => ?_
        simp only [List.set_cons_succ, List.set_cons_zero] at H
        refine h_st H (by repeat (first | exact pick_head | apply pick_tail | apply pick_app)) (by simp) rfl fun u H => ?_
        simp only [List.set_cons_succ, List.set_cons_zero] at H
        refine h_st H (by repeat (first | exact pick_head | apply pick_tail | apply pick_app)) (by simp) rfl fun u H => ?_
        simp only [List.set_cons_succ, List.set_cons_zero] at H
        refine h_st H (by repeat (first | exact pick_head | apply pick_tail | apply pick_app)) (by simp) rfl fun u H => ?_
        simp only [List.set_cons_succ, List.set_cons_zero] at H
        refine h_st H (by repeat (first | exact pick_head | apply pick_tail | apply pick_app)) (by simp) rfl fun u H => ?_
        simp only [List.set_cons_succ, List.set_cons_zero] at H
        refine s_chk (by repeat (first | exact c_nil | refine hc_cons H (by repeat (first | exact pick_head | apply pick_tail | apply pick_app)) rfl ?_)) ?_
        refine s_blk (fun vs W' => vs = [.int .i64 (cmpK a b)] ∧ Has w W' (cl r133 27 (bytesK a) :: cl r132 27 (bytesK b) :: cl r18 27 (byteL (fun j => (f j : Int))) :: cl r17 23 (kr b) :: cl r16 23 (kr a) :: [])) ?_ ?_
        · rintro _ j W ⟨rfl, H⟩
          refine s_asI (h_drew H fun u H => s_call live_c ?_)
          rintro _ u ⟨rfl, fr⟩
          have H := H.fr0 fr
          refine ⟨_, rfl, s_asB (s_chk c_nil (s_true rfl ?_))⟩
          iterate 4 refine h_ldI H (by repeat (first | exact pick_head | apply pick_tail | apply pick_app)) rfl ?_
          refine s_call (cmpK_c a b) ?_
          rintro _ u ⟨rfl, fr⟩
          have H := H.fr0 fr
          refine ⟨_, rfl, s_asI (s_chk c_nil (s_true (by simp) ?_))⟩
          have H : Has w u (cl r133 27 [.int .u8 (dig a 0), .int .u8 (dig a 1), .int .u8 (dig a 2), .int .u8 (dig a 3), .int .u8 (dig a 4), .int .u8 (dig a 5), .int .u8 (dig a 6), .int .u8 (dig a 7), .int .u8 (dig a 8), .int .u8 (dig a 9), .int .u8 (dig a 10), .int .u8 (dig a 11)] :: cl r132 27 [.int .u8 (dig b 0), .int .u8 (dig b 1), .int .u8 (dig b 2), .int .u8 (dig b 3), .int .u8 (dig b 4), .int .u8 (dig b 5), .int .u8 (dig b 6), .int .u8 (dig b 7), .int .u8 (dig b 8), .int .u8 (dig b 9), .int .u8 (dig b 10), .int .u8 (dig b 11)] :: cl r18 27 [.int .u8 (f 0 : Int), .int .u8 (f 1 : Int), .int .u8 (f 2 : Int), .int .u8 (f 3 : Int), .int .u8 (f 4 : Int), .int .u8 (f 5 : Int), .int .u8 (f 6 : Int), .int .u8 (f 7 : Int), .int .u8 (f 8 : Int), .int .u8 (f 9 : Int), .int .u8 (f 10 : Int), .int .u8 (f 11 : Int)] :: cl r17 23 (kr b) :: cl r16 23 (kr a) :: []) := H
          iterate 14 refine h_ldI H (by repeat (first | exact pick_head | apply pick_tail | apply pick_app)) rfl ?_
          refine s_call (from_c (digN a.T a.R) (digN_lt a.T a.R)) ?_
          rintro _ u ⟨rfl, fr⟩
          have H := H.fr0 fr
          rw [from_bytes a ha]
          refine ⟨_, rfl, s_asA (s_req rfl (s_asI (s_asI (s_chk (hc_cons H (by repeat (first | exact pick_head | apply pick_tail | apply pick_app)) rfl (hc_cons H (by repeat (first | exact pick_head | apply pick_tail | apply pick_app)) rfl c_nil)) (s_true (by simp) ?_)))))⟩
          iterate 24 refine h_ldI H (by repeat (first | exact pick_head | apply pick_tail | apply pick_app)) rfl ?_
          refine s_call (from_c f hf) ?_
          rintro _ u ⟨rfl, fr⟩
          have H := H.fr0 fr
          refine ⟨_, rfl, s_asA (s_req rfl (s_asI (s_asI (s_chk (by repeat (first | exact c_nil | refine hc_cons H (by repeat (first | exact pick_head | apply pick_tail | apply pick_app)) rfl ?_)) (s_call (bytes_c (fromK f) (fromK_in hf)) ?_)))))⟩
          rintro _ u ⟨rfl, fr⟩
          have H := H.fr0 fr
          refine ⟨_, rfl, s_asA (s_req rfl ?_)⟩
          iterate 12 refine s_asI ?_
          refine s_chk (by repeat (first | exact c_nil | refine hc_cons H (by repeat (first | exact pick_head | apply pick_tail | apply pick_app)) rfl ?_)) (s_ret ⟨?_, H.base⟩)
          have hbf := bytes_from hf
          rw [hbf 0 (by omega), hbf 1 (by omega), hbf 2 (by omega), hbf 3 (by omega), hbf 4 (by omega), hbf 5 (by omega), hbf 6 (by omega), hbf 7 (by omega), hbf 8 (by omega), hbf 9 (by omega), hbf 10 (by omega), hbf 11 (by omega)]
          simp
        · refine s_loop (fun vs W => ∃ i : Nat, vs = [.int .i64 0, .int .i64 i] ∧ i ≤ 12 ∧ (∀ j, j < i → dig a j = dig b j) ∧ Has w W (cl r133 27 (bytesK a) :: cl r132 27 (bytesK b) :: cl r18 27 (byteL (fun j => (f j : Int))) :: cl r17 23 (kr b) :: cl r16 23 (kr a) :: [])) (fun vs _ => 12 - (intOf (vs.getD 1 undef)).toNat) ⟨0, rfl, by omega, by omega, H.sub (by repeat (first | exact sb_refl | exact sb_nil | refine sb_cons (by repeat (first | exact pick_head | apply pick_tail | apply pick_app)) ?_ | refine sb_app (by repeat (first | exact cut_head | exact cut_all | apply cut_tail | apply cut_app)) ?_ | exact sb_one (by repeat (first | exact cut_head | exact cut_all | apply cut_tail | apply cut_app))))⟩ ?_
          rintro _ j W ⟨i, rfl, hi, heq, H⟩
          refine s_asI (s_asI (s_ite (fun g => ?_) (fun g => s_next (by first | exact ⟨rfl, rfl⟩ | trivial) ?_)))
          · simp only [decide_eq_true_eq] at g
            have hlt : i < 12 := by omega
            refine h_drew H fun u H => s_req ⟨by omega, g⟩ (h_ldI H (by repeat (first | exact pick_head | apply pick_tail | apply pick_app)) (bytesK_get a hlt) (s_req ⟨by omega, g⟩ (h_ldI H (by repeat (first | exact pick_head | apply pick_tail | apply pick_app)) (bytesK_get b hlt) (s_ite (fun g2 => ?_) (fun g2 => s_next (by first | exact ⟨rfl, rfl⟩ | trivial) ?_)))))
            · have hne : dig a i ≠ dig b i := by simpa using g2
              have ho := ord_cmp ha hb hlt heq hne
              unfold ordOf at ho
              refine h_drew H fun u H => s_req ⟨by omega, g⟩ (h_ldI H (by repeat (first | exact pick_head | apply pick_tail | apply pick_app)) (bytesK_get a hlt) (s_req ⟨by omega, g⟩ (h_ldI H (by repeat (first | exact pick_head | apply pick_tail | apply pick_app)) (bytesK_get b hlt) (s_ite (fun g3 => s_next (by first | exact ⟨rfl, rfl⟩ | trivial) ?_) (fun g3 => s_next (by first | exact ⟨rfl, rfl⟩ | trivial) ?_)))))
              · rw [if_pos (by simpa using g3)] at ho
                simp (config := { decide := true }) only [if_true, if_false]
                exact ⟨by rw [ho], H⟩
              · rw [if_neg (by simpa using g3)] at ho
                simp (config := { decide := true }) only [if_true, if_false]
                exact ⟨by rw [ho], H⟩
            · have hee : dig a i = dig b i := by simpa using g2
              simp (config := { decide := true }) only [if_true, if_false]
              refine ⟨⟨i + 1, by rw [w_succ (by omega)], by omega, fun j hj => ?_, H⟩, by rw [w_succ (by omega)]; simp [intOf] <;> omega⟩
              by_cases hji : j = i
              · rw [hji]; exact hee
              · exact heq j (by omega)
          · simp only [decide_eq_false_iff_not] at g
            have hab : a = b := dig_all ha hb fun j hj => dig_eq.1 (heq j (by omega))
            simp (config := { decide := true }) only [if_true, if_false]
            exact ⟨by rw [cmpK_zero.2 hab], H⟩
    · refine s_both ?_ ?_
      · refine h_new H fun r213 u H => ?_
        refine s_chk (by repeat (first | exact c_nil | refine hc_cons H (by repeat (first | exact pick_head | apply pick_tail | apply pick_app)) rfl ?_)) ?_
        refine s_both ?_ ?_
        · refine s_call (bytes_c b hb) ?_
          rintro _ u ⟨rfl, fr⟩
          have H := H.fr0 fr
          refine ⟨_, rfl, s_asA (s_req rfl ?_)⟩
          iterate 12 refine s_asI ?_
          refine s_chk (by repeat (first | exact c_nil | refine hc_cons H (by repeat (first | exact pick_head | apply pick_tail | apply pick_app)) rfl ?_)) ?_
          refine h_new H fun r228 u H => ?_
          refine s_chk (by repeat (first | exact c_nil | refine hc_cons H (by repeat (first | exact pick_head | apply pick_tail | apply pick_app)) rfl ?_)) ?_
          refine h_st H (by repeat (first | exact pick_head | apply pick_tail | apply pick_app)) (by simp) rfl fun u H => ?_
          simp only [List.set_cons_succ, List.set_cons_zero] at H
          refine h_st H (by repeat (first | exact pick_head | apply pick_tail | apply pick_app)) (by simp) rfl fun u H => ?_
          simp only [List.set_cons_succ, List.set_cons_zero] at H
          refine h_st H (by repeat (first | exact pick_head | apply pick_tail | apply pick_app)) (by simp) rfl fun u H => ?_
          simp only [List.set_cons_succ, List.set_cons_zero] at H
          refine h_st H (by repeat (first | exact pick_head | apply pick_tail | apply pick_app)) (by simp) rfl fun u H => ?_
          simp only [List.set_cons_succ, List.set_cons_zero] at H
          refine h_st H (by repeat (first | exact pick_head | apply pick_tail | apply pick_app)) (by simp) rfl fun u H => ?_
          simp only [List.set_cons_succ, List.set_cons_zero] at H
          refine h_st H (by repeat (first | exact pick_head | apply pick_tail | apply pick_app)) (by simp) rfl fun u H => ?_
          simp only [List.set_cons_succ, List.set_cons_zero] at H
          refine h_st H (by repeat (first | exact pick_head | apply pick_tail | apply pick_app)) (by simp) rfl fun u H => ?_
          simp only [List.set_cons_succ, List.set_cons_zero] at H
          refine h_st H (by repeat (first | exact pick_head | apply pick_tail | apply pick_app)) (by simp) rfl fun u H => ?_
          simp only [List.set_cons_succ, List.set_cons_zero] at H
          refine h_st H (by repeat (first | exact pick_head | apply pick_tail | apply pick_app)) (by simp) rfl fun u H => ?_
          simp only [List.set_cons_succ, List.set_cons_zero] at H
          refine h_st H (by repeat (first | exact pick_head | apply pick_tail | apply pick_app)) (by simp) rfl fun u H => ?_
          simp only [List.set_cons_succ, List.set_cons_zero] at H
          refine h_st H (by repeat (first | exact pick_head | apply pick_tail | apply pick_app)) (by simp) rfl fun u H => ?_
          simp only [List.set_cons_succ, List.set_cons_zero] at H
          refine h_st H (by repeat (first | exact pick_head | apply pick_tail | apply pick_app)) (by simp) rfl fun u H => ?_
          simp only [List.set_cons_succ, List.set_cons_zero] at H
          refine s_chk (by repeat (first | exact c_nil | refine hc_cons H (by repeat (first | exact pick_head | apply pick_tail | apply pick_app)) rfl ?_)) ?_
          refine h_st H (by repeat (first | exact pick_head | apply pick_tail | apply pick_app)) (by simp) rfl fun u H => ?_
          simp only [List.set_cons_succ, List.set_cons_zero] at H
          refine h_st H (by repeat (first | exact pick_head | apply pick_tail | apply pick_app)) (by simp) rfl fun u H => ?_
          simp only [List.set_cons_succ, List.set_cons_zero] at H
          refine h_st H (by repeat (first | exact pick_head | apply pick_tail | apply pick_app)) (by simp) rfl fun u H => ?_
          simp only [List.set_cons_succ, List.set_cons_zero] at H
          refine h_st H (by repeat (first | exact pick_head | apply pick_tail | apply pick_app)) (by simp) rfl fun u H => ?_
          simp only [List.set_cons_succ, List.set_cons_zero] at H
          refine h_st H (by repeat (first | exact pick_head | apply pick_tail | apply pick_app)) (by simp) rfl fun u H => ?_
          simp only [List.set_cons_succ, List.set_cons_zero] at H
          refine h_st H (by repeat (first | exact pick_head | apply pick_tail | apply pick_app)) (by simp) rfl fun u H => ?_
          simp only [List.set_cons_succ, List.set_cons_zero] at H
          refine h_st H (by repeat (first | exact pick_head | apply pick_tail | apply pick_app)) (by simp) rfl fun u H => ?_
          simp only [List.set_cons_succ, List.set_cons_zero] at H
          refine h_st H (by repeat (first | exact pick_head | apply pick_tail | apply pick_app)) (by simp) rfl fun u H => ?_
          simp only [List.set_cons_succ, List.set_cons_zero] at H
          refine h_st H (by repeat (first | exact pick_head | apply pick_tail | apply pick_app)) (by simp) rfl fun u H => ?_
          simp only [List.set_cons_succ, List.set_cons_zero] at H
          refine h_st H (by repeat (first | exact pick_head | apply pick_tail | apply pick_app)) (by simp) rfl fun u H => ?_
          simp only [List.set_cons_succ, List.set_cons_zero] at H
          refine h_st H (by repeat (first | exact pick_head | apply pick_tail | apply pick_app)) (by simp) rfl fun u H => ?_
          simp only [List.set_cons_succ, List.set_cons_zero] at H
          refine h_st H (by repeat (first | exact pick_head | apply pick_tail | apply pick_app)) (by simp) rfl fun u H => ?_
          simp only [List.set_cons_succ, List.set_cons_zero] at H
          refine s_chk (by repeat (first | exact c_nil | refine hc_cons H (by repeat (first | exact pick_head | apply pick_tail | apply pick_app)) rfl ?_)) ?_
          refine s_blk (fun vs W' => vs = [.int .i64 (cmpK a b)] ∧ Has w W' (cl r213 27 (bytesK a) :: cl r228 27 (bytesK b) :: cl r18 27 (byteL (fun j => (f j : Int))) :: cl r17 23 (kr b) :: cl r16 23 (kr a) :: [])) ?_ ?_
          · rintro _ j W ⟨rfl, H⟩
            refine s_asI (h_drew H fun u H => s_call live_c ?_)
            rintro _ u ⟨rfl, fr⟩
            have H := H.fr0 fr
            refine ⟨_, rfl, s_asB (s_chk c_nil (s_true rfl ?_))⟩
            iterate 4 refine h_ldI H (by repeat (first | exact pick_head | apply pick_tail | apply pick_app)) rfl ?_
            refine s_call (cmpK_c a b) ?_
            rintro _ u ⟨rfl, fr⟩
            have H := H.fr0 fr
            refine ⟨_, rfl, s_asI (s_chk c_nil (s_true (by simp) ?_))⟩
            have H : Has w u (cl r213 27 [.int .u8 (dig a 0), .int .u8 (dig a 1), .int .u8 (dig a 2), .int .u8 (dig a 3), .int .u8 (dig a 4), .int .u8 (dig a 5), .int .u8 (dig a 6), .int .u8 (dig a 7), .int .u8 (dig a 8), .int .u8 (dig a 9), .int .u8 (dig a 10), .int .u8 (dig a 11)] :: cl r228 27 [.int .u8 (dig b 0), .int .u8 (dig b 1), .int .u8 (dig b 2), .int .u8 (dig b 3), .int .u8 (dig b 4), .int .u8 (dig b 5), .int .u8 (dig b 6), .int .u8 (dig b 7), .int .u8 (dig b 8), .int .u8 (dig b 9), .int .u8 (dig b 10), .int .u8 (dig b 11)] :: cl r18 27 [.int .u8 (f 0 : Int), .int .u8 (f 1 : Int), .int .u8 (f 2 : Int), .int .u8 (f 3 : Int), .int .u8 (f 4 : Int), .int .u8 (f 5 : Int), .int .u8 (f 6 : Int), .int .u8 (f 7 : Int), .int .u8 (f 8 : Int), .int .u8 (f 9 : Int), .int .u8 (f 10 : Int), .int .u8 (f 11 : Int)] :: cl r17 23 (kr b) :: cl r16 23 (kr a) :: []) := H
            iterate 14 refine h_ldI H (by repeat (first | exact pick_head | apply pick_tail | apply pick_app)) rfl ?_
            refine s_call (from_c (digN a.T a.R) (digN_lt a.T a.R)) ?_
            rintro _ u ⟨rfl, fr⟩
            have H := H.fr0 fr
            rw [from_bytes a ha]
            refine ⟨_, rfl, s_asA (s_req rfl (s_asI (s_asI (s_chk (hc_cons H (by repeat (first | exact pick_head | apply pick_tail | apply pick_app)) rfl (hc_cons H (by repeat (first | exact pick_head | apply pick_tail | apply pick_app)) rfl c_nil)) (s_true (by simp) ?_)))))⟩
            iterate 24 refine h_ldI H (by repeat (first | exact pick_head | apply pick_tail | apply pick_app)) rfl ?_
            refine s_call (from_c f hf) ?_
            rintro _ u ⟨rfl, fr⟩
            have H := H.fr0 fr
            refine ⟨_, rfl, s_asA (s_req rfl (s_asI (s_asI (s_chk (by repeat (first | exact c_nil | refine hc_cons H (by repeat (first | exact pick_head | apply pick_tail | apply pick_app)) rfl ?_)) (s_call (bytes_c (fromK f) (fromK_in hf)) ?_)))))⟩
            rintro _ u ⟨rfl, fr⟩
            have H := H.fr0 fr
            refine ⟨_, rfl, s_asA (s_req rfl ?_)⟩
            iterate 12 refine s_asI ?_
            refine s_chk (by repeat (first | exact c_nil | refine hc_cons H (by repeat (first | exact pick_head | apply pick_tail | apply pick_app)) rfl ?_)) (s_ret ⟨?_, H.base⟩)
            have hbf := bytes_from hf
            rw [hbf 0 (by omega), hbf 1 (by omega), hbf 2 (by omega), hbf 3 (by omega), hbf 4 (by omega), hbf 5 (by omega), hbf 6 (by omega), hbf 7 (by omega), hbf 8 (by omega), hbf 9 (by omega), hbf 10 (by omega), hbf 11 (by omega)]
            simp
          · refine s_loop (fun vs W => ∃ i : Nat, vs = [.int .i64 0, .int .i64 i] ∧ i ≤ 12 ∧ (∀ j, j < i → dig a j = dig b j) ∧ Has w W (cl r213 27 (bytesK a) :: cl r228 27 (bytesK b) :: cl r18 27 (byteL (fun j => (f j : Int))) :: cl r17 23 (kr b) :: cl r16 23 (kr a) :: [])) (fun vs _ => 12 - (intOf (vs.getD 1 undef)).toNat) ⟨0, rfl, by omega, by omega, H.sub (by repeat (first | exact sb_refl | exact sb_nil | refine sb_cons (by repeat (first | exact pick_head | apply pick_tail | apply pick_app)) ?_ | refine sb_app (by repeat (first | exact cut_head | exact cut_all | apply cut_tail | apply cut_app)) ?_ | exact sb_one (by repeat (first | exact cut_head | exact cut_all | apply cut_tail | apply cut_app))))⟩ ?_
            rintro _ j W ⟨i, rfl, hi, heq, H⟩
            refine s_asI (s_asI (s_ite (fun g => ?_) (fun g => s_next (by first | exact ⟨rfl, rfl⟩ | trivial) ?_)))
            · simp only [decide_eq_true_eq] at g
              have hlt : i < 12 := by omega
              refine h_drew H fun u H => s_req ⟨by omega, g⟩ (h_ldI H (by repeat (first | exact pick_head | apply pick_tail | apply pick_app)) (bytesK_get a hlt) (s_req ⟨by omega, g⟩ (h_ldI H (by repeat (first | exact pick_head | apply pick_tail | apply pick_app)) (bytesK_get b hlt) (s_ite (fun g2 => ?_) (fun g2 => s_next (by first | exact ⟨rfl, rfl⟩ | trivial) ?_)))))
              · have hne : dig a i ≠ dig b i := by simpa using g2
                have ho := ord_cmp ha hb hlt heq hne
                unfold ordOf at ho
                refine h_drew H fun u H => s_req ⟨by omega, g⟩ (h_ldI H (by repeat (first | exact pick_head | apply pick_tail | apply pick_app)) (bytesK_get a hlt) (s_req ⟨by omega, g⟩ (h_ldI H (by repeat (first | exact pick_head | apply pick_tail | apply pick_app)) (bytesK_get b hlt) (s_ite (fun g3 => s_next (by first | exact ⟨rfl, rfl⟩ | trivial) ?_) (fun g3 => s_next (by first | exact ⟨rfl, rfl⟩ | trivial) ?_)))))
                · rw [if_pos (by simpa using g3)] at ho
                  simp (config := { decide := true }) only [if_true, if_false]
                  exact ⟨by rw [ho], H⟩
                · rw [if_neg (by simpa using g3)] at ho
                  simp (config := { decide := true }) only [if_true, if_false]
                  exact ⟨by rw [ho], H⟩
              · have hee : dig a i = dig b i := by simpa using g2
                simp (config := { decide := true }) only [if_true, if_false]
                refine ⟨⟨i + 1, by rw [w_succ (by omega)], by omega, fun j hj => ?_, H⟩, by rw [w_succ (by omega)]; simp [intOf] <;> omega⟩
                by_cases hji : j = i
                · rw [hji]; exact hee
                · exact heq j (by omega)
            · simp only [decide_eq_false_iff_not] at g
              have hab : a = b := dig_all ha hb fun j hj => dig_eq.1 (heq j (by omega))
              simp (config := { decide := true }) only [if_true, if_false]
              exact ⟨by rw [cmpK_zero.2 hab], H⟩
        · refine h_new H fun r308 u H => ?_
          refine s_chk (by repeat (first | exact c_nil | refine hc_cons H (by repeat (first | exact pick_head | apply pick_tail | apply pick_app)) rfl ?_)) ?_
          refine s_call (bytes_c b hb) ?_
          rintro _ u ⟨rfl, fr⟩
          have H := H.fr0 fr
          refine ⟨_, rfl, s_asA (s_req rfl ?_)⟩
          iterate 12 refine s_asI ?_
          refine s_chk (by repeat (first | exact c_nil | refine hc_cons H (by repeat (first | exact pick_head | apply pick_tail | apply pick_app)) rfl ?_)) ?_
          refine h_st H (by repeat (first | exact pick_head | apply pick_tail | apply pick_app)) (by simp) rfl fun u H => ?_
          simp only [List.set_cons_succ, List.set_cons_zero] at H
          refine h_st H (by repeat (first | exact pick_head | apply pick_tail | apply pick_app)) (by simp) rfl fun u H => ?_
          simp only [List.set_cons_succ, List.set_cons_zero] at H
          refine h_st H (by repeat (first | exact pick_head | apply pick_tail | apply pick_app)) (by simp) rfl fun u H => ?_
          simp only [List.set_cons_succ, List.set_cons_zero] at H
          refine h_st H (by repeat (first | exact pick_head | apply pick_tail | apply pick_app)) (by simp) rfl fun u H => ?_
          simp only [List.set_cons_succ, List.set_cons_zero] at H
          refine h_st H (by repeat (first | exact pick_head | apply pick_tail | apply pick_app)) (by simp) rfl fun u H => ?_
          simp only [List.set_cons_succ, List.set_cons_zero] at H
          refine h_st H (by repeat (first | exact pick_head | apply pick_tail | apply pick_app)) (by simp) rfl fun u H => ?_
          simp only [List.set_cons_succ, List.set_cons_zero] at H
          refine h_st H (by repeat (first | exact pick_head | apply pick_tail | apply pick_app)) (by simp) rfl fun u H => ?_
          simp only [List.set_cons_succ, List.set_cons_zero] at H
          refine h_st H (by repeat (first | exact pick_head | apply pick_tail | apply pick_app)) (by simp) rfl fun u H => ?_
          simp only [List.set_cons_succ, List.set_cons_zero] at H
          refine h_st H (by repeat (first | exact pick_head | apply pick_tail | apply pick_app)) (by simp) rfl fun u H => ?_
          simp only [List.set_cons_succ, List.set_cons_zero] at H
          refine h_st H (by repeat (first | exact pick_head | apply pick_tail | apply pick_app)) (by simp) rfl fun u H => ?_
          simp only [List.set_cons_succ, List.set_cons_zero] at H
          refine h_st H (by repeat (first | exact pick_head | apply pick_tail | apply pick_app)) (by simp) rfl fun u H => ?_
          simp only [List.set_cons_succ, List.set_cons_zero] at H
          refine h_st H (by repeat (first | exact pick_head | apply pick_tail | apply pick_app)) (by simp) rfl fun u H => ?_
          simp only [List.set_cons_succ, List.set_cons_zero] at H
          refine s_chk (by repeat (first | exact c_nil | refine hc_cons H (by repeat (first | exact pick_head | apply pick_tail | apply pick_app)) rfl ?_)) ?_
          refine h_st H (by repeat (first | exact pick_head | apply pick_tail | apply pick_app)) (by simp) rfl fun u H => ?_
          simp only [List.set_cons_succ, List.set_cons_zero] at H
          refine h_st H (by repeat (first | exact pick_head | apply pick_tail | apply pick_app)) (by simp) rfl fun u H => ?_
          simp only [List.set_cons_succ, List.set_cons_zero] at H
          refine h_st H (by repeat (first | exact pick_head | apply pick_tail | apply pick_app)) (by simp) rfl fun u H => ?_
          simp only [List.set_cons_succ, List.set_cons_zero] at H
          refine h_st H (by repeat (first | exact pick_head | apply pick_tail | apply pick_app)) (by simp) rfl fun u H => ?_
          simp only [List.set_cons_succ, List.set_cons_zero] at H
          refine h_st H (by repeat (first | exact pick_head | apply pick_tail | apply pick_app)) (by simp) rfl fun u H => ?_
          simp only [List.set_cons_succ, List.set_cons_zero] at H
          refine h_st H (by repeat (first | exact pick_head | apply pick_tail | apply pick_app)) (by simp) rfl fun u H => ?_
          simp only [List.set_cons_succ, List.set_cons_zero] at H
          refine h_st H (by repeat (first | exact pick_head | apply pick_tail | apply pick_app)) (by simp) rfl fun u H => ?_
          simp only [List.set_cons_succ, List.set_cons_zero] at H
          refine h_st H (by repeat (first | exact pick_head | apply pick_tail | apply pick_app)) (by simp) rfl fun u H => ?_
          simp only [List.set_cons_succ, List.set_cons_zero] at H
          refine h_st H (by repeat (first | exact pick_head | apply pick_tail | apply pick_app)) (by simp) rfl fun u H => ?_
          simp only [List.set_cons_succ, List.set_cons_zero] at H
          refine h_st H (by repeat (first | exact pick_head | apply pick_tail | apply pick_app)) (by simp) rfl fun u H => ?_
          simp only [List.set_cons_succ, List.set_cons_zero] at H
          refine h_st H (by repeat (first | exact pick_head | apply pick_tail | apply pick_app)) (by simp) rfl fun u H => ?_
          simp only [List.set_cons_succ, List.set_cons_zero] at H
          refine h_st H (by repeat (first | exact pick_head | apply pick_tail | apply pick_app)) (by simp) rfl fun u H => ?_
          simp only [List.set_cons_succ, List.set_cons_zero] at H
          refine s_chk (by repeat (first | exact c_nil | refine hc_cons H (by repeat (first | exact pick_head | apply pick_tail | apply pick_app)) rfl ?_)) ?_
          refine s_blk (fun vs W' => vs = [.int .i64 (cmpK a b)] ∧ Has w W' (cl r213 27 (bytesK a) :: cl r308 27 (bytesK b) :: cl r18 27 (byteL (fun j => (f j : Int))) :: cl r17 23 (kr b) :: cl r16 23 (kr a) :: [])) ?_ ?_
          · rintro _ j W ⟨rfl, H⟩
            refine s_asI (h_drew H fun u H => s_call live_c ?_)
            rintro _ u ⟨rfl, fr⟩
            have H := H.fr0 fr
            refine ⟨_, rfl, s_asB (s_chk c_nil (s_true rfl ?_))⟩
            iterate 4 refine h_ldI H (by repeat (first | exact pick_head | apply pick_tail | apply pick_app)) rfl ?_
            refine s_call (cmpK_c a b) ?_
            rintro _ u ⟨rfl, fr⟩
            have H := H.fr0 fr
            refine ⟨_, rfl, s_asI (s_chk c_nil (s_true (by simp) ?_))⟩
            have H : Has w u (cl r213 27 [.int .u8 (dig a 0), .int .u8 (dig a 1), .int .u8 (dig a 2), .int .u8 (dig a 3), .int .u8 (dig a 4), .int .u8 (dig a 5), .int .u8 (dig a 6), .int .u8 (dig a 7), .int .u8 (dig a 8), .int .u8 (dig a 9), .int .u8 (dig a 10), .int .u8 (dig a 11)] :: cl r308 27 [.int .u8 (dig b 0), .int .u8 (dig b 1), .int .u8 (dig b 2), .int .u8 (dig b 3), .int .u8 (dig b 4), .int .u8 (dig b 5), .int .u8 (dig b 6), .int .u8 (dig b 7), .int .u8 (dig b 8), .int .u8 (dig b 9), .int .u8 (dig b 10), .int .u8 (dig b 11)] :: cl r18 27 [.int .u8 (f 0 : Int), .int .u8 (f 1 : Int), .int .u8 (f 2 : Int), .int .u8 (f 3 : Int), .int .u8 (f 4 : Int), .int .u8 (f 5 : Int), .int .u8 (f 6 : Int), .int .u8 (f 7 : Int), .int .u8 (f 8 : Int), .int .u8 (f 9 : Int), .int .u8 (f 10 : Int), .int .u8 (f 11 : Int)] :: cl r17 23 (kr b) :: cl r16 23 (kr a) :: []) := H
            iterate 14 refine h_ldI H (by repeat (first | exact pick_head | apply pick_tail | apply pick_app)) rfl ?_
            refine s_call (from_c (digN a.T a.R) (digN_lt a.T a.R)) ?_
            rintro _ u ⟨rfl, fr⟩
            have H := H.fr0 fr
            rw [from_bytes a ha]
            refine ⟨_, rfl, s_asA (s_req rfl (s_asI (s_asI (s_chk (hc_cons H (by repeat (first | exact pick_head | apply pick_tail | apply pick_app)) rfl (hc_cons H (by repeat (first | exact pick_head | apply pick_tail | apply pick_app)) rfl c_nil)) (s_true (by simp) ?_)))))⟩
            iterate 24 refine h_ldI H (by repeat (first | exact pick_head | apply pick_tail | apply pick_app)) rfl ?_
            refine s_call (from_c f hf) ?_
            rintro _ u ⟨rfl, fr⟩
            have H := H.fr0 fr
            refine ⟨_, rfl, s_asA (s_req rfl (s_asI (s_asI (s_chk (by repeat (first | exact c_nil | refine hc_cons H (by repeat (first | exact pick_head | apply pick_tail | apply pick_app)) rfl ?_)) (s_call (bytes_c (fromK f) (fromK_in hf)) ?_)))))⟩
            rintro _ u ⟨rfl, fr⟩
            have H := H.fr0 fr
            refine ⟨_, rfl, s_asA (s_req rfl ?_)⟩
            iterate 12 refine s_asI ?_
            refine s_chk (by repeat (first | exact c_nil | refine hc_cons H (by repeat (first | exact pick_head | apply pick_tail | apply pick_app)) rfl ?_)) (s_ret ⟨?_, H.base⟩)
            have hbf := bytes_from hf
            rw [hbf 0 (by omega), hbf 1 (by omega), hbf 2 (by omega), hbf 3 (by omega), hbf 4 (by omega), hbf 5 (by omega), hbf 6 (by omega), hbf 7 (by omega), hbf 8 (by omega), hbf 9 (by omega), hbf 10 (by omega), hbf 11 (by omega)]
            simp
          · refine s_loop (fun vs W => ∃ i : Nat, vs = [.int .i64 0, .int .i64 i] ∧ i ≤ 12 ∧ (∀ j, j < i → dig a j = dig b j) ∧ Has w W (cl r213 27 (bytesK a) :: cl r308 27 (bytesK b) :: cl r18 27 (byteL (fun j => (f j : Int))) :: cl r17 23 (kr b) :: cl r16 23 (kr a) :: [])) (fun vs _ => 12 - (intOf (vs.getD 1 undef)).toNat) ⟨0, rfl, by omega, by omega, H.sub (by repeat (first | exact sb_refl | exact sb_nil | refine sb_cons (by repeat (first | exact pick_head | apply pick_tail | apply pick_app)) ?_ | refine sb_app (by repeat (first | exact cut_head | exact cut_all | apply cut_tail | apply cut_app)) ?_ | exact sb_one (by repeat (first | exact cut_head | exact cut_all | apply cut_tail | apply cut_app))))⟩ ?_
            rintro _ j W ⟨i, rfl, hi, heq, H⟩
            refine s_asI (s_asI (s_ite (fun g => ?_) (fun g => s_next (by first | exact ⟨rfl, rfl⟩ | trivial) ?_)))
            · simp only [decide_eq_true_eq] at g
              have hlt : i < 12 := by omega
              refine h_drew H fun u H => s_req ⟨by omega, g⟩ (h_ldI H (by repeat (first | exact pick_head | apply pick_tail | apply pick_app)) (bytesK_get a hlt) (s_req ⟨by omega, g⟩ (h_ldI H (by repeat (first | exact pick_head | apply pick_tail | apply pick_app)) (bytesK_get b hlt) (s_ite (fun g2 => ?_) (fun g2 => s_next (by first | exact ⟨rfl, rfl⟩ | trivial) ?_)))))
              · have hne : dig a i ≠ dig b i := by simpa using g2
                have ho := ord_cmp ha hb hlt heq hne
                unfold ordOf at ho
                refine h_drew H fun u H => s_req ⟨by omega, g⟩ (h_ldI H (by repeat (first | exact pick_head | apply pick_tail | apply pick_app)) (bytesK_get a hlt) (s_req ⟨by omega, g⟩ (h_ldI H (by repeat (first | exact pick_head | apply pick_tail | apply pick_app)) (bytesK_get b hlt) (s_ite (fun g3 => s_next (by first | exact ⟨rfl, rfl⟩ | trivial) ?_) (fun g3 => s_next (by first | exact ⟨rfl, rfl⟩ | trivial) ?_)))))
                · rw [if_pos (by simpa using g3)] at ho
                  simp (config := { decide := true }) only [if_true, if_false]
                  exact ⟨by rw [ho], H⟩
                · rw [if_neg (by simpa using g3)] at ho
                  simp (config := { decide := true }) only [if_true, if_false]
                  exact ⟨by rw [ho], H⟩
              · have hee : dig a i = dig b i := by simpa using g2
                simp (config := { decide := true }) only [if_true, if_false]
                refine ⟨⟨i + 1, by rw [w_succ (by omega)], by omega, fun j hj => ?_, H⟩, by rw [w_succ (by omega)]; simp [intOf] <;> omega⟩
                by_cases hji : j = i
                · rw [hji]; exact hee
                · exact heq j (by omega)
            · simp only [decide_eq_false_iff_not] at g
              have hab : a = b := dig_all ha hb fun j hj => dig_eq.1 (heq j (by omega))
              simp (config := { decide := true }) only [if_true, if_false]
              exact ⟨by rw [cmpK_zero.2 hab], H⟩
      · refine h_new H fun r402 u H => ?_
        refine s_chk (by repeat (first | exact c_nil | refine hc_cons H (by repeat (first | exact pick_head | apply pick_tail | apply pick_app)) rfl ?_)) ?_
        refine s_both ?_ ?_
        · refine s_call (bytes_c b hb) ?_
          rintro _ u ⟨rfl, fr⟩
          have H := H.fr0 fr
          refine ⟨_, rfl, s_asA (s_req rfl ?_)⟩
          iterate 12 refine s_asI ?_
          refine s_chk (by repeat (first | exact c_nil | refine hc_cons H (by repeat (first | exact pick_head | apply pick_tail | apply pick_app)) rfl ?_)) ?_
          refine h_new H fun r417 u H => ?_
          refine s_chk (by repeat (first | exact c_nil | refine hc_cons H (by repeat (first | exact pick_head | apply pick_tail | apply pick_app)) rfl ?_)) ?_
          refine h_st H (by repeat (first | exact pick_head | apply pick_tail | apply pick_app)) (by simp) rfl fun u H => ?_
          simp only [List.set_cons_succ, List.set_cons_zero] at H
          refine h_st H (by repeat (first | exact pick_head | apply pick_tail | apply pick_app)) (by simp) rfl fun u H => ?_
          simp only [List.set_cons_succ, List.set_cons_zero] at H
          refine h_st H (by repeat (first | exact pick_head | apply pick_tail | apply pick_app)) (by simp) rfl fun u H => ?_
          simp only [List.set_cons_succ, List.set_cons_zero] at H
          refine h_st H (by repeat (first | exact pick_head | apply pick_tail | apply pick_app)) (by simp) rfl fun u H => ?_
          simp only [List.set_cons_succ, List.set_cons_zero] at H
          refine h_st H (by repeat (first | exact pick_head | apply pick_tail | apply pick_app)) (by simp) rfl fun u H => ?_
          simp only [List.set_cons_succ, List.set_cons_zero] at H
          refine h_st H (by repeat (first | exact pick_head | apply pick_tail | apply pick_app)) (by simp) rfl fun u H => ?_
          simp only [List.set_cons_succ, List.set_cons_zero] at H
          refine h_st H (by repeat (first | exact pick_head | apply pick_tail | apply pick_app)) (by simp) rfl fun u H => ?_
          simp only [List.set_cons_succ, List.set_cons_zero] at H
          refine h_st H (by repeat (first | exact pick_head | apply pick_tail | apply pick_app)) (by simp) rfl fun u H => ?_
          simp only [List.set_cons_succ, List.set_cons_zero] at H
          refine h_st H (by repeat (first | exact pick_head | apply pick_tail | apply pick_app)) (by simp) rfl fun u H => ?_
          simp only [List.set_cons_succ, List.set_cons_zero] at H
          refine h_st H (by repeat (first | exact pick_head | apply pick_tail | apply pick_app)) (by simp) rfl fun u H => ?_
          simp only [List.set_cons_succ, List.set_cons_zero] at H
          refine h_st H (by repeat (first | exact pick_head | apply pick_tail | apply pick_app)) (by simp) rfl fun u H => ?_
          simp only [List.set_cons_succ, List.set_cons_zero] at H
          refine h_st H (by repeat (first | exact pick_head | apply pick_tail | apply pick_app)) (by simp) rfl fun u H => ?_
          simp only [List.set_cons_succ, List.set_cons_zero] at H
          refine s_chk (by repeat (first | exact c_nil | refine hc_cons H (by repeat (first | exact pick_head | apply pick_tail | apply pick_app)) rfl ?_)) ?_
          refine h_st H (by repeat (first | exact pick_head | apply pick_tail | apply pick_app)) (by simp) rfl fun u H => ?_
          simp only [List.set_cons_succ, List.set_cons_zero] at H
          refine h_st H (by repeat (first | exact pick_head | apply pick_tail | apply pick_app)) (by simp) rfl fun u H => ?_
          simp only [List.set_cons_succ, List.set_cons_zero] at H
          refine h_st H (by repeat (first | exact pick_head | apply pick_tail | apply pick_app)) (by simp) rfl fun u H => ?_
          simp only [List.set_cons_succ, List.set_cons_zero] at H
          refine h_st H (by repeat (first | exact pick_head | apply pick_tail | apply pick_app)) (by simp) rfl fun u H => ?_
          simp only [List.set_cons_succ, List.set_cons_zero] at H
          refine h_st H (by repeat (first | exact pick_head | apply pick_tail | apply pick_app)) (by simp) rfl fun u H => ?_
          simp only [List.set_cons_succ, List.set_cons_zero] at H
          refine h_st H (by repeat (first | exact pick_head | apply pick_tail | apply pick_app)) (by simp) rfl fun u H => ?_
          simp only [List.set_cons_succ, List.set_cons_zero] at H
          refine h_st H (by repeat (first | exact pick_head | apply pick_tail | apply pick_app)) (by simp) rfl fun u H => ?_
          simp only [List.set_cons_succ, List.set_cons_zero] at H
          refine h_st H (by repeat (first | exact pick_head | apply pick_tail | apply pick_app)) (by simp) rfl fun u H => ?_
          simp only [List.set_cons_succ, List.set_cons_zero] at H
          refine h_st H (by repeat (first | exact pick_head | apply pick_tail | apply pick_app)) (by simp) rfl fun u H => ?_
          simp only [List.set_cons_succ, List.set_cons_zero] at H
          refine h_st H (by repeat (first | exact pick_head | apply pick_tail | apply pick_app)) (by simp) rfl fun u H => ?_
          simp only [List.set_cons_succ, List.set_cons_zero] at H
          refine h_st H (by repeat (first | exact pick_head | apply pick_tail | apply pick_app)) (by simp) rfl fun u H => ?_
          simp only [List.set_cons_succ, List.set_cons_zero] at H
          refine h_st H (by repeat (first | exact pick_head | apply pick_tail | apply pick_app)) (by simp) rfl fun u H => ?_
          simp only [List.set_cons_succ, List.set_cons_zero] at H
          refine s_chk (by repeat (first | exact c_nil | refine hc_cons H (by repeat (first | exact pick_head | apply pick_tail | apply pick_app)) rfl ?_)) ?_
          refine s_blk (fun vs W' => vs = [.int .i64 (cmpK a b)] ∧ Has w W' (cl r417 27 (bytesK a) :: cl r402 27 (bytesK b) :: cl r18 27 (byteL (fun j => (f j : Int))) :: cl r17 23 (kr b) :: cl r16 23 (kr a) :: [])) ?_ ?_
          · rintro _ j W ⟨rfl, H⟩
            refine s_asI (h_drew H fun u H => s_call live_c ?_)
            rintro _ u ⟨rfl, fr⟩
            have H := H.fr0 fr
            refine ⟨_, rfl, s_asB (s_chk c_nil (s_true rfl ?_))⟩
            iterate 4 refine h_ldI H (by repeat (first | exact pick_head | apply pick_tail | apply pick_app)) rfl ?_
            refine s_call (cmpK_c a b) ?_
            rintro _ u ⟨rfl, fr⟩
            have H := H.fr0 fr
            refine ⟨_, rfl, s_asI (s_chk c_nil (s_true (by simp) ?_))⟩
            have H : Has w u (cl r417 27 [.int .u8 (dig a 0), .int .u8 (dig a 1), .int .u8 (dig a 2), .int .u8 (dig a 3), .int .u8 (dig a 4), .int .u8 (dig a 5), .int .u8 (dig a 6), .int .u8 (dig a 7), .int .u8 (dig a 8), .int .u8 (dig a 9), .int .u8 (dig a 10), .int .u8 (dig a 11)] :: cl r402 27 [.int .u8 (dig b 0), .int .u8 (dig b 1), .int .u8 (dig b 2), .int .u8 (dig b 3), .int .u8 (dig b 4), .int .u8 (dig b 5), .int .u8 (dig b 6), .int .u8 (dig b 7), .int .u8 (dig b 8), .int .u8 (dig b 9), .int .u8 (dig b 10), .int .u8 (dig b 11)] :: cl r18 27 [.int .u8 (f 0 : Int), .int .u8 (f 1 : Int), .int .u8 (f 2 : Int), .int .u8 (f 3 : Int), .int .u8 (f 4 : Int), .int .u8 (f 5 : Int), .int .u8 (f 6 : Int), .int .u8 (f 7 : Int), .int .u8 (f 8 : Int), .int .u8 (f 9 : Int), .int .u8 (f 10 : Int), .int .u8 (f 11 : Int)] :: cl r17 23 (kr b) :: cl r16 23 (kr a) :: []) := H
            iterate 14 refine h_ldI H (by repeat (first | exact pick_head | apply pick_tail | apply pick_app)) rfl ?_
            refine s_call (from_c (digN a.T a.R) (digN_lt a.T a.R)) ?_
            rintro _ u ⟨rfl, fr⟩
            have H := H.fr0 fr
            rw [from_bytes a ha]
            refine ⟨_, rfl, s_asA (s_req rfl (s_asI (s_asI (s_chk (hc_cons H (by repeat (first | exact pick_head | apply pick_tail | apply pick_app)) rfl (hc_cons H (by repeat (first | exact pick_head | apply pick_tail | apply pick_app)) rfl c_nil)) (s_true (by simp) ?_)))))⟩
            iterate 24 refine h_ldI H (by repeat (first | exact pick_head | apply pick_tail | apply pick_app)) rfl ?_
            refine s_call (from_c f hf) ?_
            rintro _ u ⟨rfl, fr⟩
            have H := H.fr0 fr
            refine ⟨_, rfl, s_asA (s_req rfl (s_asI (s_asI (s_chk (by repeat (first | exact c_nil | refine hc_cons H (by repeat (first | exact pick_head | apply pick_tail | apply pick_app)) rfl ?_)) (s_call (bytes_c (fromK f) (fromK_in hf)) ?_)))))⟩
            rintro _ u ⟨rfl, fr⟩
            have H := H.fr0 fr
            refine ⟨_, rfl, s_asA (s_req rfl ?_)⟩
            iterate 12 refine s_asI ?_
            refine s_chk (by repeat (first | exact c_nil | refine hc_cons H (by repeat (first | exact pick_head | apply pick_tail | apply pick_app)) rfl ?_)) (s_ret ⟨?_, H.base⟩)
            have hbf := bytes_from hf
            rw [hbf 0 (by omega), hbf 1 (by omega), hbf 2 (by omega), hbf 3 (by omega), hbf 4 (by omega), hbf 5 (by omega), hbf 6 (by omega), hbf 7 (by omega), hbf 8 (by omega), hbf 9 (by omega), hbf 10 (by omega), hbf 11 (by omega)]
            simp
          · refine s_loop (fun vs W => ∃ i : Nat, vs = [.int .i64 0, .int .i64 i] ∧ i ≤ 12 ∧ (∀ j, j < i → dig a j = dig b j) ∧ Has w W (cl r417 27 (bytesK a) :: cl r402 27 (bytesK b) :: cl r18 27 (byteL (fun j => (f j : Int))) :: cl r17 23 (kr b) :: cl r16 23 (kr a) :: [])) (fun vs _ => 12 - (intOf (vs.getD 1 undef)).toNat) ⟨0, rfl, by omega, by omega, H.sub (by repeat (first | exact sb_refl | exact sb_nil | refine sb_cons (by repeat (first | exact pick_head | apply pick_tail | apply pick_app)) ?_ | refine sb_app (by repeat (first | exact cut_head | exact cut_all | apply cut_tail | apply cut_app)) ?_ | exact sb_one (by repeat (first | exact cut_head | exact cut_all | apply cut_tail | apply cut_app))))⟩ ?_
            rintro _ j W ⟨i, rfl, hi, heq, H⟩
            refine s_asI (s_asI (s_ite (fun g => ?_) (fun g => s_next (by first | exact ⟨rfl, rfl⟩ | trivial) ?_)))
            · simp only [decide_eq_true_eq] at g
              have hlt : i < 12 := by omega
              refine h_drew H fun u H => s_req ⟨by omega, g⟩ (h_ldI H (by repeat (first | exact pick_head | apply pick_tail | apply pick_app)) (bytesK_get a hlt) (s_req ⟨by omega, g⟩ (h_ldI H (by repeat (first | exact pick_head | apply pick_tail | apply pick_app)) (bytesK_get b hlt) (s_ite (fun g2 => ?_) (fun g2 => s_next (by first | exact ⟨rfl, rfl⟩ | trivial) ?_)))))
              · have hne : dig a i ≠ dig b i := by simpa using g2
                have ho := ord_cmp ha hb hlt heq hne
                unfold ordOf at ho
                refine h_drew H fun u H => s_req ⟨by omega, g⟩ (h_ldI H (by repeat (first | exact pick_head | apply pick_tail | apply pick_app)) (bytesK_get a hlt) (s_req ⟨by omega, g⟩ (h_ldI H (by repeat (first | exact pick_head | apply pick_tail | apply pick_app)) (bytesK_get b hlt) (s_ite (fun g3 => s_next (by first | exact ⟨rfl, rfl⟩ | trivial) ?_) (fun g3 => s_next (by first | exact ⟨rfl, rfl⟩ | trivial) ?_)))))
                · rw [if_pos (by simpa using g3)] at ho
                  simp (config := { decide := true }) only [if_true, if_false]
                  exact ⟨by rw [ho], H⟩
                · rw [if_neg (by simpa using g3)] at ho
                  simp (config := { decide := true }) only [if_true, if_false]
                  exact ⟨by rw [ho], H⟩
              · have hee : dig a i = dig b i := by simpa using g2
                simp (config := { decide := true }) only [if_true, if_false]
                refine ⟨⟨i + 1, by rw [w_succ (by omega)], by omega, fun j hj => ?_, H⟩, by rw [w_succ (by omega)]; simp [intOf] <;> omega⟩
                by_cases hji : j = i
                · rw [hji]; exact hee
                · exact heq j (by omega)
            · simp only [decide_eq_false_iff_not] at g
              have hab : a = b := dig_all ha hb fun j hj => dig_eq.1 (heq j (by omega))
              simp (config := { decide := true }) only [if_true, if_false]
              exact ⟨by rw [cmpK_zero.2 hab], H⟩
        · refine h_new H fun r497 u H => ?_
          refine s_chk (by repeat (first | exact c_nil | refine hc_cons H (by repeat (first | exact pick_head | apply pick_tail | apply pick_app)) rfl ?_)) ?_
          refine s_call (bytes_c b hb) ?_
          rintro _ u ⟨rfl, fr⟩
          have H := H.fr0 fr
          refine ⟨_, rfl, s_asA (s_req rfl ?_)⟩
          iterate 12 refine s_asI ?_
          refine s_chk (by repeat (first | exact c_nil | refine hc_cons H (by repeat (first | exact pick_head | apply pick_tail | apply pick_app)) rfl ?_)) ?_
          refine h_st H (by repeat (first | exact pick_head | apply pick_tail | apply pick_app)) (by simp) rfl fun u H => ?_
          simp only [List.set_cons_succ, List.set_cons_zero] at H
          refine h_st H (by repeat (first | exact pick_head | apply pick_tail | apply pick_app)) (by simp) rfl fun u H => ?_
          simp only [List.set_cons_succ, List.set_cons_zero] at H
          refine h_st H (by repeat (first | exact pick_head | apply pick_tail | apply pick_app)) (by simp) rfl fun u H => ?_
          simp only [List.set_cons_succ, List.set_cons_zero] at H
          refine h_st H (by repeat (first | exact pick_head | apply pick_tail | apply pick_app)) (by simp) rfl fun u H => ?_
          simp only [List.set_cons_succ, List.set_cons_zero] at H
          refine h_st H (by repeat (first | exact pick_head | apply pick_tail | apply pick_app)) (by simp) rfl fun u H => ?_
          simp only [List.set_cons_succ, List.set_cons_zero] at H
          refine h_st H (by repeat (first | exact pick_head | apply pick_tail | apply pick_app)) (by simp) rfl fun u H => ?_
          simp only [List.set_cons_succ, List.set_cons_zero] at H
          refine h_st H (by repeat (first | exact pick_head | apply pick_tail | apply pick_app)) (by simp) rfl fun u H => ?_
          simp only [List.set_cons_succ, List.set_cons_zero] at H
          refine h_st H (by repeat (first | exact pick_head | apply pick_tail | apply pick_app)) (by simp) rfl fun u H => ?_
          simp only [List.set_cons_succ, List.set_cons_zero] at H
          refine h_st H (by repeat (first | exact pick_head | apply pick_tail | apply pick_app)) (by simp) rfl fun u H => ?_
          simp only [List.set_cons_succ, List.set_cons_zero] at H
          refine h_st H (by repeat (first | exact pick_head | apply pick_tail | apply pick_app)) (by simp) rfl fun u H => ?_
          simp only [List.set_cons_succ, List.set_cons_zero] at H
          refine h_st H (by repeat (first | exact pick_head | apply pick_tail | apply pick_app)) (by simp) rfl fun u H => ?_
          simp only [List.set_cons_succ, List.set_cons_zero] at H
          refine h_st H (by repeat (first | exact pick_head | apply pick_tail | apply pick_app)) (by simp) rfl fun u H => ?_
          simp only [List.set_cons_succ, List.set_cons_zero] at H
          refine s_chk (by repeat (first | exact c_nil | refine hc_cons H (by repeat (first | exact pick_head | apply pick_tail | apply pick_app)) rfl ?_)) ?_
          refine h_st H (by repeat (first | exact pick_head | apply pick_tail | apply pick_app)) (by simp) rfl fun u H => ?_
          simp only [List.set_cons_succ, List.set_cons_zero] at H
          refine h_st H (by repeat (first | exact pick_head | apply pick_tail | apply pick_app)) (by simp) rfl fun u H => ?_
          simp only [List.set_cons_succ, List.set_cons_zero] at H
          refine h_st H (by repeat (first | exact pick_head | apply pick_tail | apply pick_app)) (by simp) rfl fun u H => ?_
          simp only [List.set_cons_succ, List.set_cons_zero] at H
          refine h_st H (by repeat (first | exact pick_head | apply pick_tail | apply pick_app)) (by simp) rfl fun u H => ?_
          simp only [List.set_cons_succ, List.set_cons_zero] at H
          refine h_st H (by repeat (first | exact pick_head | apply pick_tail | apply pick_app)) (by simp) rfl fun u H => ?_
          simp only [List.set_cons_succ, List.set_cons_zero] at H
          refine h_st H (by repeat (first | exact pick_head | apply pick_tail | apply pick_app)) (by simp) rfl fun u H => ?_
          simp only [List.set_cons_succ, List.set_cons_zero] at H
          refine h_st H (by repeat (first | exact pick_head | apply pick_tail | apply pick_app)) (by simp) rfl fun u H => ?_
          simp only [List.set_cons_succ, List.set_cons_zero] at H
          refine h_st H (by repeat (first | exact pick_head | apply pick_tail | apply pick_app)) (by simp) rfl fun u H => ?_
          simp only [List.set_cons_succ, List.set_cons_zero] at H
          refine h_st H (by repeat (first | exact pick_head | apply pick_tail | apply pick_app)) (by simp) rfl fun u H => ?_
          simp only [List.set_cons_succ, List.set_cons_zero] at H
          refine h_st H (by repeat (first | exact pick_head | apply pick_tail | apply pick_app)) (by simp) rfl fun u H => ?_
          simp only [List.set_cons_succ, List.set_cons_zero] at H
          refine h_st H (by repeat (first | exact pick_head | apply pick_tail | apply pick_app)) (by simp) rfl fun u H => ?_
          simp only [List.set_cons_succ, List.set_cons_zero] at H
          refine h_st H (by repeat (first | exact pick_head | apply pick_tail | apply pick_app)) (by simp) rfl fun u H => ?_
          simp only [List.set_cons_succ, List.set_cons_zero] at H
          refine s_chk (by repeat (first | exact c_nil | refine hc_cons H (by repeat (first | exact pick_head | apply pick_tail | apply pick_app)) rfl ?_)) ?_
          refine s_blk (fun vs W' => vs = [.int .i64 (cmpK a b)] ∧ Has w W' (cl r497 27 (bytesK a) :: cl r402 27 (bytesK b) :: cl r18 27 (byteL (fun j => (f j : Int))) :: cl r17 23 (kr b) :: cl r16 23 (kr a) :: [])) ?_ ?_
          · rintro _ j W ⟨rfl, H⟩
            refine s_asI (h_drew H fun u H => s_call live_c ?_)
            rintro _ u ⟨rfl, fr⟩
            have H := H.fr0 fr
            refine ⟨_, rfl, s_asB (s_chk c_nil (s_true rfl ?_))⟩
            iterate 4 refine h_ldI H (by repeat (first | exact pick_head | apply pick_tail | apply pick_app)) rfl ?_
            refine s_call (cmpK_c a b) ?_
            rintro _ u ⟨rfl, fr⟩
            have H := H.fr0 fr
            refine ⟨_, rfl, s_asI (s_chk c_nil (s_true (by simp) ?_))⟩
            have H : Has w u (cl r497 27 [.int .u8 (dig a 0), .int .u8 (dig a 1), .int .u8 (dig a 2), .int .u8 (dig a 3), .int .u8 (dig a 4), .int .u8 (dig a 5), .int .u8 (dig a 6), .int .u8 (dig a 7), .int .u8 (dig a 8), .int .u8 (dig a 9), .int .u8 (dig a 10), .int .u8 (dig a 11)] :: cl r402 27 [.int .u8 (dig b 0), .int .u8 (dig b 1), .int .u8 (dig b 2), .int .u8 (dig b 3), .int .u8 (dig b 4), .int .u8 (dig b 5), .int .u8 (dig b 6), .int .u8 (dig b 7), .int .u8 (dig b 8), .int .u8 (dig b 9), .int .u8 (dig b 10), .int .u8 (dig b 11)] :: cl r18 27 [.int .u8 (f 0 : Int), .int .u8 (f 1 : Int), .int .u8 (f 2 : Int), .int .u8 (f 3 : Int), .int .u8 (f 4 : Int), .int .u8 (f 5 : Int), .int .u8 (f 6 : Int), .int .u8 (f 7 : Int), .int .u8 (f 8 : Int), .int .u8 (f 9 : Int), .int .u8 (f 10 : Int), .int .u8 (f 11 : Int)] :: cl r17 23 (kr b) :: cl r16 23 (kr a) :: []) := H
            iterate 14 refine h_ldI H (by repeat (first | exact pick_head | apply pick_tail | apply pick_app)) rfl ?_
            refine s_call (from_c (digN a.T a.R) (digN_lt a.T a.R)) ?_
            rintro _ u ⟨rfl, fr⟩
            have H := H.fr0 fr
            rw [from_bytes a ha]
            refine ⟨_, rfl, s_asA (s_req rfl (s_asI (s_asI (s_chk (hc_cons H (by repeat (first | exact pick_head | apply pick_tail | apply pick_app)) rfl (hc_cons H (by repeat (first | exact pick_head | apply pick_tail | apply pick_app)) rfl c_nil)) (s_true (by simp) ?_)))))⟩
            iterate 24 refine h_ldI H (by repeat (first | exact pick_head | apply pick_tail | apply pick_app)) rfl ?_
            refine s_call (from_c f hf) ?_
            rintro _ u ⟨rfl, fr⟩
            have H := H.fr0 fr
            refine ⟨_, rfl, s_asA (s_req rfl (s_asI (s_asI (s_chk (by repeat (first | exact c_nil | refine hc_cons H (by repeat (first | exact pick_head | apply pick_tail | apply pick_app)) rfl ?_)) (s_call (bytes_c (fromK f) (fromK_in hf)) ?_)))))⟩
            rintro _ u ⟨rfl, fr⟩
            have H := H.fr0 fr
            refine ⟨_, rfl, s_asA (s_req rfl ?_)⟩
            iterate 12 refine s_asI ?_
            refine s_chk (by repeat (first | exact c_nil | refine hc_cons H (by repeat (first | exact pick_head | apply pick_tail | apply pick_app)) rfl ?_)) (s_ret ⟨?_, H.base⟩)
            have hbf := bytes_from hf
            rw [hbf 0 (by omega), hbf 1 (by omega), hbf 2 (by omega), hbf 3 (by omega), hbf 4 (by omega), hbf 5 (by omega), hbf 6 (by omega), hbf 7 (by omega), hbf 8 (by omega), hbf 9 (by omega), hbf 10 (by omega), hbf 11 (by omega)]
            simp
          · refine s_loop (fun vs W => ∃ i : Nat, vs = [.int .i64 0, .int .i64 i] ∧ i ≤ 12 ∧ (∀ j, j < i → dig a j = dig b j) ∧ Has w W (cl r497 27 (bytesK a) :: cl r402 27 (bytesK b) :: cl r18 27 (byteL (fun j => (f j : Int))) :: cl r17 23 (kr b) :: cl r16 23 (kr a) :: [])) (fun vs _ => 12 - (intOf (vs.getD 1 undef)).toNat) ⟨0, rfl, by omega, by omega, H.sub (by repeat (first | exact sb_refl | exact sb_nil | refine sb_cons (by repeat (first | exact pick_head | apply pick_tail | apply pick_app)) ?_ | refine sb_app (by repeat (first | exact cut_head | exact cut_all | apply cut_tail | apply cut_app)) ?_ | exact sb_one (by repeat (first | exact cut_head | exact cut_all | apply cut_tail | apply cut_app))))⟩ ?_
            rintro _ j W ⟨i, rfl, hi, heq, H⟩
            refine s_asI (s_asI (s_ite (fun g => ?_) (fun g => s_next (by first | exact ⟨rfl, rfl⟩ | trivial) ?_)))
            · simp only [decide_eq_true_eq] at g
              have hlt : i < 12 := by omega
              refine h_drew H fun u H => s_req ⟨by omega, g⟩ (h_ldI H (by repeat (first | exact pick_head | apply pick_tail | apply pick_app)) (bytesK_get a hlt) (s_req ⟨by omega, g⟩ (h_ldI H (by repeat (first | exact pick_head | apply pick_tail | apply pick_app)) (bytesK_get b hlt) (s_ite (fun g2 => ?_) (fun g2 => s_next (by first | exact ⟨rfl, rfl⟩ | trivial) ?_)))))
              · have hne : dig a i ≠ dig b i := by simpa using g2
                have ho := ord_cmp ha hb hlt heq hne
                unfold ordOf at ho
                refine h_drew H fun u H => s_req ⟨by omega, g⟩ (h_ldI H (by repeat (first | exact pick_head | apply pick_tail | apply pick_app)) (bytesK_get a hlt) (s_req ⟨by omega, g⟩ (h_ldI H (by repeat (first | exact pick_head | apply pick_tail | apply pick_app)) (bytesK_get b hlt) (s_ite (fun g3 => s_next (by first | exact ⟨rfl, rfl⟩ | trivial) ?_) (fun g3 => s_next (by first | exact ⟨rfl, rfl⟩ | trivial) ?_)))))
                · rw [if_pos (by simpa using g3)] at ho
                  simp (config := { decide := true }) only [if_true, if_false]
                  exact ⟨by rw [ho], H⟩
                · rw [if_neg (by simpa using g3)] at ho
                  simp (config := { decide := true }) only [if_true, if_false]
                  exact ⟨by rw [ho], H⟩
              · have hee : dig a i = dig b i := by simpa using g2
                simp (config := { decide := true }) only [if_true, if_false]
                refine ⟨⟨i + 1, by rw [w_succ (by omega)], by omega, fun j hj => ?_, H⟩, by rw [w_succ (by omega)]; simp [intOf] <;> omega⟩
                by_cases hji : j = i
                · rw [hji]; exact hee
                · exact heq j (by omega)
            · simp only [decide_eq_false_iff_not] at g
              have hab : a = b := dig_all ha hb fun j hj => dig_eq.1 (heq j (by omega))
              simp (config := { decide := true }) only [if_true, if_false]
              exact ⟨by rw [cmpK_zero.2 hab], H⟩
  · refine s_both ?_ ?_
    · refine h_new H fun r591 u H => ?_
      refine s_chk (by repeat (first | exact c_nil | refine hc_cons H (by repeat (first | exact pick_head | apply pick_tail | apply pick_app)) rfl ?_)) ?_
      refine s_both ?_ ?_
      · refine s_call (bytes_c a ha) ?_
        rintro _ u ⟨rfl, fr⟩
        have H := H.fr0 fr
        refine ⟨_, rfl, s_asA (s_req rfl ?_)⟩
        iterate 12 refine s_asI ?_
        refine s_chk (by repeat (first | exact c_nil | refine hc_cons H (by repeat (first | exact pick_head | apply pick_tail | apply pick_app)) rfl ?_)) ?_
        refine s_both ?_ ?_
        · refine s_call (bytes_c b hb) ?_
          rintro _ u ⟨rfl, fr⟩
          have H := H.fr0 fr
          refine ⟨_, rfl, s_asA (s_req rfl ?_)⟩
          iterate 12 refine s_asI ?_
          refine s_chk (by repeat (first | exact c_nil | refine hc_cons H (by repeat (first | exact pick_head | apply pick_tail | apply pick_app)) rfl ?_)) ?_
          refine h_new H fun r620 u H => ?_
          refine s_chk (by repeat (first | exact c_nil | refine hc_cons H (by repeat (first | exact pick_head | apply pick_tail | apply pick_app)) rfl ?_)) ?_
          refine h_st H (by repeat (first | exact pick_head | apply pick_tail | apply pick_app)) (by simp) rfl fun u H => ?_
          simp only [List.set_cons_succ, List.set_cons_zero] at H
          refine h_st H (by repeat (first | exact pick_head | apply pick_tail | apply pick_app)) (by simp) rfl fun u H => ?_
          simp only [List.set_cons_succ, List.set_cons_zero] at H
          refine h_st H (by repeat (first | exact pick_head | apply pick_tail | apply pick_app)) (by simp) rfl fun u H => ?_
          simp only [List.set_cons_succ, List.set_cons_zero] at H
          refine h_st H (by repeat (first | exact pick_head | apply pick_tail | apply pick_app)) (by simp) rfl fun u H => ?_
          simp only [List.set_cons_succ, List.set_cons_zero] at H
          refine h_st H (by repeat (first | exact pick_head | apply pick_tail | apply pick_app)) (by simp) rfl fun u H => ?_
          simp only [List.set_cons_succ, List.set_cons_zero] at H
          refine h_st H (by repeat (first | exact pick_head | apply pick_tail | apply pick_app)) (by simp) rfl fun u H => ?_
          simp only [List.set_cons_succ, List.set_cons_zero] at H
          refine h_st H (by repeat (first | exact pick_head | apply pick_tail | apply pick_app)) (by simp) rfl fun u H => ?_
          simp only [List.set_cons_succ, List.set_cons_zero] at H
          refine h_st H (by repeat (first | exact pick_head | apply pick_tail | apply pick_app)) (by simp) rfl fun u H => ?_
          simp only [List.set_cons_succ, List.set_cons_zero] at H
          refine h_st H (by repeat (first | exact pick_head | apply pick_tail | apply pick_app)) (by simp) rfl fun u H => ?_
          simp only [List.set_cons_succ, List.set_cons_zero] at H
          refine h_st H (by repeat (first | exact pick_head | apply pick_tail | apply pick_app)) (by simp) rfl fun u H => ?_
          simp only [List.set_cons_succ, List.set_cons_zero] at H
          refine h_st H (by repeat (first | exact pick_head | apply pick_tail | apply pick_app)) (by simp) rfl fun u H => ?_
          simp only [List.set_cons_succ, List.set_cons_zero] at H
          refine h_st H (by repeat (first | exact pick_head | apply pick_tail | apply pick_app)) (by simp) rfl fun u H => ?_
          simp only [List.set_cons_succ, List.set_cons_zero] at H
          refine s_chk (by repeat (first | exact c_nil | refine hc_cons H (by repeat (first | exact pick_head | apply pick_tail | apply pick_app)) rfl ?_)) ?_
          refine h_st H (by repeat (first | exact pick_head | apply pick_tail | apply pick_app)) (by simp) rfl fun u H => ?_
          simp only [List.set_cons_succ, List.set_cons_zero] at H
          refine h_st H (by repeat (first | exact pick_head | apply pick_tail | apply pick_app)) (by simp) rfl fun u H => ?_
          simp only [List.set_cons_succ, List.set_cons_zero] at H
          refine h_st H (by repeat (first | exact pick_head | apply pick_tail | apply pick_app)) (by simp) rfl fun u H => ?_
          simp only [List.set_cons_succ, List.set_cons_zero] at H
          refine h_st H (by repeat (first | exact pick_head | apply pick_tail | apply pick_app)) (by simp) rfl fun u H => ?_
          simp only [List.set_cons_succ, List.set_cons_zero] at H
          refine h_st H (by repeat (first | exact pick_head | apply pick_tail | apply pick_app)) (by simp) rfl fun u H => ?_
          simp only [List.set_cons_succ, List.set_cons_zero] at H
          refine h_st H (by repeat (first | exact pick_head | apply pick_tail | apply pick_app)) (by simp) rfl fun u H => ?_
          simp only [List.set_cons_succ, List.set_cons_zero] at H
          refine h_st H (by repeat (first | exact pick_head | apply pick_tail | apply pick_app)) (by simp) rfl fun u H => ?_
          simp only [List.set_cons_succ, List.set_cons_zero] at H
          refine h_st H (by repeat (first | exact pick_head | apply pick_tail | apply pick_app)) (by simp) rfl fun u H => ?_
          simp only [List.set_cons_succ, List.set_cons_zero] at H
          refine h_st H (by repeat (first | exact pick_head | apply pick_tail | apply pick_app)) (by simp) rfl fun u H => ?_
          simp only [List.set_cons_succ, List.set_cons_zero] at H
          refine h_st H (by repeat (first | exact pick_head | apply pick_tail | apply pick_app)) (by simp) rfl fun u H => ?_
          simp only [List.set_cons_succ, List.set_cons_zero] at H
          refine h_st H (by repeat (first | exact pick_head | apply pick_tail | apply pick_app)) (by simp) rfl fun u H => ?_
          simp only [List.set_cons_succ, List.set_cons_zero] at H
          refine h_st H (by repeat (first | exact pick_head | apply pick_tail | apply pick_app)) (by simp) rfl fun u H => ?_
          simp only [List.set_cons_succ, List.set_cons_zero] at H
          refine s_chk (by repeat (first | exact c_nil | refine hc_cons H (by repeat (first | exact pick_head | apply pick_tail | apply pick_app)) rfl ?_)) ?_
          refine s_blk (fun vs W' => vs = [.int .i64 (cmpK a b)] ∧ Has w W' (cl r591 27 (bytesK a) :: cl r620 27 (bytesK b) :: cl r18 27 (byteL (fun j => (f j : Int))) :: cl r17 23 (kr b) :: cl r16 23 (kr a) :: [])) ?_ ?_
          · rintro _ j W ⟨rfl, H⟩
            refine s_asI (h_drew H fun u H => s_call live_c ?_)
            rintro _ u ⟨rfl, fr⟩
            have H := H.fr0 fr
            refine ⟨_, rfl, s_asB (s_chk c_nil (s_true rfl ?_))⟩
            iterate 4 refine h_ldI H (by repeat (first | exact pick_head | apply pick_tail | apply pick_app)) rfl ?_
            refine s_call (cmpK_c a b) ?_
            rintro _ u ⟨rfl, fr⟩
            have H := H.fr0 fr
            refine ⟨_, rfl, s_asI (s_chk c_nil (s_true (by simp) ?_))⟩
            have H : Has w u (cl r591 27 [.int .u8 (dig a 0), .int .u8 (dig a 1), .int .u8 (dig a 2), .int .u8 (dig a 3), .int .u8 (dig a 4), .int .u8 (dig a 5), .int .u8 (dig a 6), .int .u8 (dig a 7), .int .u8 (dig a 8), .int .u8 (dig a 9), .int .u8 (dig a 10), .int .u8 (dig a 11)] :: cl r620 27 [.int .u8 (dig b 0), .int .u8 (dig b 1), .int .u8 (dig b 2), .int .u8 (dig b 3), .int .u8 (dig b 4), .int .u8 (dig b 5), .int .u8 (dig b 6), .int .u8 (dig b 7), .int .u8 (dig b 8), .int .u8 (dig b 9), .int .u8 (dig b 10), .int .u8 (dig b 11)] :: cl r18 27 [.int .u8 (f 0 : Int), .int .u8 (f 1 : Int), .int .u8 (f 2 : Int), .int .u8 (f 3 : Int), .int .u8 (f 4 : Int), .int .u8 (f 5 : Int), .int .u8 (f 6 : Int), .int .u8 (f 7 : Int), .int .u8 (f 8 : Int), .int .u8 (f 9 : Int), .int .u8 (f 10 : Int), .int .u8 (f 11 : Int)] :: cl r17 23 (kr b) :: cl r16 23 (kr a) :: []) := H
            iterate 14 refine h_ldI H (by repeat (first | exact pick_head | apply pick_tail | apply pick_app)) rfl ?_
            refine s_call (from_c (digN a.T a.R) (digN_lt a.T a.R)) ?_
            rintro _ u ⟨rfl, fr⟩
            have H := H.fr0 fr
            rw [from_bytes a ha]
            refine ⟨_, rfl, s_asA (s_req rfl (s_asI (s_asI (s_chk (hc_cons H (by repeat (first | exact pick_head | apply pick_tail | apply pick_app)) rfl (hc_cons H (by repeat (first | exact pick_head | apply pick_tail | apply pick_app)) rfl c_nil)) (s_true (by simp) ?_)))))⟩
            iterate 24 refine h_ldI H (by repeat (first | exact pick_head | apply pick_tail | apply pick_app)) rfl ?_
            refine s_call (from_c f hf) ?_
            rintro _ u ⟨rfl, fr⟩
            have H := H.fr0 fr
            refine ⟨_, rfl, s_asA (s_req rfl (s_asI (s_asI (s_chk (by repeat (first | exact c_nil | refine hc_cons H (by repeat (first | exact pick_head | apply pick_tail | apply pick_app)) rfl ?_)) (s_call (bytes_c (fromK f) (fromK_in hf)) ?_)))))⟩
            rintro _ u ⟨rfl, fr⟩
            have H := H.fr0 fr
            refine ⟨_, rfl, s_asA (s_req rfl ?_)⟩
            iterate 12 refine s_asI ?_
            refine s_chk (by repeat (first | exact c_nil | refine hc_cons H (by repeat (first | exact pick_head | apply pick_tail | apply pick_app)) rfl ?_)) (s_ret ⟨?_, H.base⟩)
            have hbf := bytes_from hf
            rw [hbf 0 (by omega), hbf 1 (by omega), hbf 2 (by omega), hbf 3 (by omega), hbf 4 (by omega), hbf 5 (by omega), hbf 6 (by omega), hbf 7 (by omega), hbf 8 (by omega), hbf 9 (by omega), hbf 10 (by omega), hbf 11 (by omega)]
            simp
          · refine s_loop (fun vs W => ∃ i : Nat, vs = [.int .i64 0, .int .i64 i] ∧ i ≤ 12 ∧ (∀ j, j < i → dig a j = dig b j) ∧ Has w W (cl r591 27 (bytesK a) :: cl r620 27 (bytesK b) :: cl r18 27 (byteL (fun j => (f j : Int))) :: cl r17 23 (kr b) :: cl r16 23 (kr a) :: [])) (fun vs _ => 12 - (intOf (vs.getD 1 undef)).toNat) ⟨0, rfl, by omega, by omega, H.sub (by repeat (first | exact sb_refl | exact sb_nil | refine sb_cons (by repeat (first | exact pick_head | apply pick_tail | apply pick_app)) ?_ | refine sb_app (by repeat (first | exact cut_head | exact cut_all | apply cut_tail | apply cut_app)) ?_ | exact sb_one (by repeat (first | exact cut_head | exact cut_all | apply cut_tail | apply cut_app))))⟩ ?_
            rintro _ j W ⟨i, rfl, hi, heq, H⟩
            refine s_asI (s_asI (s_ite (fun g => ?_) (fun g => s_next (by first | exact ⟨rfl, rfl⟩ | trivial) ?_)))
            · simp only [decide_eq_true_eq] at g
              have hlt : i < 12 := by omega
              refine h_drew H fun u H => s_req ⟨by omega, g⟩ (h_ldI H (by repeat (first | exact pick_head | apply pick_tail | apply pick_app)) (bytesK_get a hlt) (s_req ⟨by omega, g⟩ (h_ldI H (by repeat (first | exact pick_head | apply pick_tail | apply pick_app)) (bytesK_get b hlt) (s_ite (fun g2 => ?_) (fun g2 => s_next (by first | exact ⟨rfl, rfl⟩ | trivial) ?_)))))
              · have hne : dig a i ≠ dig b i := by simpa using g2
                have ho := ord_cmp ha hb hlt heq hne
                unfold ordOf at ho
                refine h_drew H fun u H => s_req ⟨by omega, g⟩ (h_ldI H (by repeat (first | exact pick_head | apply pick_tail | apply pick_app)) (bytesK_get a hlt) (s_req ⟨by omega, g⟩ (h_ldI H (by repeat (first | exact pick_head | apply pick_tail | apply pick_app)) (bytesK_get b hlt) (s_ite (fun g3 => s_next (by first | exact ⟨rfl, rfl⟩ | trivial) ?_) (fun g3 => s_next (by first | exact ⟨rfl, rfl⟩ | trivial) ?_)))))
                · rw [if_pos (by simpa using g3)] at ho
                  simp (config := { decide := true }) only [if_true, if_false]
                  exact ⟨by rw [ho], H⟩
                · rw [if_neg (by simpa using g3)] at ho
                  simp (config := { decide := true }) only [if_true, if_false]
                  exact ⟨by rw [ho], H⟩
              · have hee : dig a i = dig b i := by simpa using g2
                simp (config := { decide := true }) only [if_true, if_false]
                refine ⟨⟨i + 1, by rw [w_succ (by omega)], by omega, fun j hj => ?_, H⟩, by rw [w_succ (by omega)]; simp [intOf] <;> omega⟩
                by_cases hji : j = i
                · rw [hji]; exact hee
                · exact heq j (by omega)
            · simp only [decide_eq_false_iff_not] at g
              have hab : a = b := dig_all ha hb fun j hj => dig_eq.1 (heq j (by omega))
              simp (config := { decide := true }) only [if_true, if_false]
              exact ⟨by rw [cmpK_zero.2 hab], H⟩
        · refine h_new H fun r700 u H => ?_
          refine s_chk (by repeat (first | exact c_nil | refine hc_cons H (by repeat (first | exact pick_head | apply pick_tail | apply pick_app)) rfl ?_)) ?_
          refine s_call (bytes_c b hb) ?_
          rintro _ u ⟨rfl, fr⟩
          have H := H.fr0 fr
          refine ⟨_, rfl, s_asA (s_req rfl ?_)⟩
          iterate 12 refine s_asI ?_
          refine s_chk (by repeat (first | exact c_nil | refine hc_cons H (by repeat (first | exact pick_head | apply pick_tail | apply pick_app)) rfl ?_)) ?_
          refine h_st H (by repeat (first | exact pick_head | apply pick_tail | apply pick_app)) (by simp) rfl fun u H => ?_
          simp only [List.set_cons_succ, List.set_cons_zero] at H
          refine h_st H (by repeat (first | exact pick_head | apply pick_tail | apply pick_app)) (by simp) rfl fun u H => ?_
          simp only [List.set_cons_succ, List.set_cons_zero] at H
          refine h_st H (by repeat (first | exact pick_head | apply pick_tail | apply pick_app)) (by simp) rfl fun u H => ?_
          simp only [List.set_cons_succ, List.set_cons_zero] at H
          refine h_st H (by repeat (first | exact pick_head | apply pick_tail | apply pick_app)) (by simp) rfl fun u H => ?_
          simp only [List.set_cons_succ, List.set_cons_zero] at H
          refine h_st H (by repeat (first | exact pick_head | apply pick_tail | apply pick_app)) (by simp) rfl fun u H => ?_
          simp only [List.set_cons_succ, List.set_cons_zero] at H
          refine h_st H (by repeat (first | exact pick_head | apply pick_tail | apply pick_app)) (by simp) rfl fun u H => ?_
          simp only [List.set_cons_succ, List.set_cons_zero] at H
          refine h_st H (by repeat (first | exact pick_head | apply pick_tail | apply pick_app)) (by simp) rfl fun u H => ?_
          simp only [List.set_cons_succ, List.set_cons_zero] at H
          refine h_st H (by repeat (first | exact pick_head | apply pick_tail | apply pick_app)) (by simp) rfl fun u H => ?_
          simp only [List.set_cons_succ, List.set_cons_zero] at H
          refine h_st H (by repeat (first | exact pick_head | apply pick_tail | apply pick_app)) (by simp) rfl fun u H => ?_
          simp only [List.set_cons_succ, List.set_cons_zero] at H
          refine h_st H (by repeat (first | exact pick_head | apply pick_tail | apply pick_app)) (by simp) rfl fun u H => ?_
          simp only [List.set_cons_succ, List.set_cons_zero] at H
          refine h_st H (by repeat (first | exact pick_head | apply pick_tail | apply pick_app)) (by simp) rfl fun u H => ?_
          simp only [List.set_cons_succ, List.set_cons_zero] at H
          refine h_st H (by repeat (first | exact pick_head | apply pick_tail | apply pick_app)) (by simp) rfl fun u H => ?_
          simp only [List.set_cons_succ, List.set_cons_zero] at H
          refine s_chk (by repeat (first | exact c_nil | refine hc_cons H (by repeat (first | exact pick_head | apply pick_tail | apply pick_app)) rfl ?_)) ?_
          refine h_st H (by repeat (first | exact pick_head | apply pick_tail | apply pick_app)) (by simp) rfl fun u H => ?_
          simp only [List.set_cons_succ, List.set_cons_zero] at H
          refine h_st H (by repeat (first | exact pick_head | apply pick_tail | apply pick_app)) (by simp) rfl fun u H => ?_
          simp only [List.set_cons_succ, List.set_cons_zero] at H
          refine h_st H (by repeat (first | exact pick_head | apply pick_tail | apply pick_app)) (by simp) rfl fun u H => ?_
          simp only [List.set_cons_succ, List.set_cons_zero] at H
          refine h_st H (by repeat (first | exact pick_head | apply pick_tail | apply pick_app)) (by simp) rfl fun u H => ?_
          simp only [List.set_cons_succ, List.set_cons_zero] at H
          refine h_st H (by repeat (first | exact pick_head | apply pick_tail | apply pick_app)) (by simp) rfl fun u H => ?_
          simp only [List.set_cons_succ, List.set_cons_zero] at H
          refine h_st H (by repeat (first | exact pick_head | apply pick_tail | apply pick_app)) (by simp) rfl fun u H => ?_
          simp only [List.set_cons_succ, List.set_cons_zero] at H
          refine h_st H (by repeat (first | exact pick_head | apply pick_tail | apply pick_app)) (by simp) rfl fun u H => ?_
          simp only [List.set_cons_succ, List.set_cons_zero] at H
          refine h_st H (by repeat (first | exact pick_head | apply pick_tail | apply pick_app)) (by simp) rfl fun u H => ?_
          simp only [List.set_cons_succ, List.set_cons_zero] at H
          refine h_st H (by repeat (first | exact pick_head | apply pick_tail | apply pick_app)) (by simp) rfl fun u H => ?_
          simp only [List.set_cons_succ, List.set_cons_zero] at H
          refine h_st H (by repeat (first | exact pick_head | apply pick_tail | apply pick_app)) (by simp) rfl fun u H => ?_
          simp only [List.set_cons_succ, List.set_cons_zero] at H
          refine h_st H (by repeat (first | exact pick_head | apply pick_tail | apply pick_app)) (by simp) rfl fun u H => ?_
          simp only [List.set_cons_succ, List.set_cons_zero] at H
          refine h_st H (by repeat (first | exact pick_head | apply pick_tail | apply pick_app)) (by simp) rfl fun u H => ?_
          simp only [List.set_cons_succ, List.set_cons_zero] at H
          refine s_chk (by repeat (first | exact c_nil | refine hc_cons H (by repeat (first | exact pick_head | apply pick_tail | apply pick_app)) rfl ?_)) ?_
          refine s_blk (fun vs W' => vs = [.int .i64 (cmpK a b)] ∧ Has w W' (cl r591 27 (bytesK a) :: cl r700 27 (bytesK b) :: cl r18 27 (byteL (fun j => (f j : Int))) :: cl r17 23 (kr b) :: cl r16 23 (kr a) :: [])) ?_ ?_
          · rintro _ j W ⟨rfl, H⟩
            refine s_asI (h_drew H fun u H => s_call live_c ?_)
            rintro _ u ⟨rfl, fr⟩
            have H := H.fr0 fr
            refine ⟨_, rfl, s_asB (s_chk c_nil (s_true rfl ?_))⟩
            iterate 4 refine h_ldI H (by repeat (first | exact pick_head | apply pick_tail | apply pick_app)) rfl ?_
            refine s_call (cmpK_c a b) ?_
            rintro _ u ⟨rfl, fr⟩
            have H := H.fr0 fr
            refine ⟨_, rfl, s_asI (s_chk c_nil (s_true (by simp) ?_))⟩
            have H : Has w u (cl r591 27 [.int .u8 (dig a 0), .int .u8 (dig a 1), .int .u8 (dig a 2), .int .u8 (dig a 3), .int .u8 (dig a 4), .int .u8 (dig a 5), .int .u8 (dig a 6), .int .u8 (dig a 7), .int .u8 (dig a 8), .int .u8 (dig a 9), .int .u8 (dig a 10), .int .u8 (dig a 11)] :: cl r700 27 [.int .u8 (dig b 0), .int .u8 (dig b 1), .int .u8 (dig b 2), .int .u8 (dig b 3), .int .u8 (dig b 4), .int .u8 (dig b 5), .int .u8 (dig b 6), .int .u8 (dig b 7), .int .u8 (dig b 8), .int .u8 (dig b 9), .int .u8 (dig b 10), .int .u8 (dig b 11)] :: cl r18 27 [.int .u8 (f 0 : Int), .int .u8 (f 1 : Int), .int .u8 (f 2 : Int), .int .u8 (f 3 : Int), .int .u8 (f 4 : Int), .int .u8 (f 5 : Int), .int .u8 (f 6 : Int), .int .u8 (f 7 : Int), .int .u8 (f 8 : Int), .int .u8 (f 9 : Int), .int .u8 (f 10 : Int), .int .u8 (f 11 : Int)] :: cl r17 23 (kr b) :: cl r16 23 (kr a) :: []) := H
            iterate 14 refine h_ldI H (by repeat (first | exact pick_head | apply pick_tail | apply pick_app)) rfl ?_
            refine s_call (from_c (digN a.T a.R) (digN_lt a.T a.R)) ?_
            rintro _ u ⟨rfl, fr⟩
            have H := H.fr0 fr
            rw [from_bytes a ha]
            refine ⟨_, rfl, s_asA (s_req rfl (s_asI (s_asI (s_chk (hc_cons H (by repeat (first | exact pick_head | apply pick_tail | apply pick_app)) rfl (hc_cons H (by repeat (first | exact pick_head | apply pick_tail | apply pick_app)) rfl c_nil)) (s_true (by simp) ?_)))))⟩
            iterate 24 refine h_ldI H (by repeat (first | exact pick_head | apply pick_tail | apply pick_app)) rfl ?_
            refine s_call (from_c f hf) ?_
            rintro _ u ⟨rfl, fr⟩
            have H := H.fr0 fr
            refine ⟨_, rfl, s_asA (s_req rfl (s_asI (s_asI (s_chk (by repeat (first | exact c_nil | refine hc_cons H (by repeat (first | exact pick_head | apply pick_tail | apply pick_app)) rfl ?_)) (s_call (bytes_c (fromK f) (fromK_in hf)) ?_)))))⟩
            rintro _ u ⟨rfl, fr⟩
            have H := H.fr0 fr
            refine ⟨_, rfl, s_asA (s_req rfl ?_)⟩
            iterate 12 refine s_asI ?_
            refine s_chk (by repeat (first | exact c_nil | refine hc_cons H (by repeat (first | exact pick_head | apply pick_tail | apply pick_app)) rfl ?_)) (s_ret ⟨?_, H.base⟩)
            have hbf := bytes_from hf
            rw [hbf 0 (by omega), hbf 1 (by omega), hbf 2 (by omega), hbf 3 (by omega), hbf 4 (by omega), hbf 5 (by omega), hbf 6 (by omega), hbf 7 (by omega), hbf 8 (by omega), hbf 9 (by omega), hbf 10 (by omega), hbf 11 (by omega)]
            simp
          · refine s_loop (fun vs W => ∃ i : Nat, vs = [.int .i64 0, .int .i64 i] ∧ i ≤ 12 ∧ (∀ j, j < i → dig a j = dig b j) ∧ Has w W (cl r591 27 (bytesK a) :: cl r700 27 (bytesK b) :: cl r18 27 (byteL (fun j => (f j : Int))) :: cl r17 23 (kr b) :: cl r16 23 (kr a) :: [])) (fun vs _ => 12 - (intOf (vs.getD 1 undef)).toNat) ⟨0, rfl, by omega, by omega, H.sub (by repeat (first | exact sb_refl | exact sb_nil | refine sb_cons (by repeat (first | exact pick_head | apply pick_tail | apply pick_app)) ?_ | refine sb_app (by repeat (first | exact cut_head | exact cut_all | apply cut_tail | apply cut_app)) ?_ | exact sb_one (by repeat (first | exact cut_head | exact cut_all | apply cut_tail | apply cut_app))))⟩ ?_
            rintro _ j W ⟨i, rfl, hi, heq, H⟩
            refine s_asI (s_asI (s_ite (fun g => ?_) (fun g => s_next (by first | exact ⟨rfl, rfl⟩ | trivial) ?_)))
            · simp only [decide_eq_true_eq] at g
              have hlt : i < 12 := by omega
              refine h_drew H fun u H => s_req ⟨by omega, g⟩ (h_ldI H (by repeat (first | exact pick_head | apply pick_tail | apply pick_app)) (bytesK_get a hlt) (s_req ⟨by omega, g⟩ (h_ldI H (by repeat (first | exact pick_head | apply pick_tail | apply pick_app)) (bytesK_get b hlt) (s_ite (fun g2 => ?_) (fun g2 => s_next (by first | exact ⟨rfl, rfl⟩ | trivial) ?_)))))
              · have hne : dig a i ≠ dig b i := by simpa using g2
                have ho := ord_cmp ha hb hlt heq hne
                unfold ordOf at ho
                refine h_drew H fun u H => s_req ⟨by omega, g⟩ (h_ldI H (by repeat (first | exact pick_head | apply pick_tail | apply pick_app)) (bytesK_get a hlt) (s_req ⟨by omega, g⟩ (h_ldI H (by repeat (first | exact pick_head | apply pick_tail | apply pick_app)) (bytesK_get b hlt) (s_ite (fun g3 => s_next (by first | exact ⟨rfl, rfl⟩ | trivial) ?_) (fun g3 => s_next (by first | exact ⟨rfl, rfl⟩ | trivial) ?_)))))
                · rw [if_pos (by simpa using g3)] at ho
                  simp (config := { decide := true }) only [if_true, if_false]
                  exact ⟨by rw [ho], H⟩
                · rw [if_neg (by simpa using g3)] at ho
                  simp (config := { decide := true }) only [if_true, if_false]
                  exact ⟨by rw [ho], H⟩
              · have hee : dig a i = dig b i := by simpa using g2
                simp (config := { decide := true }) only [if_true, if_false]
                refine ⟨⟨i + 1, by rw [w_succ (by omega)], by omega, fun j hj => ?_, H⟩, by rw [w_succ (by omega)]; simp [intOf] <;> omega⟩
                by_cases hji : j = i
                · rw [hji]; exact hee
                · exact heq j (by omega)
            · simp only [decide_eq_false_iff_not] at g
              have hab : a = b := dig_all ha hb fun j hj => dig_eq.1 (heq j (by omega))
              simp (config := { decide := true }) only [if_true, if_false]
              exact ⟨by rw [cmpK_zero.2 hab], H⟩
      · refine h_new H fun r794 u H => ?_
        refine s_chk (by repeat (first | exact c_nil | refine hc_cons H (by repeat (first | exact pick_head | apply pick_tail | apply pick_app)) rfl ?_)) ?_
        refine s_call (bytes_c a ha) ?_
        rintro _ u ⟨rfl, fr⟩
        have H := H.fr0 fr
        refine ⟨_, rfl, s_asA (s_req rfl ?_)⟩
        iterate 12 refine s_asI ?_
        refine s_chk (by repeat (first | exact c_nil | refine hc_cons H (by repeat (first | exact pick_head | apply pick_tail | apply pick_app)) rfl ?_)) ?_
        refine s_call (bytes_c b hb) ?_
        rintro _ u ⟨rfl, fr⟩
        have H := H.fr0 fr
        refine ⟨_, rfl, s_asA (s_req rfl ?_)⟩
        iterate 12 refine s_asI ?_
        refine s_chk (by repeat (first | exact c_nil | refine hc_cons H (by repeat (first | exact pick_head | apply pick_tail | apply pick_app)) rfl ?_)) ?_
        refine h_st H (by repeat (first | exact pick_head | apply pick_tail | apply pick_app)) (by simp) rfl fun u H => ?_
        simp only [List.set_cons_succ, List.set_cons_zero] at H
        refine h_st H (by repeat (first | exact pick_head | apply pick_tail | apply pick_app)) (by simp) rfl fun u H => ?_
        simp only [List.set_cons_succ, List.set_cons_zero] at H
        refine h_st H (by repeat (first | exact pick_head | apply pick_tail | apply pick_app)) (by simp) rfl fun u H => ?_
        simp only [List.set_cons_succ, List.set_cons_zero] at H
        refine h_st H (by repeat (first | exact pick_head | apply pick_tail | apply pick_app)) (by simp) rfl fun u H => ?_
        simp only [List.set_cons_succ, List.set_cons_zero] at H
        refine h_st H (by repeat (first | exact pick_head | apply pick_tail | apply pick_app)) (by simp) rfl fun u H => ?_
        simp only [List.set_cons_succ, List.set_cons_zero] at H
        refine h_st H (by repeat (first | exact pick_head | apply pick_tail | apply pick_app)) (by simp) rfl fun u H => ?_
        simp only [List.set_cons_succ, List.set_cons_zero] at H
        refine h_st H (by repeat (first | exact pick_head | apply pick_tail | apply pick_app)) (by simp) rfl fun u H => ?_
        simp only [List.set_cons_succ, List.set_cons_zero] at H
        refine h_st H (by repeat (first | exact pick_head | apply pick_tail | apply pick_app)) (by simp) rfl fun u H => ?_
        simp only [List.set_cons_succ, List.set_cons_zero] at H
        refine h_st H (by repeat (first | exact pick_head | apply pick_tail | apply pick_app)) (by simp) rfl fun u H => ?_
        simp only [List.set_cons_succ, List.set_cons_zero] at H
        refine h_st H (by repeat (first | exact pick_head | apply pick_tail | apply pick_app)) (by simp) rfl fun u H => ?_
        simp only [List.set_cons_succ, List.set_cons_zero] at H
        refine h_st H (by repeat (first | exact pick_head | apply pick_tail | apply pick_app)) (by simp) rfl fun u H => ?_
        simp only [List.set_cons_succ, List.set_cons_zero] at H
        refine h_st H (by repeat (first | exact pick_head | apply pick_tail | apply pick_app)) (by simp) rfl fun u H => ?_
        simp only [List.set_cons_succ, List.set_cons_zero] at H
        refine s_chk (by repeat (first | exact c_nil | refine hc_cons H (by repeat (first | exact pick_head | apply pick_tail | apply pick_app)) rfl ?_)) ?_
        refine h_st H (by repeat (first | exact pick_head | apply pick_tail | apply pick_app)) (by simp) rfl fun u H => ?_
        simp only [List.set_cons_succ, List.set_cons_zero] at H
        refine h_st H (by repeat (first | exact pick_head | apply pick_tail | apply pick_app)) (by simp) rfl fun u H => ?_
        simp only [List.set_cons_succ, List.set_cons_zero] at H
        refine h_st H (by repeat (first | exact pick_head | apply pick_tail | apply pick_app)) (by simp) rfl fun u H => ?_
        simp only [List.set_cons_succ, List.set_cons_zero] at H
        refine h_st H (by repeat (first | exact pick_head | apply pick_tail | apply pick_app)) (by simp) rfl fun u H => ?_
        simp only [List.set_cons_succ, List.set_cons_zero] at H
        refine h_st H (by repeat (first | exact pick_head | apply pick_tail | apply pick_app)) (by simp) rfl fun u H => ?_
        simp only [List.set_cons_succ, List.set_cons_zero] at H
        refine h_st H (by repeat (first | exact pick_head | apply pick_tail | apply pick_app)) (by simp) rfl fun u H => ?_
        simp only [List.set_cons_succ, List.set_cons_zero] at H
        refine h_st H (by repeat (first | exact pick_head | apply pick_tail | apply pick_app)) (by simp) rfl fun u H => ?_
        simp only [List.set_cons_succ, List.set_cons_zero] at H
        refine h_st H (by repeat (first | exact pick_head | apply pick_tail | apply pick_app)) (by simp) rfl fun u H => ?_
        simp only [List.set_cons_succ, List.set_cons_zero] at H
        refine h_st H (by repeat (first | exact pick_head | apply pick_tail | apply pick_app)) (by simp) rfl fun u H => ?_
        simp only [List.set_cons_succ, List.set_cons_zero] at H
        refine h_st H (by repeat (first | exact pick_head | apply pick_tail | apply pick_app)) (by simp) rfl fun u H => ?_
        simp only [List.set_cons_succ, List.set_cons_zero] at H
        refine h_st H (by repeat (first | exact pick_head | apply pick_tail | apply pick_app)) (by simp) rfl fun u H => ?_
        simp only [List.set_cons_succ, List.set_cons_zero] at H
        refine h_st H (by repeat (first | exact pick_head | apply pick_tail | apply pick_app)) (by simp) rfl fun u H => ?_
        simp only [List.set_cons_succ, List.set_cons_zero] at H
        refine s_chk (by repeat (first | exact c_nil | refine hc_cons H (by repeat (first | exact pick_head | apply pick_tail | apply pick_app)) rfl ?_)) ?_
        refine s_blk (fun vs W' => vs = [.int .i64 (cmpK a b)] ∧ Has w W' (cl r591 27 (bytesK a) :: cl r794 27 (bytesK b) :: cl r18 27 (byteL (fun j => (f j : Int))) :: cl r17 23 (kr b) :: cl r16 23 (kr a) :: [])) ?_ ?_
        · rintro _ j W ⟨rfl, H⟩
          refine s_asI (h_drew H fun u H => s_call live_c ?_)
          rintro _ u ⟨rfl, fr⟩
          have H := H.fr0 fr
          refine ⟨_, rfl, s_asB (s_chk c_nil (s_true rfl ?_))⟩
          iterate 4 refine h_ldI H (by repeat (first | exact pick_head | apply pick_tail | apply pick_app)) rfl ?_
          refine s_call (cmpK_c a b) ?_
          rintro _ u ⟨rfl, fr⟩
          have H := H.fr0 fr
          refine ⟨_, rfl, s_asI (s_chk c_nil (s_true (by simp) ?_))⟩
          have H : Has w u (cl r591 27 [.int .u8 (dig a 0), .int .u8 (dig a 1), .int .u8 (dig a 2), .int .u8 (dig a 3), .int .u8 (dig a 4), .int .u8 (dig a 5), .int .u8 (dig a 6), .int .u8 (dig a 7), .int .u8 (dig a 8), .int .u8 (dig a 9), .int .u8 (dig a 10), .int .u8 (dig a 11)] :: cl r794 27 [.int .u8 (dig b 0), .int .u8 (dig b 1), .int .u8 (dig b 2), .int .u8 (dig b 3), .int .u8 (dig b 4), .int .u8 (dig b 5), .int .u8 (dig b 6), .int .u8 (dig b 7), .int .u8 (dig b 8), .int .u8 (dig b 9), .int .u8 (dig b 10), .int .u8 (dig b 11)] :: cl r18 27 [.int .u8 (f 0 : Int), .int .u8 (f 1 : Int), .int .u8 (f 2 : Int), .int .u8 (f 3 : Int), .int .u8 (f 4 : Int), .int .u8 (f 5 : Int), .int .u8 (f 6 : Int), .int .u8 (f 7 : Int), .int .u8 (f 8 : Int), .int .u8 (f 9 : Int), .int .u8 (f 10 : Int), .int .u8 (f 11 : Int)] :: cl r17 23 (kr b) :: cl r16 23 (kr a) :: []) := H
          iterate 14 refine h_ldI H (by repeat (first | exact pick_head | apply pick_tail | apply pick_app)) rfl ?_
          refine s_call (from_c (digN a.T a.R) (digN_lt a.T a.R)) ?_
          rintro _ u ⟨rfl, fr⟩
          have H := H.fr0 fr
          rw [from_bytes a ha]
          refine ⟨_, rfl, s_asA (s_req rfl (s_asI (s_asI (s_chk (hc_cons H (by repeat (first | exact pick_head | apply pick_tail | apply pick_app)) rfl (hc_cons H (by repeat (first | exact pick_head | apply pick_tail | apply pick_app)) rfl c_nil)) (s_true (by simp) ?_)))))⟩
          iterate 24 refine h_ldI H (by repeat (first | exact pick_head | apply pick_tail | apply pick_app)) rfl ?_
          refine s_call (from_c f hf) ?_
          rintro _ u ⟨rfl, fr⟩
          have H := H.fr0 fr
          refine ⟨_, rfl, s_asA (s_req rfl (s_asI (s_asI (s_chk (by repeat (first | exact c_nil | refine hc_cons H (by repeat (first | exact pick_head | apply pick_tail | apply pick_app)) rfl ?_)) (s_call (bytes_c (fromK f) (fromK_in hf)) ?_)))))⟩
          rintro _ u ⟨rfl, fr⟩
          have H := H.fr0 fr
          refine ⟨_, rfl, s_asA (s_req rfl ?_)⟩
          iterate 12 refine s_asI ?_
          refine s_chk (by repeat (first | exact c_nil | refine hc_cons H (by repeat (first | exact pick_head | apply pick_tail | apply pick_app)) rfl ?_)) (s_ret ⟨?_, H.base⟩)
          have hbf := bytes_from hf
          rw [hbf 0 (by omega), hbf 1 (by omega), hbf 2 (by omega), hbf 3 (by omega), hbf 4 (by omega), hbf 5 (by omega), hbf 6 (by omega), hbf 7 (by omega), hbf 8 (by omega), hbf 9 (by omega), hbf 10 (by omega), hbf 11 (by omega)]
          simp
        · refine s_loop (fun vs W => ∃ i : Nat, vs = [.int .i64 0, .int .i64 i] ∧ i ≤ 12 ∧ (∀ j, j < i → dig a j = dig b j) ∧ Has w W (cl r591 27 (bytesK a) :: cl r794 27 (bytesK b) :: cl r18 27 (byteL (fun j => (f j : Int))) :: cl r17 23 (kr b) :: cl r16 23 (kr a) :: [])) (fun vs _ => 12 - (intOf (vs.getD 1 undef)).toNat) ⟨0, rfl, by omega, by omega, H.sub (by repeat (first | exact sb_refl | exact sb_nil | refine sb_cons (by repeat (first | exact pick_head | apply pick_tail | apply pick_app)) ?_ | refine sb_app (by repeat (first | exact cut_head | exact cut_all | apply cut_tail | apply cut_app)) ?_ | exact sb_one (by repeat (first | exact cut_head | exact cut_all | apply cut_tail | apply cut_app))))⟩ ?_
          rintro _ j W ⟨i, rfl, hi, heq, H⟩
          refine s_asI (s_asI (s_ite (fun g => ?_) (fun g => s_next (by first | exact ⟨rfl, rfl⟩ | trivial) ?_)))
          · simp only [decide_eq_true_eq] at g
            have hlt : i < 12 := by omega
            refine h_drew H fun u H => s_req ⟨by omega, g⟩ (h_ldI H (by repeat (first | exact pick_head | apply pick_tail | apply pick_app)) (bytesK_get a hlt) (s_req ⟨by omega, g⟩ (h_ldI H (by repeat (first | exact pick_head | apply pick_tail | apply pick_app)) (bytesK_get b hlt) (s_ite (fun g2 => ?_) (fun g2 => s_next (by first | exact ⟨rfl, rfl⟩ | trivial) ?_)))))
            · have hne : dig a i ≠ dig b i := by simpa using g2
              have ho := ord_cmp ha hb hlt heq hne
              unfold ordOf at ho
              refine h_drew H fun u H => s_req ⟨by omega, g⟩ (h_ldI H (by repeat (first | exact pick_head | apply pick_tail | apply pick_app)) (bytesK_get a hlt) (s_req ⟨by omega, g⟩ (h_ldI H (by repeat (first | exact pick_head | apply pick_tail | apply pick_app)) (bytesK_get b hlt) (s_ite (fun g3 => s_next (by first | exact ⟨rfl, rfl⟩ | trivial) ?_) (fun g3 => s_next (by first | exact ⟨rfl, rfl⟩ | trivial) ?_)))))
              · rw [if_pos (by simpa using g3)] at ho
                simp (config := { decide := true }) only [if_true, if_false]
                exact ⟨by rw [ho], H⟩
              · rw [if_neg (by simpa using g3)] at ho
                simp (config := { decide := true }) only [if_true, if_false]
                exact ⟨by rw [ho], H⟩
            · have hee : dig a i = dig b i := by simpa using g2
              simp (config := { decide := true }) only [if_true, if_false]
              refine ⟨⟨i + 1, by rw [w_succ (by omega)], by omega, fun j hj => ?_, H⟩, by rw [w_succ (by omega)]; simp [intOf] <;> omega⟩
              by_cases hji : j = i
              · rw [hji]; exact hee
              · exact heq j (by omega)
          · simp only [decide_eq_false_iff_not] at g
            have hab : a = b := dig_all ha hb fun j hj => dig_eq.1 (heq j (by omega))
            simp (config := { decide := true }) only [if_true, if_false]
            exact ⟨by rw [cmpK_zero.2 hab], H⟩
    · refine h_new H fun r902 u H => ?_
      refine s_chk (by repeat (first | exact c_nil | refine hc_cons H (by repeat (first | exact pick_head | apply pick_tail | apply pick_app)) rfl ?_)) ?_
      refine s_both ?_ ?_
      · refine s_call (bytes_c a ha) ?_
        rintro _ u ⟨rfl, fr⟩
        have H := H.fr0 fr
        refine ⟨_, rfl, s_asA (s_req rfl ?_)⟩
        iterate 12 refine s_asI ?_
        refine s_chk (by repeat (first | exact c_nil | refine hc_cons H (by repeat (first | exact pick_head | apply pick_tail | apply pick_app)) rfl ?_)) ?_
        refine s_both ?_ ?_
        · refine s_call (bytes_c b hb) ?_
          rintro _ u ⟨rfl, fr⟩
          have H := H.fr0 fr
          refine ⟨_, rfl, s_asA (s_req rfl ?_)⟩
          iterate 12 refine s_asI ?_
          refine s_chk (by repeat (first | exact c_nil | refine hc_cons H (by repeat (first | exact pick_head | apply pick_tail | apply pick_app)) rfl ?_)) ?_
          refine h_new H fun r931 u H => ?_
          refine s_chk (by repeat (first | exact c_nil | refine hc_cons H (by repeat (first | exact pick_head | apply pick_tail | apply pick_app)) rfl ?_)) ?_
          refine h_st H (by repeat (first | exact pick_head | apply pick_tail | apply pick_app)) (by simp) rfl fun u H => ?_
          simp only [List.set_cons_succ, List.set_cons_zero] at H
          refine h_st H (by repeat (first | exact pick_head | apply pick_tail | apply pick_app)) (by simp) rfl fun u H => ?_
          simp only [List.set_cons_succ, List.set_cons_zero] at H
          refine h_st H (by repeat (first | exact pick_head | apply pick_tail | apply pick_app)) (by simp) rfl fun u H => ?_
          simp only [List.set_cons_succ, List.set_cons_zero] at H
          refine h_st H (by repeat (first | exact pick_head | apply pick_tail | apply pick_app)) (by simp) rfl fun u H => ?_
          simp only [List.set_cons_succ, List.set_cons_zero] at H
          refine h_st H (by repeat (first | exact pick_head | apply pick_tail | apply pick_app)) (by simp) rfl fun u H => ?_
          simp only [List.set_cons_succ, List.set_cons_zero] at H
          refine h_st H (by repeat (first | exact pick_head | apply pick_tail | apply pick_app)) (by simp) rfl fun u H => ?_
          simp only [List.set_cons_succ, List.set_cons_zero] at H
          refine h_st H (by repeat (first | exact pick_head | apply pick_tail | apply pick_app)) (by simp) rfl fun u H => ?_
          simp only [List.set_cons_succ, List.set_cons_zero] at H
          refine h_st H (by repeat (first | exact pick_head | apply pick_tail | apply pick_app)) (by simp) rfl fun u H => ?_
          simp only [List.set_cons_succ, List.set_cons_zero] at H
          refine h_st H (by repeat (first | exact pick_head | apply pick_tail | apply pick_app)) (by simp) rfl fun u H => ?_
          simp only [List.set_cons_succ, List.set_cons_zero] at H
          refine h_st H (by repeat (first | exact pick_head | apply pick_tail | apply pick_app)) (by simp) rfl fun u H => ?_
          simp only [List.set_cons_succ, List.set_cons_zero] at H
          refine h_st H (by repeat (first | exact pick_head | apply pick_tail | apply pick_app)) (by simp) rfl fun u H => ?_
          simp only [List.set_cons_succ, List.set_cons_zero] at H
          refine h_st H (by repeat (first | exact pick_head | apply pick_tail | apply pick_app)) (by simp) rfl fun u H => ?_
          simp only [List.set_cons_succ, List.set_cons_zero] at H
          refine s_chk (by repeat (first | exact c_nil | refine hc_cons H (by repeat (first | exact pick_head | apply pick_tail | apply pick_app)) rfl ?_)) ?_
          refine h_st H (by repeat (first | exact pick_head | apply pick_tail | apply pick_app)) (by simp) rfl fun u H => ?_
          simp only [List.set_cons_succ, List.set_cons_zero] at H
          refine h_st H (by repeat (first | exact pick_head | apply pick_tail | apply pick_app)) (by simp) rfl fun u H => ?_
          simp only [List.set_cons_succ, List.set_cons_zero] at H
          refine h_st H (by repeat (first | exact pick_head | apply pick_tail | apply pick_app)) (by simp) rfl fun u H => ?_
          simp only [List.set_cons_succ, List.set_cons_zero] at H
          refine h_st H (by repeat (first | exact pick_head | apply pick_tail | apply pick_app)) (by simp) rfl fun u H => ?_
          simp only [List.set_cons_succ, List.set_cons_zero] at H
          refine h_st H (by repeat (first | exact pick_head | apply pick_tail | apply pick_app)) (by simp) rfl fun u H => ?_
          simp only [List.set_cons_succ, List.set_cons_zero] at H
          refine h_st H (by repeat (first | exact pick_head | apply pick_tail | apply pick_app)) (by simp) rfl fun u H => ?_
          simp only [List.set_cons_succ, List.set_cons_zero] at H
          refine h_st H (by repeat (first | exact pick_head | apply pick_tail | apply pick_app)) (by simp) rfl fun u H => ?_
          simp only [List.set_cons_succ, List.set_cons_zero] at H
          refine h_st H (by repeat (first | exact pick_head | apply pick_tail | apply pick_app)) (by simp) rfl fun u H => ?_
          simp only [List.set_cons_succ, List.set_cons_zero] at H
          refine h_st H (by repeat (first | exact pick_head | apply pick_tail | apply pick_app)) (by simp) rfl fun u H => ?_
          simp only [List.set_cons_succ, List.set_cons_zero] at H
          refine h_st H (by repeat (first | exact pick_head | apply pick_tail | apply pick_app)) (by simp) rfl fun u H => ?_
          simp only [List.set_cons_succ, List.set_cons_zero] at H
          refine h_st H (by repeat (first | exact pick_head | apply pick_tail | apply pick_app)) (by simp) rfl fun u H => ?_
          simp only [List.set_cons_succ, List.set_cons_zero] at H
          refine h_st H (by repeat (first | exact pick_head | apply pick_tail | apply pick_app)) (by simp) rfl fun u H => ?_
          simp only [List.set_cons_succ, List.set_cons_zero] at H
          refine s_chk (by repeat (first | exact c_nil | refine hc_cons H (by repeat (first | exact pick_head | apply pick_tail | apply pick_app)) rfl ?_)) ?_
          refine s_blk (fun vs W' => vs = [.int .i64 (cmpK a b)] ∧ Has w W' (cl r931 27 (bytesK a) :: cl r902 27 (bytesK b) :: cl r18 27 (byteL (fun j => (f j : Int))) :: cl r17 23 (kr b) :: cl r16 23 (kr a) :: [])) ?_ ?_
          · rintro _ j W ⟨rfl, H⟩
            refine s_asI (h_drew H fun u H => s_call live_c ?_)
            rintro _ u ⟨rfl, fr⟩
            have H := H.fr0 fr
            refine ⟨_, rfl, s_asB (s_chk c_nil (s_true rfl ?_))⟩
            iterate 4 refine h_ldI H (by repeat (first | exact pick_head | apply pick_tail | apply pick_app)) rfl ?_
            refine s_call (cmpK_c a b) ?_
            rintro _ u ⟨rfl, fr⟩
            have H := H.fr0 fr
            refine ⟨_, rfl, s_asI (s_chk c_nil (s_true (by simp) ?_))⟩
            have H : Has w u (cl r931 27 [.int .u8 (dig a 0), .int .u8 (dig a 1), .int .u8 (dig a 2), .int .u8 (dig a 3), .int .u8 (dig a 4), .int .u8 (dig a 5), .int .u8 (dig a 6), .int .u8 (dig a 7), .int .u8 (dig a 8), .int .u8 (dig a 9), .int .u8 (dig a 10), .int .u8 (dig a 11)] :: cl r902 27 [.int .u8 (dig b 0), .int .u8 (dig b 1), .int .u8 (dig b 2), .int .u8 (dig b 3), .int .u8 (dig b 4), .int .u8 (dig b 5), .int .u8 (dig b 6), .int .u8 (dig b 7), .int .u8 (dig b 8), .int .u8 (dig b 9), .int .u8 (dig b 10), .int .u8 (dig b 11)] :: cl r18 27 [.int .u8 (f 0 : Int), .int .u8 (f 1 : Int), .int .u8 (f 2 : Int), .int .u8 (f 3 : Int), .int .u8 (f 4 : Int), .int .u8 (f 5 : Int), .int .u8 (f 6 : Int), .int .u8 (f 7 : Int), .int .u8 (f 8 : Int), .int .u8 (f 9 : Int), .int .u8 (f 10 : Int), .int .u8 (f 11 : Int)] :: cl r17 23 (kr b) :: cl r16 23 (kr a) :: []) := H
            iterate 14 refine h_ldI H (by repeat (first | exact pick_head | apply pick_tail | apply pick_app)) rfl ?_
            refine s_call (from_c (digN a.T a.R) (digN_lt a.T a.R)) ?_
            rintro _ u ⟨rfl, fr⟩
            have H := H.fr0 fr
            rw [from_bytes a ha]
            refine ⟨_, rfl, s_asA (s_req rfl (s_asI (s_asI (s_chk (hc_cons H (by repeat (first | exact pick_head | apply pick_tail | apply pick_app)) rfl (hc_cons H (by repeat (first | exact pick_head | apply pick_tail | apply pick_app)) rfl c_nil)) (s_true (by simp) ?_)))))⟩
            iterate 24 refine h_ldI H (by repeat (first | exact pick_head | apply pick_tail | apply pick_app)) rfl ?_
            refine s_call (from_c f hf) ?_
            rintro _ u ⟨rfl, fr⟩
            have H := H.fr0 fr
            refine ⟨_, rfl, s_asA (s_req rfl (s_asI (s_asI (s_chk (by repeat (first | exact c_nil | refine hc_cons H (by repeat (first | exact pick_head | apply pick_tail | apply pick_app)) rfl ?_)) (s_call (bytes_c (fromK f) (fromK_in hf)) ?_)))))⟩
            rintro _ u ⟨rfl, fr⟩
            have H := H.fr0 fr
            refine ⟨_, rfl, s_asA (s_req rfl ?_)⟩
            iterate 12 refine s_asI ?_
            refine s_chk (by repeat (first | exact c_nil | refine hc_cons H (by repeat (first | exact pick_head | apply pick_tail | apply pick_app)) rfl ?_)) (s_ret ⟨?_, H.base⟩)
            have hbf := bytes_from hf
            rw [hbf 0 (by omega), hbf 1 (by omega), hbf 2 (by omega), hbf 3 (by omega), hbf 4 (by omega), hbf 5 (by omega), hbf 6 (by omega), hbf 7 (by omega), hbf 8 (by omega), hbf 9 (by omega), hbf 10 (by omega), hbf 11 (by omega)]
            simp
          · refine s_loop (fun vs W => ∃ i : Nat, vs = [.int .i64 0, .int .i64 i] ∧ i ≤ 12 ∧ (∀ j, j < i → dig a j = dig b j) ∧ Has w W (cl r931 27 (bytesK a) :: cl r902 27 (bytesK b) :: cl r18 27 (byteL (fun j => (f j : Int))) :: cl r17 23 (kr b) :: cl r16 23 (kr a) :: [])) (fun vs _ => 12 - (intOf (vs.getD 1 undef)).toNat) ⟨0, rfl, by omega, by omega, H.sub (by repeat (first | exact sb_refl | exact sb_nil | refine sb_cons (by repeat (first | exact pick_head | apply pick_tail | apply pick_app)) ?_ | refine sb_app (by repeat (first | exact cut_head | exact cut_all | apply cut_tail | apply cut_app)) ?_ | exact sb_one (by repeat (first | exact cut_head | exact cut_all | apply cut_tail | apply cut_app))))⟩ ?_
            rintro _ j W ⟨i, rfl, hi, heq, H⟩
            refine s_asI (s_asI (s_ite (fun g => ?_) (fun g => s_next (by first | exact ⟨rfl, rfl⟩ | trivial) ?_)))
            · simp only [decide_eq_true_eq] at g
              have hlt : i < 12 := by omega
              refine h_drew H fun u H => s_req ⟨by omega, g⟩ (h_ldI H (by repeat (first | exact pick_head | apply pick_tail | apply pick_app)) (bytesK_get a hlt) (s_req ⟨by omega, g⟩ (h_ldI H (by repeat (first | exact pick_head | apply pick_tail | apply pick_app)) (bytesK_get b hlt) (s_ite (fun g2 => ?_) (fun g2 => s_next (by first | exact ⟨rfl, rfl⟩ | trivial) ?_)))))
              · have hne : dig a i ≠ dig b i := by simpa using g2
                have ho := ord_cmp ha hb hlt heq hne
                unfold ordOf at ho
                refine h_drew H fun u H => s_req ⟨by omega, g⟩ (h_ldI H (by repeat (first | exact pick_head | apply pick_tail | apply pick_app)) (bytesK_get a hlt) (s_req ⟨by omega, g⟩ (h_ldI H (by repeat (first | exact pick_head | apply pick_tail | apply pick_app)) (bytesK_get b hlt) (s_ite (fun g3 => s_next (by first | exact ⟨rfl, rfl⟩ | trivial) ?_) (fun g3 => s_next (by first | exact ⟨rfl, rfl⟩ | trivial) ?_)))))
                · rw [if_pos (by simpa using g3)] at ho
                  simp (config := { decide := true }) only [if_true, if_false]
                  exact ⟨by rw [ho], H⟩
                · rw [if_neg (by simpa using g3)] at ho
                  simp (config := { decide := true }) only [if_true, if_false]
                  exact ⟨by rw [ho], H⟩
              · have hee : dig a i = dig b i := by simpa using g2
                simp (config := { decide := true }) only [if_true, if_false]
                refine ⟨⟨i + 1, by rw [w_succ (by omega)], by omega, fun j hj => ?_, H⟩, by rw [w_succ (by omega)]; simp [intOf] <;> omega⟩
                by_cases hji : j = i
                · rw [hji]; exact hee
                · exact heq j (by omega)
            · simp only [decide_eq_false_iff_not] at g
              have hab : a = b := dig_all ha hb fun j hj => dig_eq.1 (heq j (by omega))
              simp (config := { decide := true }) only [if_true, if_false]
              exact ⟨by rw [cmpK_zero.2 hab], H⟩
        · refine h_new H fun r1011 u H => ?_
          refine s_chk (by repeat (first | exact c_nil | refine hc_cons H (by repeat (first | exact pick_head | apply pick_tail | apply pick_app)) rfl ?_)) ?_
          refine s_call (bytes_c b hb) ?_
          rintro _ u ⟨rfl, fr⟩
          have H := H.fr0 fr
          refine ⟨_, rfl, s_asA (s_req rfl ?_)⟩
          iterate 12 refine s_asI ?_
          refine s_chk (by repeat (first | exact c_nil | refine hc_cons H (by repeat (first | exact pick_head | apply pick_tail | apply pick_app)) rfl ?_)) ?_
          refine h_st H (by repeat (first | exact pick_head | apply pick_tail | apply pick_app)) (by simp) rfl fun u H => ?_
          simp only [List.set_cons_succ, List.set_cons_zero] at H
          refine h_st H (by repeat (first | exact pick_head | apply pick_tail | apply pick_app)) (by simp) rfl fun u H => ?_
          simp only [List.set_cons_succ, List.set_cons_zero] at H
          refine h_st H (by repeat (first | exact pick_head | apply pick_tail | apply pick_app)) (by simp) rfl fun u H => ?_
          simp only [List.set_cons_succ, List.set_cons_zero] at H
          refine h_st H (by repeat (first | exact pick_head | apply pick_tail | apply pick_app)) (by simp) rfl fun u H => ?_
          simp only [List.set_cons_succ, List.set_cons_zero] at H
          refine h_st H (by repeat (first | exact pick_head | apply pick_tail | apply pick_app)) (by simp) rfl fun u H => ?_
          simp only [List.set_cons_succ, List.set_cons_zero] at H
          refine h_st H (by repeat (first | exact pick_head | apply pick_tail | apply pick_app)) (by simp) rfl fun u H => ?_
          simp only [List.set_cons_succ, List.set_cons_zero] at H
          refine h_st H (by repeat (first | exact pick_head | apply pick_tail | apply pick_app)) (by simp) rfl fun u H => ?_
          simp only [List.set_cons_succ, List.set_cons_zero] at H
          refine h_st H (by repeat (first | exact pick_head | apply pick_tail | apply pick_app)) (by simp) rfl fun u H => ?_
          simp only [List.set_cons_succ, List.set_cons_zero] at H
          refine h_st H (by repeat (first | exact pick_head | apply pick_tail | apply pick_app)) (by simp) rfl fun u H => ?_
          simp only [List.set_cons_succ, List.set_cons_zero] at H
          refine h_st H (by repeat (first | exact pick_head | apply pick_tail | apply pick_app)) (by simp) rfl fun u H => ?_
          simp only [List.set_cons_succ, List.set_cons_zero] at H
          refine h_st H (by repeat (first | exact pick_head | apply pick_tail | apply pick_app)) (by simp) rfl fun u H => ?_
          simp only [List.set_cons_succ, List.set_cons_zero] at H
          refine h_st H (by repeat (first | exact pick_head | apply pick_tail | apply pick_app)) (by simp) rfl fun u H => ?_
          simp only [List.set_cons_succ, List.set_cons_zero] at H
          refine s_chk (by repeat (first | exact c_nil | refine hc_cons H (by repeat (first | exact pick_head | apply pick_tail | apply pick_app)) rfl ?_)) ?_
          refine h_st H (by repeat (first | exact pick_head | apply pick_tail | apply pick_app)) (by simp) rfl fun u H => ?_
          simp only [List.set_cons_succ, List.set_cons_zero] at H
          refine h_st H (by repeat (first | exact pick_head | apply pick_tail | apply pick_app)) (by simp) rfl fun u H => ?_
          simp only [List.set_cons_succ, List.set_cons_zero] at H
          refine h_st H (by repeat (first | exact pick_head | apply pick_tail | apply pick_app)) (by simp) rfl fun u H => ?_
          simp only [List.set_cons_succ, List.set_cons_zero] at H
          refine h_st H (by repeat (first | exact pick_head | apply pick_tail | apply pick_app)) (by simp) rfl fun u H => ?_
          simp only [List.set_cons_succ, List.set_cons_zero] at H
          refine h_st H (by repeat (first | exact pick_head | apply pick_tail | apply pick_app)) (by simp) rfl fun u H => ?_
          simp only [List.set_cons_succ, List.set_cons_zero] at H
          refine h_st H (by repeat (first | exact pick_head | apply pick_tail | apply pick_app)) (by simp) rfl fun u H => ?_
          simp only [List.set_cons_succ, List.set_cons_zero] at H
          refine h_st H (by repeat (first | exact pick_head | apply pick_tail | apply pick_app)) (by simp) rfl fun u H => ?_
          simp only [List.set_cons_succ, List.set_cons_zero] at H
          refine h_st H (by repeat (first | exact pick_head | apply pick_tail | apply pick_app)) (by simp) rfl fun u H => ?_
          simp only [List.set_cons_succ, List.set_cons_zero] at H
          refine h_st H (by repeat (first | exact pick_head | apply pick_tail | apply pick_app)) (by simp) rfl fun u H => ?_
          simp only [List.set_cons_succ, List.set_cons_zero] at H
          refine h_st H (by repeat (first | exact pick_head | apply pick_tail | apply pick_app)) (by simp) rfl fun u H => ?_
          simp only [List.set_cons_succ, List.set_cons_zero] at H
          refine h_st H (by repeat (first | exact pick_head | apply pick_tail | apply pick_app)) (by simp) rfl fun u H => ?_
          simp only [List.set_cons_succ, List.set_cons_zero] at H
          refine h_st H (by repeat (first | exact pick_head | apply pick_tail | apply pick_app)) (by simp) rfl fun u H => ?_
          simp only [List.set_cons_succ, List.set_cons_zero] at H
          refine s_chk (by repeat (first | exact c_nil | refine hc_cons H (by repeat (first | exact pick_head | apply pick_tail | apply pick_app)) rfl ?_)) ?_
          refine s_blk (fun vs W' => vs = [.int .i64 (cmpK a b)] ∧ Has w W' (cl r1011 27 (bytesK a) :: cl r902 27 (bytesK b) :: cl r18 27 (byteL (fun j => (f j : Int))) :: cl r17 23 (kr b) :: cl r16 23 (kr a) :: [])) ?_ ?_
          · rintro _ j W ⟨rfl, H⟩
            refine s_asI (h_drew H fun u H => s_call live_c ?_)
            rintro _ u ⟨rfl, fr⟩
            have H := H.fr0 fr
            refine ⟨_, rfl, s_asB (s_chk c_nil (s_true rfl ?_))⟩
            iterate 4 refine h_ldI H (by repeat (first | exact pick_head | apply pick_tail | apply pick_app)) rfl ?_
            refine s_call (cmpK_c a b) ?_
            rintro _ u ⟨rfl, fr⟩
            have H := H.fr0 fr
            refine ⟨_, rfl, s_asI (s_chk c_nil (s_true (by simp) ?_))⟩
            have H : Has w u (cl r1011 27 [.int .u8 (dig a 0), .int .u8 (dig a 1), .int .u8 (dig a 2), .int .u8 (dig a 3), .int .u8 (dig a 4), .int .u8 (dig a 5), .int .u8 (dig a 6), .int .u8 (dig a 7), .int .u8 (dig a 8), .int .u8 (dig a 9), .int .u8 (dig a 10), .int .u8 (dig a 11)] :: cl r902 27 [.int .u8 (dig b 0), .int .u8 (dig b 1), .int .u8 (dig b 2), .int .u8 (dig b 3), .int .u8 (dig b 4), .int .u8 (dig b 5), .int .u8 (dig b 6), .int .u8 (dig b 7), .int .u8 (dig b 8), .int .u8 (dig b 9), .int .u8 (dig b 10), .int .u8 (dig b 11)] :: cl r18 27 [.int .u8 (f 0 : Int), .int .u8 (f 1 : Int), .int .u8 (f 2 : Int), .int .u8 (f 3 : Int), .int .u8 (f 4 : Int), .int .u8 (f 5 : Int), .int .u8 (f 6 : Int), .int .u8 (f 7 : Int), .int .u8 (f 8 : Int), .int .u8 (f 9 : Int), .int .u8 (f 10 : Int), .int .u8 (f 11 : Int)] :: cl r17 23 (kr b) :: cl r16 23 (kr a) :: []) := H
            iterate 14 refine h_ldI H (by repeat (first | exact pick_head | apply pick_tail | apply pick_app)) rfl ?_
            refine s_call (from_c (digN a.T a.R) (digN_lt a.T a.R)) ?_
            rintro _ u ⟨rfl, fr⟩
            have H := H.fr0 fr
            rw [from_bytes a ha]
            refine ⟨_, rfl, s_asA (s_req rfl (s_asI (s_asI (s_chk (hc_cons H (by repeat (first | exact pick_head | apply pick_tail | apply pick_app)) rfl (hc_cons H (by repeat (first | exact pick_head | apply pick_tail | apply pick_app)) rfl c_nil)) (s_true (by simp) ?_)))))⟩
            iterate 24 refine h_ldI H (by repeat (first | exact pick_head | apply pick_tail | apply pick_app)) rfl ?_
            refine s_call (from_c f hf) ?_
            rintro _ u ⟨rfl, fr⟩
            have H := H.fr0 fr
            refine ⟨_, rfl, s_asA (s_req rfl (s_asI (s_asI (s_chk (by repeat (first | exact c_nil | refine hc_cons H (by repeat (first | exact pick_head | apply pick_tail | apply pick_app)) rfl ?_)) (s_call (bytes_c (fromK f) (fromK_in hf)) ?_)))))⟩
            rintro _ u ⟨rfl, fr⟩
            have H := H.fr0 fr
            refine ⟨_, rfl, s_asA (s_req rfl ?_)⟩
            iterate 12 refine s_asI ?_
            refine s_chk (by repeat (first | exact c_nil | refine hc_cons H (by repeat (first | exact pick_head | apply pick_tail | apply pick_app)) rfl ?_)) (s_ret ⟨?_, H.base⟩)
            have hbf := bytes_from hf
            rw [hbf 0 (by omega), hbf 1 (by omega), hbf 2 (by omega), hbf 3 (by omega), hbf 4 (by omega), hbf 5 (by omega), hbf 6 (by omega), hbf 7 (by omega), hbf 8 (by omega), hbf 9 (by omega), hbf 10 (by omega), hbf 11 (by omega)]
            simp
          · refine s_loop (fun vs W => ∃ i : Nat, vs = [.int .i64 0, .int .i64 i] ∧ i ≤ 12 ∧ (∀ j, j < i → dig a j = dig b j) ∧ Has w W (cl r1011 27 (bytesK a) :: cl r902 27 (bytesK b) :: cl r18 27 (byteL (fun j => (f j : Int))) :: cl r17 23 (kr b) :: cl r16 23 (kr a) :: [])) (fun vs _ => 12 - (intOf (vs.getD 1 undef)).toNat) ⟨0, rfl, by omega, by omega, H.sub (by repeat (first | exact sb_refl | exact sb_nil | refine sb_cons (by repeat (first | exact pick_head | apply pick_tail | apply pick_app)) ?_ | refine sb_app (by repeat (first | exact cut_head | exact cut_all | apply cut_tail | apply cut_app)) ?_ | exact sb_one (by repeat (first | exact cut_head | exact cut_all | apply cut_tail | apply cut_app))))⟩ ?_
            rintro _ j W ⟨i, rfl, hi, heq, H⟩
            refine s_asI (s_asI (s_ite (fun g => ?_) (fun g => s_next (by first | exact ⟨rfl, rfl⟩ | trivial) ?_)))
            · simp only [decide_eq_true_eq] at g
              have hlt : i < 12 := by omega
              refine h_drew H fun u H => s_req ⟨by omega, g⟩ (h_ldI H (by repeat (first | exact pick_head | apply pick_tail | apply pick_app)) (bytesK_get a hlt) (s_req ⟨by omega, g⟩ (h_ldI H (by repeat (first | exact pick_head | apply pick_tail | apply pick_app)) (bytesK_get b hlt) (s_ite (fun g2 => ?_) (fun g2 => s_next (by first | exact ⟨rfl, rfl⟩ | trivial) ?_)))))
              · have hne : dig a i ≠ dig b i := by simpa using g2
                have ho := ord_cmp ha hb hlt heq hne
                unfold ordOf at ho
                refine h_drew H fun u H => s_req ⟨by omega, g⟩ (h_ldI H (by repeat (first | exact pick_head | apply pick_tail | apply pick_app)) (bytesK_get a hlt) (s_req ⟨by omega, g⟩ (h_ldI H (by repeat (first | exact pick_head | apply pick_tail | apply pick_app)) (bytesK_get b hlt) (s_ite (fun g3 => s_next (by first | exact ⟨rfl, rfl⟩ | trivial) ?_) (fun g3 => s_next (by first | exact ⟨rfl, rfl⟩ | trivial) ?_)))))
                · rw [if_pos (by simpa using g3)] at ho
                  simp (config := { decide := true }) only [if_true, if_false]
                  exact ⟨by rw [ho], H⟩
                · rw [if_neg (by simpa using g3)] at ho
                  simp (config := { decide := true }) only [if_true, if_false]
                  exact ⟨by rw [ho], H⟩
              · have hee : dig a i = dig b i := by simpa using g2
                simp (config := { decide := true }) only [if_true, if_false]
                refine ⟨⟨i + 1, by rw [w_succ (by omega)], by omega, fun j hj => ?_, H⟩, by rw [w_succ (by omega)]; simp [intOf] <;> omega⟩
                by_cases hji : j = i
                · rw [hji]; exact hee
                · exact heq j (by omega)
            · simp only [decide_eq_false_iff_not] at g
              have hab : a = b := dig_all ha hb fun j hj => dig_eq.1 (heq j (by omega))
              simp (config := { decide := true }) only [if_true, if_false]
              exact ⟨by rw [cmpK_zero.2 hab], H⟩
      · refine h_new H fun r1105 u H => ?_
        refine s_chk (by repeat (first | exact c_nil | refine hc_cons H (by repeat (first | exact pick_head | apply pick_tail | apply pick_app)) rfl ?_)) ?_
        refine s_call (bytes_c a ha) ?_
        rintro _ u ⟨rfl, fr⟩
        have H := H.fr0 fr
        refine ⟨_, rfl, s_asA (s_req rfl ?_)⟩
        iterate 12 refine s_asI ?_
        refine s_chk (by repeat (first | exact c_nil | refine hc_cons H (by repeat (first | exact pick_head | apply pick_tail | apply pick_app)) rfl ?_)) ?_
        refine s_call (bytes_c b hb) ?_
        rintro _ u ⟨rfl, fr⟩
        have H := H.fr0 fr
        refine ⟨_, rfl, s_asA (s_req rfl ?_)⟩
        iterate 12 refine s_asI ?_
        refine s_chk (by repeat (first | exact c_nil | refine hc_cons H (by repeat (first | exact pick_head | apply pick_tail | apply pick_app)) rfl ?_)) ?_
        refine h_st H (by repeat (first | exact pick_head | apply pick_tail | apply pick_app)) (by simp) rfl fun u H => ?_
        simp only [List.set_cons_succ, List.set_cons_zero] at H
        refine h_st H (by repeat (first | exact pick_head | apply pick_tail | apply pick_app)) (by simp) rfl fun u H => ?_
        simp only [List.set_cons_succ, List.set_cons_zero] at H
        refine h_st H (by repeat (first | exact pick_head | apply pick_tail | apply pick_app)) (by simp) rfl fun u H => ?_
        simp only [List.set_cons_succ, List.set_cons_zero] at H
        refine h_st H (by repeat (first | exact pick_head | apply pick_tail | apply pick_app)) (by simp) rfl fun u H => ?_
        simp only [List.set_cons_succ, List.set_cons_zero] at H
        refine h_st H (by repeat (first | exact pick_head | apply pick_tail | apply pick_app)) (by simp) rfl fun u H => ?_
        simp only [List.set_cons_succ, List.set_cons_zero] at H
        refine h_st H (by repeat (first | exact pick_head | apply pick_tail | apply pick_app)) (by simp) rfl fun u H => ?_
        simp only [List.set_cons_succ, List.set_cons_zero] at H
        refine h_st H (by repeat (first | exact pick_head | apply pick_tail | apply pick_app)) (by simp) rfl fun u H => ?_
        simp only [List.set_cons_succ, List.set_cons_zero] at H
        refine h_st H (by repeat (first | exact pick_head | apply pick_tail | apply pick_app)) (by simp) rfl fun u H => ?_
        simp only [List.set_cons_succ, List.set_cons_zero] at H
        refine h_st H (by repeat (first | exact pick_head | apply pick_tail | apply pick_app)) (by simp) rfl fun u H => ?_
        simp only [List.set_cons_succ, List.set_cons_zero] at H
        refine h_st H (by repeat (first | exact pick_head | apply pick_tail | apply pick_app)) (by simp) rfl fun u H => ?_
        simp only [List.set_cons_succ, List.set_cons_zero] at H
        refine h_st H (by repeat (first | exact pick_head | apply pick_tail | apply pick_app)) (by simp) rfl fun u H => ?_
        simp only [List.set_cons_succ, List.set_cons_zero] at H
        refine h_st H (by repeat (first | exact pick_head | apply pick_tail | apply pick_app)) (by simp) rfl fun u H => ?_
        simp only [List.set_cons_succ, List.set_cons_zero] at H
        refine s_chk (by repeat (first | exact c_nil | refine hc_cons H (by repeat (first | exact pick_head | apply pick_tail | apply pick_app)) rfl ?_)) ?_
        refine h_st H (by repeat (first | exact pick_head | apply pick_tail | apply pick_app)) (by simp) rfl fun u H => ?_
        simp only [List.set_cons_succ, List.set_cons_zero] at H
        refine h_st H (by repeat (first | exact pick_head | apply pick_tail | apply pick_app)) (by simp) rfl fun u H => ?_
        simp only [List.set_cons_succ, List.set_cons_zero] at H
        refine h_st H (by repeat (first | exact pick_head | apply pick_tail | apply pick_app)) (by simp) rfl fun u H => ?_
        simp only [List.set_cons_succ, List.set_cons_zero] at H
        refine h_st H (by repeat (first | exact pick_head | apply pick_tail | apply pick_app)) (by simp) rfl fun u H => ?_
        simp only [List.set_cons_succ, List.set_cons_zero] at H
        refine h_st H (by repeat (first | exact pick_head | apply pick_tail | apply pick_app)) (by simp) rfl fun u H => ?_
        simp only [List.set_cons_succ, List.set_cons_zero] at H
        refine h_st H (by repeat (first | exact pick_head | apply pick_tail | apply pick_app)) (by simp) rfl fun u H => ?_
        simp only [List.set_cons_succ, List.set_cons_zero] at H
        refine h_st H (by repeat (first | exact pick_head | apply pick_tail | apply pick_app)) (by simp) rfl fun u H => ?_
        simp only [List.set_cons_succ, List.set_cons_zero] at H
        refine h_st H (by repeat (first | exact pick_head | apply pick_tail | apply pick_app)) (by simp) rfl fun u H => ?_
        simp only [List.set_cons_succ, List.set_cons_zero] at H
        refine h_st H (by repeat (first | exact pick_head | apply pick_tail | apply pick_app)) (by simp) rfl fun u H => ?_
        simp only [List.set_cons_succ, List.set_cons_zero] at H
        refine h_st H (by repeat (first | exact pick_head | apply pick_tail | apply pick_app)) (by simp) rfl fun u H => ?_
        simp only [List.set_cons_succ, List.set_cons_zero] at H
        refine h_st H (by repeat (first | exact pick_head | apply pick_tail | apply pick_app)) (by simp) rfl fun u H => ?_
        simp only [List.set_cons_succ, List.set_cons_zero] at H
        refine h_st H (by repeat (first | exact pick_head | apply pick_tail | apply pick_app)) (by simp) rfl fun u H => ?_
        simp only [List.set_cons_succ, List.set_cons_zero] at H
        refine s_chk (by repeat (first | exact c_nil | refine hc_cons H (by repeat (first | exact pick_head | apply pick_tail | apply pick_app)) rfl ?_)) ?_
        refine s_blk (fun vs W' => vs = [.int .i64 (cmpK a b)] ∧ Has w W' (cl r1105 27 (bytesK a) :: cl r902 27 (bytesK b) :: cl r18 27 (byteL (fun j => (f j : Int))) :: cl r17 23 (kr b) :: cl r16 23 (kr a) :: [])) ?_ ?_
        · rintro _ j W ⟨rfl, H⟩
          refine s_asI (h_drew H fun u H => s_call live_c ?_)
          rintro _ u ⟨rfl, fr⟩
          have H := H.fr0 fr
          refine ⟨_, rfl, s_asB (s_chk c_nil (s_true rfl ?_))⟩
          iterate 4 refine h_ldI H (by repeat (first | exact pick_head | apply pick_tail | apply pick_app)) rfl ?_
          refine s_call (cmpK_c a b) ?_
          rintro _ u ⟨rfl, fr⟩
          have H := H.fr0 fr
          refine ⟨_, rfl, s_asI (s_chk c_nil (s_true (by simp) ?_))⟩
          have H : Has w u (cl r1105 27 [.int .u8 (dig a 0), .int .u8 (dig a 1), .int .u8 (dig a 2), .int .u8 (dig a 3), .int .u8 (dig a 4), .int .u8 (dig a 5), .int .u8 (dig a 6), .int .u8 (dig a 7), .int .u8 (dig a 8), .int .u8 (dig a 9), .int .u8 (dig a 10), .int .u8 (dig a 11)] :: cl r902 27 [.int .u8 (dig b 0), .int .u8 (dig b 1), .int .u8 (dig b 2), .int .u8 (dig b 3), .int .u8 (dig b 4), .int .u8 (dig b 5), .int .u8 (dig b 6), .int .u8 (dig b 7), .int .u8 (dig b 8), .int .u8 (dig b 9), .int .u8 (dig b 10), .int .u8 (dig b 11)] :: cl r18 27 [.int .u8 (f 0 : Int), .int .u8 (f 1 : Int), .int .u8 (f 2 : Int), .int .u8 (f 3 : Int), .int .u8 (f 4 : Int), .int .u8 (f 5 : Int), .int .u8 (f 6 : Int), .int .u8 (f 7 : Int), .int .u8 (f 8 : Int), .int .u8 (f 9 : Int), .int .u8 (f 10 : Int), .int .u8 (f 11 : Int)] :: cl r17 23 (kr b) :: cl r16 23 (kr a) :: []) := H
          iterate 14 refine h_ldI H (by repeat (first | exact pick_head | apply pick_tail | apply pick_app)) rfl ?_
          refine s_call (from_c (digN a.T a.R) (digN_lt a.T a.R)) ?_
          rintro _ u ⟨rfl, fr⟩
          have H := H.fr0 fr
          rw [from_bytes a ha]
          refine ⟨_, rfl, s_asA (s_req rfl (s_asI (s_asI (s_chk (hc_cons H (by repeat (first | exact pick_head | apply pick_tail | apply pick_app)) rfl (hc_cons H (by repeat (first | exact pick_head | apply pick_tail | apply pick_app)) rfl c_nil)) (s_true (by simp) ?_)))))⟩
          iterate 24 refine h_ldI H (by repeat (first | exact pick_head | apply pick_tail | apply pick_app)) rfl ?_
          refine s_call (from_c f hf) ?_
          rintro _ u ⟨rfl, fr⟩
          have H := H.fr0 fr
          refine ⟨_, rfl, s_asA (s_req rfl (s_asI (s_asI (s_chk (by repeat (first | exact c_nil | refine hc_cons H (by repeat (first | exact pick_head | apply pick_tail | apply pick_app)) rfl ?_)) (s_call (bytes_c (fromK f) (fromK_in hf)) ?_)))))⟩
          rintro _ u ⟨rfl, fr⟩
          have H := H.fr0 fr
          refine ⟨_, rfl, s_asA (s_req rfl ?_)⟩
          iterate 12 refine s_asI ?_
          refine s_chk (by repeat (first | exact c_nil | refine hc_cons H (by repeat (first | exact pick_head | apply pick_tail | apply pick_app)) rfl ?_)) (s_ret ⟨?_, H.base⟩)
          have hbf := bytes_from hf
          rw [hbf 0 (by omega), hbf 1 (by omega), hbf 2 (by omega), hbf 3 (by omega), hbf 4 (by omega), hbf 5 (by omega), hbf 6 (by omega), hbf 7 (by omega), hbf 8 (by omega), hbf 9 (by omega), hbf 10 (by omega), hbf 11 (by omega)]
          simp
        · refine s_loop (fun vs W => ∃ i : Nat, vs = [.int .i64 0, .int .i64 i] ∧ i ≤ 12 ∧ (∀ j, j < i → dig a j = dig b j) ∧ Has w W (cl r1105 27 (bytesK a) :: cl r902 27 (bytesK b) :: cl r18 27 (byteL (fun j => (f j : Int))) :: cl r17 23 (kr b) :: cl r16 23 (kr a) :: [])) (fun vs _ => 12 - (intOf (vs.getD 1 undef)).toNat) ⟨0, rfl, by omega, by omega, H.sub (by repeat (first | exact sb_refl | exact sb_nil | refine sb_cons (by repeat (first | exact pick_head | apply pick_tail | apply pick_app)) ?_ | refine sb_app (by repeat (first | exact cut_head | exact cut_all | apply cut_tail | apply cut_app)) ?_ | exact sb_one (by repeat (first | exact cut_head | exact cut_all | apply cut_tail | apply cut_app))))⟩ ?_
          rintro _ j W ⟨i, rfl, hi, heq, H⟩
          refine s_asI (s_asI (s_ite (fun g => ?_) (fun g => s_next (by first | exact ⟨rfl, rfl⟩ | trivial) ?_)))
          · simp only [decide_eq_true_eq] at g
            have hlt : i < 12 := by omega
            refine h_drew H fun u H => s_req ⟨by omega, g⟩ (h_ldI H (by repeat (first | exact pick_head | apply pick_tail | apply pick_app)) (bytesK_get a hlt) (s_req ⟨by omega, g⟩ (h_ldI H (by repeat (first | exact pick_head | apply pick_tail | apply pick_app)) (bytesK_get b hlt) (s_ite (fun g2 => ?_) (fun g2 => s_next (by first | exact ⟨rfl, rfl⟩ | trivial) ?_)))))
            · have hne : dig a i ≠ dig b i := by simpa using g2
              have ho := ord_cmp ha hb hlt heq hne
              unfold ordOf at ho
              refine h_drew H fun u H => s_req ⟨by omega, g⟩ (h_ldI H (by repeat (first | exact pick_head | apply pick_tail | apply pick_app)) (bytesK_get a hlt) (s_req ⟨by omega, g⟩ (h_ldI H (by repeat (first | exact pick_head | apply pick_tail | apply pick_app)) (bytesK_get b hlt) (s_ite (fun g3 => s_next (by first | exact ⟨rfl, rfl⟩ | trivial) ?_) (fun g3 => s_next (by first | exact ⟨rfl, rfl⟩ | trivial) ?_)))))
              · rw [if_pos (by simpa using g3)] at ho
                simp (config := { decide := true }) only [if_true, if_false]
                exact ⟨by rw [ho], H⟩
              · rw [if_neg (by simpa using g3)] at ho
                simp (config := { decide := true }) only [if_true, if_false]
                exact ⟨by rw [ho], H⟩
            · have hee : dig a i = dig b i := by simpa using g2
              simp (config := { decide := true }) only [if_true, if_false]
              refine ⟨⟨i + 1, by rw [w_succ (by omega)], by omega, fun j hj => ?_, H⟩, by rw [w_succ (by omega)]; simp [intOf] <;> omega⟩
              by_cases hji : j = i
              · rw [hji]; exact hee
              · exact heq j (by omega)
          · simp only [decide_eq_false_iff_not] at g
            have hab : a = b := dig_all ha hb fun j hj => dig_eq.1 (heq j (by omega))
            simp (config := { decide := true }) only [if_true, if_false]
            exact ⟨by rw [cmpK_zero.2 hab], H⟩
end Go.Proofs.Yteimilnigiagjaa
