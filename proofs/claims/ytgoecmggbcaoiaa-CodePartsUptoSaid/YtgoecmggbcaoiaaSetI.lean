/- Numbers rising, each once: the reference's insertion, and slices.Compact. -/
import Derived.Test.YtgoecmggbcaoiaaIntsP
import Derived.Test.YtgoecmggbcaoiaaTreesD
import Derived.Test.YtgoecmggbcaoiaaWalkM
set_option linter.unusedVariables false
set_option linter.unusedSimpArgs false
set_option maxRecDepth 100000
set_option maxHeartbeats 4000000
namespace Go.Proofs.Ytgoecmggbcaoiaa
open Go hiding Expr
open Go.RowKit Tr

theorem ints_part (l : List Int) (i j : Nat) : (((l.map ir).drop i).take j).flatten = ints ((l.drop i).take j) := by
  unfold ints
  rw [← List.map_drop, ← List.map_take]
theorem none_own' {e : TypeId} {sz n cap : Nat} {rows : List (List Value)} {c : Hp} (ho : OwnC e sz (.slice none n cap) n rows.flatten c) (hr : ∀ r ∈ rows, r.length = sz) (hpos : 0 < sz) : rows = [] := by
  rcases ho.2 with ⟨hv, hn, rfl⟩ | ⟨g, cap', sp, hv, _⟩
  · have hl := ho.len
    rw [flat_len hr, hn] at hl
    exact List.eq_nil_of_length_eq_zero (by
      rcases Nat.eq_zero_or_pos rows.length with h | h
      · exact h
      · have := Nat.mul_pos h hpos
        omega)
  · cases hv

section
variable {w w' w0 : World} {m m' c : Hp} {o : Option Addr} {cap n g : Nat} {l : List Int} {sp : List Value}

theorem rising_c (H : Has w0 w m) (hv : ∀ u, Has w0 u m → ValsAt u o l) (hn : n = l.length) (hl : l.length ≤ 1048576) : Calls Try.prog 58 #[.slice o n cap] w fun e w' =>
    ∃ v c out, e = .returned v ∧ IsRis l out ∧ OwnC 3 1 v out.length (ints out) c ∧ Has w0 w' (c ++ m) := by
  subst hn
  apply c58
  refine s_loop (fun vs W => ∃ (i : Nat) (v : Value) (c : Hp) (out : List Int), vs = [v, .int .i64 i] ∧ i ≤ l.length ∧ IsRis (l.take i) out ∧ OwnC 3 1 v out.length (ints out) c ∧ Has w0 W (c ++ m))
    (fun vs _ => l.length - (intOf (vs.getD 1 undef)).toNat) ⟨0, _, [], [], rfl, by omega, by rw [List.take_zero]; exact IsRis.nil, OwnC.nil, H⟩ ?_
  clear H
  rintro _ j W ⟨i, v, c, out, rfl, hi, hR, ho, H⟩
  obtain ⟨ov, cv, rfl⟩ := ho.slice
  have hol : out.length ≤ i := by have := hR.len; rw [List.length_take] at this; omega
  have hcap := own_cap ho
  refine s_asS (s_asI (s_ite (fun g1 => ?_) (fun g1 => ?_)))
  · simp only [decide_eq_true_eq] at g1
    have hlt : i < l.length := by omega
    obtain ⟨x, hx⟩ : ∃ x, l[i]? = some x := ⟨_, List.getElem?_eq_getElem hlt⟩
    have htake : l.take (i + 1) = l.take i ++ [x] := take_succ' hx
    refine s_blk (fun vs W => ∃ k : Nat, vs = [.int .i64 k] ∧ k ≤ out.length ∧ (∀ y ∈ out.take k, y < x) ∧ (∀ y, out[k]? = some y → x ≤ y) ∧ Has w0 W (c ++ m)) ?_ ?_
    · rintro _ j1 W ⟨k, rfl, hkle, hlow, hge, H⟩
      refine s_asI (s_blk (fun vs W => out[k]? ≠ some x ∧ Has w0 W (c ++ m)) ?_ ?_)
      · rintro _ j2 W ⟨hne, H⟩
        have hins : IsRis (l.take (i + 1)) (out.take k ++ [x] ++ out.drop k) := by rw [htake]; exact hR.ins hkle hlow hne hge
        refine h_drew H fun u H => s_req ⟨by omega, by omega⟩ (s_req ⟨by omega, by omega⟩ ?_)
        obtain ⟨g2, off, rfl, p1⟩ := (hv u (H.sub (by repeat (first | exact sb_refl | exact sb_nil | refine sb_cons (by repeat (first | exact pick_head | apply pick_tail | apply pick_app)) ?_ | refine sb_app (by repeat (first | exact cut_head | exact cut_all | apply cut_tail | apply cut_app)) ?_ | exact sb_one (by repeat (first | exact cut_head | exact cut_all | apply cut_tail | apply cut_app)))))).get hx
        refine s_sm (s_loadI p1 (s_req ⟨by omega, by omega⟩ (s_both ?_ ?_)))
        · skip
          refine h_appRows elemN (by decide) H cut_nil OwnC.nil (ir1 out) (ir_one out) (valsAt_own ho H (by repeat (first | exact cut_head | exact cut_all | apply cut_tail | apply cut_app))) (fun e => by subst e; exact none_own' ho (ir1 out) (by decide)) (i := 0) (j := k) (by rw [List.length_map]; omega) (by rw [List.length_map]; exact hcap) (by omega) (by omega) ?_
          intro v1 c1 u ho1 H
          obtain ⟨o1, cap1, rfl⟩ := ho1.slice
          refine s_asS ?_
          obtain ⟨g3, off3, he3, p1⟩ := (hv u (H.sub (by repeat (first | exact sb_refl | exact sb_nil | refine sb_cons (by repeat (first | exact pick_head | apply pick_tail | apply pick_app)) ?_ | refine sb_app (by repeat (first | exact cut_head | exact cut_all | apply cut_tail | apply cut_app)) ?_ | exact sb_one (by repeat (first | exact cut_head | exact cut_all | apply cut_tail | apply cut_app)))))).get hx
          obtain ⟨rfl, rfl⟩ : g2 = g3 ∧ off = off3 := by simpa using he3
          refine s_chk ⟨p1, trivial⟩ ?_
          (refine h_new H fun n22 u H => ?_)
          refine s_chk c_nil ?_
          refine h_app1 elemN H (by repeat (first | exact cut_head | exact cut_all | apply cut_tail | apply cut_app)) ho1 (by repeat (first | exact pick_head | apply pick_tail | apply pick_app)) rfl (by intro u hu; simp at hu; subst hu; rfl) (by omega) (by omega) ?_
          intro v2 c2 u ho2 H
          obtain ⟨o2, cap2, rfl⟩ := ho2.slice
          refine s_asS (s_chk c_nil ?_)
          refine h_appRows elemN (by decide) H (by repeat (first | exact cut_head | exact cut_all | apply cut_tail | apply cut_app)) ho2 (ir1 out) (ir_one out) (valsAt_own ho H (by repeat (first | exact cut_head | exact cut_all | apply cut_tail | apply cut_app))) (fun e => by subst e; exact none_own' ho (ir1 out) (by decide)) (i := k) (j := out.length - k) (by rw [List.length_map]; omega) (by rw [List.length_map]; exact hcap) (by omega) (by omega) ?_
          intro v3 c3 u ho3 H
          obtain ⟨o3, cap3, rfl⟩ := ho3.slice
          refine s_asS (s_chk c_nil (s_next (by first | exact ⟨rfl, rfl⟩ | trivial) ?_))
          simp (config := { decide := true }) only [if_true, if_false]
          rw [w_succ (by omega)]
          refine ⟨⟨i + 1, _, c3, _, rfl, by omega, hins, ?_, H.sub (by repeat (first | exact sb_refl | exact sb_nil | refine sb_cons (by repeat (first | exact pick_head | apply pick_tail | apply pick_app)) ?_ | refine sb_app (by repeat (first | exact cut_head | exact cut_all | apply cut_tail | apply cut_app)) ?_ | exact sb_one (by repeat (first | exact cut_head | exact cut_all | apply cut_tail | apply cut_app))))⟩, by simp [intOf] <;> omega⟩
          rw [ints_part, ints_part, List.drop_zero, List.nil_append, List.take_of_length_le (i := out.length - k) (by rw [List.length_drop]; omega)] at ho3
          have hlen : (out.take k ++ [x] ++ out.drop k).length = 0 + k + 1 + (out.length - k) := by simp; omega
          have henc : ints (out.take k ++ [x] ++ out.drop k) = ints (out.take k) ++ [.int .i64 x] ++ ints (out.drop k) := by
            rw [ints_append, ints_append]; rfl
          rw [hlen, henc]
          exact ho3
        · (refine h_new H fun n31 u H => ?_)
          refine s_chk c_nil ?_
          refine h_appRows elemN (by decide) H cut_nil OwnC.nil (ir1 out) (ir_one out) (valsAt_own ho H (by repeat (first | exact cut_head | exact cut_all | apply cut_tail | apply cut_app))) (fun e => by subst e; exact none_own' ho (ir1 out) (by decide)) (i := 0) (j := k) (by rw [List.length_map]; omega) (by rw [List.length_map]; exact hcap) (by omega) (by omega) ?_
          intro v1 c1 u ho1 H
          obtain ⟨o1, cap1, rfl⟩ := ho1.slice
          refine s_asS ?_
          refine s_chk c_nil ?_
          refine h_app1 elemN H (by repeat (first | exact cut_head | exact cut_all | apply cut_tail | apply cut_app)) ho1 (by repeat (first | exact pick_head | apply pick_tail | apply pick_app)) rfl (by intro u hu; simp at hu; subst hu; rfl) (by omega) (by omega) ?_
          intro v2 c2 u ho2 H
          obtain ⟨o2, cap2, rfl⟩ := ho2.slice
          refine s_asS (s_chk c_nil ?_)
          refine h_appRows elemN (by decide) H (by repeat (first | exact cut_head | exact cut_all | apply cut_tail | apply cut_app)) ho2 (ir1 out) (ir_one out) (valsAt_own ho H (by repeat (first | exact cut_head | exact cut_all | apply cut_tail | apply cut_app))) (fun e => by subst e; exact none_own' ho (ir1 out) (by decide)) (i := k) (j := out.length - k) (by rw [List.length_map]; omega) (by rw [List.length_map]; exact hcap) (by omega) (by omega) ?_
          intro v3 c3 u ho3 H
          obtain ⟨o3, cap3, rfl⟩ := ho3.slice
          refine s_asS (s_chk c_nil (s_next (by first | exact ⟨rfl, rfl⟩ | trivial) ?_))
          simp (config := { decide := true }) only [if_true, if_false]
          rw [w_succ (by omega)]
          refine ⟨⟨i + 1, _, c3, _, rfl, by omega, hins, ?_, H.sub (by repeat (first | exact sb_refl | exact sb_nil | refine sb_cons (by repeat (first | exact pick_head | apply pick_tail | apply pick_app)) ?_ | refine sb_app (by repeat (first | exact cut_head | exact cut_all | apply cut_tail | apply cut_app)) ?_ | exact sb_one (by repeat (first | exact cut_head | exact cut_all | apply cut_tail | apply cut_app))))⟩, by simp [intOf] <;> omega⟩
          rw [ints_part, ints_part, List.drop_zero, List.nil_append, List.take_of_length_le (i := out.length - k) (by rw [List.length_drop]; omega)] at ho3
          have hlen : (out.take k ++ [x] ++ out.drop k).length = 0 + k + 1 + (out.length - k) := by simp; omega
          have henc : ints (out.take k ++ [x] ++ out.drop k) = ints (out.take k) ++ [.int .i64 x] ++ ints (out.drop k) := by
            rw [ints_append, ints_append]; rfl
          rw [hlen, henc]
          exact ho3
      · refine h_drew H fun u H => s_ite (fun g2 => ?_) (fun g2 => s_next (by first | exact ⟨rfl, rfl⟩ | trivial) ?_)
        · simp only [decide_eq_true_eq] at g2
          obtain ⟨y, hy⟩ : ∃ y, out[k]? = some y := ⟨_, List.getElem?_eq_getElem (by omega)⟩
          obtain ⟨g3, off3, rfl, q1⟩ := (valsAt_own ho H (by repeat (first | exact cut_head | exact cut_all | apply cut_tail | apply cut_app))).get hy
          obtain ⟨g2, off, rfl, p1⟩ := (hv u (H.sub (by repeat (first | exact sb_refl | exact sb_nil | refine sb_cons (by repeat (first | exact pick_head | apply pick_tail | apply pick_app)) ?_ | refine sb_app (by repeat (first | exact cut_head | exact cut_all | apply cut_tail | apply cut_app)) ?_ | exact sb_one (by repeat (first | exact cut_head | exact cut_all | apply cut_tail | apply cut_app)))))).get hx
          refine s_req ⟨by omega, by omega⟩ (s_sm (s_loadI q1 (s_req ⟨by omega, by omega⟩ (s_sm (s_loadI p1 ?_)))))
          refine s_ite (fun g4 => s_next (by first | exact ⟨rfl, rfl⟩ | trivial) ?_) (fun g4 => s_next (by first | exact ⟨rfl, rfl⟩ | trivial) ?_)
          · have heq : y = x := by simpa using g4
            simp (config := { decide := true }) only [if_true, if_false]
            rw [w_succ (by omega)]
            refine ⟨⟨i + 1, _, c, out, rfl, by omega, ?_, ho, H⟩, by simp [intOf] <;> omega⟩
            rw [htake]
            exact hR.same (by rw [← heq]; exact List.mem_of_getElem? hy)
          · have hne : y ≠ x := by simpa using g4
            simp (config := { decide := true }) only [if_true, if_false]
            exact ⟨by rw [hy]; simpa using hne, H⟩
        · simp only [decide_eq_false_iff_not] at g2
          simp (config := { decide := true }) only [if_true, if_false]
          exact ⟨by rw [List.getElem?_eq_none (by omega)]; simp, H⟩
    · refine s_loop (fun vs W => ∃ k : Nat, vs = [.int .i64 k] ∧ k ≤ out.length ∧ (∀ y ∈ out.take k, y < x) ∧ Has w0 W (c ++ m)) (fun vs _ => out.length - (intOf (vs.getD 0 undef)).toNat) ⟨0, rfl, by omega, by simp, H⟩ ?_
      clear H
      rintro _ j3 W ⟨k, rfl, hk, hlow, H⟩
      refine s_asI (h_drew H fun u H => s_ite (fun g2 => ?_) (fun g2 => s_next (by first | exact ⟨rfl, rfl⟩ | trivial) ?_))
      · simp only [decide_eq_true_eq] at g2
        obtain ⟨y, hy⟩ : ∃ y, out[k]? = some y := ⟨_, List.getElem?_eq_getElem (by omega)⟩
        obtain ⟨g3, off3, rfl, q1⟩ := (valsAt_own ho H (by repeat (first | exact cut_head | exact cut_all | apply cut_tail | apply cut_app))).get hy
        obtain ⟨g2, off, rfl, p1⟩ := (hv u (H.sub (by repeat (first | exact sb_refl | exact sb_nil | refine sb_cons (by repeat (first | exact pick_head | apply pick_tail | apply pick_app)) ?_ | refine sb_app (by repeat (first | exact cut_head | exact cut_all | apply cut_tail | apply cut_app)) ?_ | exact sb_one (by repeat (first | exact cut_head | exact cut_all | apply cut_tail | apply cut_app)))))).get hx
        refine s_req ⟨by omega, by omega⟩ (s_sm (s_loadI q1 (s_req ⟨by omega, by omega⟩ (s_sm (s_loadI p1 (s_ite (fun g4 => s_next (by first | exact ⟨rfl, rfl⟩ | trivial) ?_) (fun g4 => s_next (by first | exact ⟨rfl, rfl⟩ | trivial) ?_)))))))
        · simp only [decide_eq_true_eq] at g4
          simp (config := { decide := true }) only [if_true, if_false]
          rw [w_succ (by omega)]
          refine ⟨⟨k + 1, rfl, by omega, ?_, H⟩, by simp [intOf] <;> omega⟩
          rw [take_succ' hy]
          intro z hz
          rcases List.mem_append.1 hz with hz | hz
          · exact hlow z hz
          · rw [List.mem_singleton] at hz; subst hz; exact g4
        · simp only [decide_eq_false_iff_not] at g4
          simp (config := { decide := true }) only [if_true, if_false]
          refine ⟨k, rfl, hk, hlow, fun z hz => ?_, H⟩
          rw [hy] at hz
          cases hz
          omega
      · simp only [decide_eq_false_iff_not] at g2
        simp (config := { decide := true }) only [if_true, if_false]
        refine ⟨k, rfl, hk, hlow, fun z hz => ?_, H⟩
        rw [List.getElem?_eq_none (by omega)] at hz
        cases hz
  · simp only [decide_eq_false_iff_not] at g1
    rw [List.take_of_length_le (by omega)] at hR
    exact s_ret ⟨_, c, out, rfl, hR, ho, H⟩
end
end Go.Proofs.Ytgoecmggbcaoiaa
