/- The document's lists of keys: SameKeys, Keys, Has. -/
import Derived.Test.YtndkffhlheaepaaKeys
import Derived.Test.YtndkffhlheaepaaPart
import Derived.Test.YtndkffhlheaepaaPairsP
set_option linter.unusedVariables false
set_option linter.unusedSimpArgs false
set_option maxRecDepth 100000
set_option maxHeartbeats 1000000
namespace Go.Proofs.Ytndkffhlheaepaa
open Go hiding Expr
open Go.RowKit Tr

theorem kr_one (l : List K) : ∀ r ∈ l.map kr, ∀ u ∈ r, u.oneCell' = true := by
  intro r hr u hu
  obtain ⟨p, _, rfl⟩ := List.mem_map.1 hr
  simp [kr] at hu
  rcases hu with rfl | rfl <;> rfl
theorem eqK (a b : K) : (a.t == b.t && (a.r == b.r && true)) = decide (a = b) := by
  by_cases h : a = b
  · subst h; simp
  · rw [decide_eq_false h]
    cases h1 : a.t == b.t <;> cases h2 : a.r == b.r <;> simp_all
    exact h (K.ext' h1 h2)

section
variable {w : World} {o o2 : Option Addr} {l l2 : List K}
theorem KeysAt.at {g off : Nat} (h : KeysAt w (some ⟨g, off, none⟩) l) {i : Nat} {k : K} (hi : l[i]? = some k) : w.cell? ⟨g, off + i * 2, none⟩ = some (.int .i32 k.t) ∧ w.cell? ⟨g, off + i * 2 + 1, none⟩ = some (.int .i64 k.r) := by
  obtain ⟨_, _, he, h1, h2⟩ := h.get hi
  cases he
  exact ⟨h1, h2⟩

theorem same_keys_c {n n2 c c2 : Nat} (h : KeysAt w o l) (h2 : KeysAt w o2 l2) (hn : n = l.length) (hn2 : n2 = l2.length) (hmax : l.length < 9223372036854775807) :
    Calls Try.prog 37 #[.slice o n c, .slice o2 n2 c2] w fun e w' => e = .returned (.bool (decide (l = l2))) ∧ Fr [] w w' := by
  subst hn hn2
  apply c37
  refine s_ite (fun g => ?_) (fun g => ?_)
  · refine s_ret ⟨?_, Fr.refl _ _⟩
    have : l ≠ l2 := fun e => by subst e; simp at g
    rw [decide_eq_false this]
  · have hl : l.length = l2.length := by
      have h3 : (l.length : Int) = l2.length := by simpa using g
      omega
    refine s_loop (fun vs W => ∃ i : Nat, vs = [.int .i64 i] ∧ i ≤ l.length ∧ l.take i = l2.take i ∧ Fr [] w W) (fun vs _ => l.length - (intOf (vs.getD 0 undef)).toNat) ⟨0, rfl, by omega, by simp, Fr.refl _ _⟩ ?_
    rintro _ j W ⟨i, rfl, hi, he, hf⟩
    refine s_asI (s_ite (fun g1 => ?_) (fun g1 => ?_))
    · simp only [decide_eq_true_eq] at g1
      have hlt : i < l.length := by omega
      refine s_drew fun w1 _ f1 => ?_
      have hf := hf.trans f1
      have hx : l[i]? = some l[i] := List.getElem?_eq_getElem hlt
      have hy : l2[i]? = some (l2[i]'(by omega)) := List.getElem?_eq_getElem _
      obtain ⟨g2, off, rfl, p1, p2⟩ := (h.fr0 hf).get hx
      obtain ⟨g3, off3, rfl, q1, q2⟩ := (h2.fr0 hf).get hy
      refine s_req ⟨by omega, by omega⟩ (s_sm (s_loadI p1 (s_loadI p2 (s_req ⟨by omega, by omega⟩ (s_sm (s_loadI q1 (s_loadI q2 ?_)))))))
      rw [eqK]
      refine s_ite (fun g4 => ?_) (fun g4 => s_next (by first | exact ⟨rfl, rfl⟩ | trivial) ?_)
      · have hne : l[i] ≠ l2[i]'(by omega) := by simpa using g4
        have : l ≠ l2 := fun e => hne (by subst e; rfl)
        rw [decide_eq_false this]
        exact s_ret ⟨rfl, hf⟩
      · have heq : l[i] = l2[i]'(by omega) := by simpa using g4
        simp (config := { decide := true }) only [if_true, if_false]
        refine ⟨⟨i + 1, by rw [w_succ (by omega)], by omega, ?_, hf⟩, by rw [w_succ (by omega)]; simp [intOf] <;> omega⟩
        rw [List.take_add_one, List.take_add_one, hx, hy, he, heq]
    · simp only [decide_eq_false_iff_not] at g1
      rw [List.take_of_length_le (by omega), List.take_of_length_le (by omega)] at he
      rw [decide_eq_true he]
      exact s_ret ⟨rfl, hf⟩

theorem rhas_c {n c : Nat} (h : KeysAt w o l) (hn : n = l.length) (hmax : l.length < 9223372036854775807) (k : K) : Calls Try.prog 29 #[.slice o n c, .agg ⟨kr k⟩] w fun e w' =>
    e = .returned (.bool (decide (k ∈ l))) ∧ Fr [] w w' := by
  subst hn
  apply c29
  refine h_new (Has.init w) fun n5 u H => ?_
  refine s_loop (fun vs W => ∃ i : Nat, vs = [.int .i64 i] ∧ i ≤ l.length ∧ k ∉ l.take i ∧ Has w W [cl n5 50 (kr k)]) (fun vs _ => l.length - (intOf (vs.getD 0 undef)).toNat) ⟨0, rfl, by omega, by simp, H⟩ ?_
  rintro _ j W ⟨i, rfl, hi, he, H⟩
  refine s_asI (s_ite (fun g1 => ?_) (fun g1 => ?_))
  · simp only [decide_eq_true_eq] at g1
    have hlt : i < l.length := by omega
    refine h_drew H fun u H => ?_
    have hx : l[i]? = some l[i] := List.getElem?_eq_getElem hlt
    obtain ⟨g2, off, rfl, p1, p2⟩ := (h.fr0 H.base).get hx
    refine s_req ⟨by omega, by omega⟩ (s_sm (s_loadI p1 (s_loadI p2 (h_ldI H (by repeat (first | exact pick_head | apply pick_tail | apply pick_app)) rfl (h_ldI H (by repeat (first | exact pick_head | apply pick_tail | apply pick_app)) rfl ?_)))))
    rw [eqK]
    refine s_ite (fun g4 => ?_) (fun g4 => s_next (by first | exact ⟨rfl, rfl⟩ | trivial) ?_)
    · have heq : l[i] = k := by simpa using g4
      have : k ∈ l := by rw [← heq]; exact List.getElem_mem _
      rw [decide_eq_true this]
      exact s_ret ⟨rfl, H.base⟩
    · have hne : l[i] ≠ k := by simpa using g4
      simp (config := { decide := true }) only [if_true, if_false]
      refine ⟨⟨i + 1, by rw [w_succ (by omega)], by omega, ?_, H⟩, by rw [w_succ (by omega)]; simp [intOf] <;> omega⟩
      rw [List.take_add_one, hx, Option.toList_some, List.mem_append, List.mem_singleton]
      exact fun h => h.elim he (fun e => hne e.symm)
  · simp only [decide_eq_false_iff_not] at g1
    rw [List.take_of_length_le (by omega)] at he
    rw [decide_eq_false he]
    exact s_ret ⟨rfl, H.base⟩

theorem enc_part (l : List K) (i j : Nat) : (((l.map kr).drop i).take j).flatten = enc ((l.drop i).take j) := by
  unfold enc
  rw [← List.map_drop, ← List.map_take]
theorem none_own {e : TypeId} {sz n cap : Nat} {rows : List (List Value)} {c : Hp} (ho : OwnC e sz (.slice none n cap) n rows.flatten c) (hr : ∀ r ∈ rows, r.length = sz) (hpos : 0 < sz) : rows = [] := by
  rcases ho.2 with ⟨hv, hn, rfl⟩ | ⟨g, cap', sp, hv, _⟩
  · have hl := ho.len
    rw [flat_len hr, hn] at hl
    exact List.eq_nil_of_length_eq_zero (by
      rcases Nat.eq_zero_or_pos rows.length with h | h
      · exact h
      · have := Nat.mul_pos h hpos
        omega)
  · cases hv
theorem Tr.OwnC.cap_ge {e : TypeId} {sz n cap N : Nat} {xs : List Value} {c : Hp} {o : Option Addr} (ho : OwnC e sz (.slice o n cap) N xs c) : N ≤ cap ∧ n = N := by
  rcases ho.2 with ⟨hv, hn, rfl⟩ | ⟨g, cap', sp, hv, _, h1, _⟩
  · cases hv; exact ⟨by omega, hn.symm⟩
  · cases hv; exact ⟨h1, rfl⟩

theorem KS_nil : KS [] = [] := by simp [KS, compL]
theorem rkeys_c {n cap : Nat} (h : KeysAt w o l) (hn : n = l.length) (hsz : l.length * 16 ≤ 140737488355328) : Calls Try.prog 43 #[.slice o n cap] w fun e w' =>
    ∃ v c, e = .returned v ∧ OwnC 50 2 v (KS l).length (enc (KS l)) c ∧ Has w w' c := by
  subst hn
  apply c43
  refine s_loop (fun vs W => ∃ (i : Nat) (v : Value) (c : Hp), vs = [v, .int .i64 i] ∧ i ≤ l.length ∧ OwnC 50 2 v (KS (l.take i)).length (enc (KS (l.take i))) c ∧ Has w W c)
    (fun vs _ => l.length - (intOf (vs.getD 1 undef)).toNat) ⟨0, _, [], rfl, by omega, by rw [List.take_zero, KS_nil]; exact OwnC.nil, Has.init w⟩ ?_
  rintro _ j W ⟨i, v, c, rfl, hi, ho, H⟩
  obtain ⟨ov, cv, rfl⟩ := ho.slice
  generalize hout : KS (l.take i) = out at ho
  have hol : out.length ≤ i := by have := KS_len (l.take i); rw [hout, List.length_take] at this; omega
  have hcap := ho.cap_ge.1
  refine s_asS (s_asI (s_ite (fun g1 => ?_) (fun g1 => ?_)))
  · simp only [decide_eq_true_eq] at g1
    have hlt : i < l.length := by omega
    obtain ⟨x, hx⟩ : ∃ x, l[i]? = some x := ⟨_, List.getElem?_eq_getElem hlt⟩
    have htake : l.take (i + 1) = l.take i ++ [x] := by rw [List.take_add_one, hx]; rfl
    refine s_blk (fun vs W => ∃ k : Nat, vs = [.int .i64 k] ∧ Pos out x k ∧ Has w W c) ?_ ?_
    · rintro _ j1 W ⟨k, rfl, hpos, H⟩
      have hkle := hpos.le
      refine s_asI (s_blk (fun vs W => out[k]? ≠ some x ∧ Has w W c) ?_ ?_)
      · rintro _ j2 W ⟨hne, H⟩
        have hins : KS (l.take (i + 1)) = out.take k ++ [x] ++ out.drop k := by subst hout; rw [htake]; exact KS_ins hpos hne
        refine h_drew H fun u H => s_req ⟨by omega, by omega⟩ (s_req ⟨by omega, by omega⟩ ?_)
        obtain ⟨g2, off, rfl, p1, p2⟩ := (h.fr0 H.base).get hx
        refine s_sm (s_loadI p1 (s_loadI p2 (s_req ⟨by omega, by omega⟩ (s_both ?_ ?_))))
        · skip
          refine h_appRows elemK (by decide) H cut_nil OwnC.nil (kr2 out) (kr_one out) (keysAt_own ho H (by repeat (first | exact cut_head | exact cut_all | apply cut_tail | apply cut_app))) (fun e => by subst e; exact none_own ho (kr2 out) (by decide)) (i := 0) (j := k) (by rw [List.length_map]; omega) (by rw [List.length_map]; exact hcap) (by omega) (by omega) ?_
          intro v1 c1 u ho1 H
          obtain ⟨o1, cap1, rfl⟩ := ho1.slice
          refine s_asS ?_
          obtain ⟨p1, p2⟩ := (h.fr0 H.base).at hx
          refine s_chk ⟨p1, p2, trivial⟩ ?_
          (refine h_new H fun n22 u H => ?_)
          refine s_chk c_nil ?_
          refine h_app1 elemK H (by repeat (first | exact cut_head | exact cut_all | apply cut_tail | apply cut_app)) ho1 (by repeat (first | exact pick_head | apply pick_tail | apply pick_app)) rfl (by intro u hu; simp at hu; rcases hu with rfl | rfl <;> rfl) (by omega) (by omega) ?_
          intro v2 c2 u ho2 H
          obtain ⟨o2, cap2, rfl⟩ := ho2.slice
          refine s_asS (s_chk c_nil ?_)
          refine h_appRows elemK (by decide) H (by repeat (first | exact cut_head | exact cut_all | apply cut_tail | apply cut_app)) ho2 (kr2 out) (kr_one out) (keysAt_own ho H (by repeat (first | exact cut_head | exact cut_all | apply cut_tail | apply cut_app))) (fun e => by subst e; exact none_own ho (kr2 out) (by decide)) (i := k) (j := out.length - k) (by rw [List.length_map]; omega) (by rw [List.length_map]; exact hcap) (by omega) (by omega) ?_
          intro v3 c3 u ho3 H
          obtain ⟨o3, cap3, rfl⟩ := ho3.slice
          refine s_asS (s_chk c_nil (s_next (by first | exact ⟨rfl, rfl⟩ | trivial) ?_))
          simp (config := { decide := true }) only [if_true, if_false]
          refine ⟨⟨i + 1, _, c3, by rw [w_succ (by omega)], by omega, ?_, H.sub (by repeat (first | exact sb_refl | exact sb_nil | refine sb_cons (by repeat (first | exact pick_head | apply pick_tail | apply pick_app)) ?_ | refine sb_app (by repeat (first | exact cut_head | exact cut_all | apply cut_tail | apply cut_app)) ?_ | exact sb_one (by repeat (first | exact cut_head | exact cut_all | apply cut_tail | apply cut_app))))⟩, by rw [w_succ (by omega)]; simp [intOf] <;> omega⟩
          rw [enc_part, enc_part, List.drop_zero, List.nil_append, List.take_of_length_le (i := out.length - k) (by rw [List.length_drop]; omega)] at ho3
          have hlen : (out.take k ++ [x] ++ out.drop k).length = 0 + k + 1 + (out.length - k) := by simp; omega
          have henc : enc (out.take k ++ [x] ++ out.drop k) = enc (out.take k) ++ [.int .i32 x.t, .int .i64 x.r] ++ enc (out.drop k) := by
            rw [enc_append, enc_append]; rfl
          rw [hins, hlen, henc]
          exact ho3
        · (refine h_new H fun n31 u H => ?_)
          refine s_chk c_nil ?_
          refine h_appRows elemK (by decide) H cut_nil OwnC.nil (kr2 out) (kr_one out) (keysAt_own ho H (by repeat (first | exact cut_head | exact cut_all | apply cut_tail | apply cut_app))) (fun e => by subst e; exact none_own ho (kr2 out) (by decide)) (i := 0) (j := k) (by rw [List.length_map]; omega) (by rw [List.length_map]; exact hcap) (by omega) (by omega) ?_
          intro v1 c1 u ho1 H
          obtain ⟨o1, cap1, rfl⟩ := ho1.slice
          refine s_asS ?_
          refine s_chk c_nil ?_
          refine h_app1 elemK H (by repeat (first | exact cut_head | exact cut_all | apply cut_tail | apply cut_app)) ho1 (by repeat (first | exact pick_head | apply pick_tail | apply pick_app)) rfl (by intro u hu; simp at hu; rcases hu with rfl | rfl <;> rfl) (by omega) (by omega) ?_
          intro v2 c2 u ho2 H
          obtain ⟨o2, cap2, rfl⟩ := ho2.slice
          refine s_asS (s_chk c_nil ?_)
          refine h_appRows elemK (by decide) H (by repeat (first | exact cut_head | exact cut_all | apply cut_tail | apply cut_app)) ho2 (kr2 out) (kr_one out) (keysAt_own ho H (by repeat (first | exact cut_head | exact cut_all | apply cut_tail | apply cut_app))) (fun e => by subst e; exact none_own ho (kr2 out) (by decide)) (i := k) (j := out.length - k) (by rw [List.length_map]; omega) (by rw [List.length_map]; exact hcap) (by omega) (by omega) ?_
          intro v3 c3 u ho3 H
          obtain ⟨o3, cap3, rfl⟩ := ho3.slice
          refine s_asS (s_chk c_nil (s_next (by first | exact ⟨rfl, rfl⟩ | trivial) ?_))
          simp (config := { decide := true }) only [if_true, if_false]
          refine ⟨⟨i + 1, _, c3, by rw [w_succ (by omega)], by omega, ?_, H.sub (by repeat (first | exact sb_refl | exact sb_nil | refine sb_cons (by repeat (first | exact pick_head | apply pick_tail | apply pick_app)) ?_ | refine sb_app (by repeat (first | exact cut_head | exact cut_all | apply cut_tail | apply cut_app)) ?_ | exact sb_one (by repeat (first | exact cut_head | exact cut_all | apply cut_tail | apply cut_app))))⟩, by rw [w_succ (by omega)]; simp [intOf] <;> omega⟩
          rw [enc_part, enc_part, List.drop_zero, List.nil_append, List.take_of_length_le (i := out.length - k) (by rw [List.length_drop]; omega)] at ho3
          have hlen : (out.take k ++ [x] ++ out.drop k).length = 0 + k + 1 + (out.length - k) := by simp; omega
          have henc : enc (out.take k ++ [x] ++ out.drop k) = enc (out.take k) ++ [.int .i32 x.t, .int .i64 x.r] ++ enc (out.drop k) := by
            rw [enc_append, enc_append]; rfl
          rw [hins, hlen, henc]
          exact ho3
      · refine h_drew H fun u H => s_ite (fun g2 => ?_) (fun g2 => s_next (by first | exact ⟨rfl, rfl⟩ | trivial) ?_)
        · simp only [decide_eq_true_eq] at g2
          obtain ⟨y, hy⟩ : ∃ y, out[k]? = some y := ⟨_, List.getElem?_eq_getElem (by omega)⟩
          obtain ⟨g3, off3, rfl, q1, q2⟩ := (keysAt_own ho H (by repeat (first | exact cut_head | exact cut_all | apply cut_tail | apply cut_app))).get hy
          obtain ⟨g2, off, rfl, p1, p2⟩ := (h.fr0 H.base).get hx
          refine s_req ⟨by omega, by omega⟩ (s_sm (s_loadI q1 (s_loadI q2 (s_req ⟨by omega, by omega⟩ (s_sm (s_loadI p1 (s_loadI p2 ?_)))))))
          rw [eqK]
          refine s_ite (fun g4 => s_next (by first | exact ⟨rfl, rfl⟩ | trivial) ?_) (fun g4 => s_next (by first | exact ⟨rfl, rfl⟩ | trivial) ?_)
          · have heq : y = x := by simpa using g4
            simp (config := { decide := true }) only [if_true, if_false]
            refine ⟨⟨i + 1, _, c, by rw [w_succ (by omega)], by omega, ?_, H⟩, by rw [w_succ (by omega)]; simp [intOf] <;> omega⟩
            have : KS (l.take (i + 1)) = out := by subst hout; rw [htake]; exact KS_same (k := k) (by rw [hy, heq])
            rw [this]
            exact ho
          · have hne : y ≠ x := by simpa using g4
            simp (config := { decide := true }) only [if_true, if_false]
            exact ⟨by rw [hy]; simpa using hne, H⟩
        · simp only [decide_eq_false_iff_not] at g2
          simp (config := { decide := true }) only [if_true, if_false]
          exact ⟨by rw [List.getElem?_eq_none (by omega)]; simp, H⟩
    · refine s_loop (fun vs W => ∃ k : Nat, vs = [.int .i64 k] ∧ k ≤ out.length ∧ (∀ y ∈ out.take k, ltK y x = true) ∧ Has w W c) (fun vs _ => out.length - (intOf (vs.getD 0 undef)).toNat) ⟨0, rfl, by omega, by simp, H⟩ ?_
      rintro _ j3 W ⟨k, rfl, hk, hlow, H⟩
      refine s_asI (h_drew H fun u H => s_ite (fun g2 => ?_) (fun g2 => s_chk c_nil (s_next (by first | exact ⟨rfl, rfl⟩ | trivial) ?_)))
      · simp only [decide_eq_true_eq] at g2
        obtain ⟨y, hy⟩ : ∃ y, out[k]? = some y := ⟨_, List.getElem?_eq_getElem (by omega)⟩
        obtain ⟨g3, off3, rfl, q1, q2⟩ := (keysAt_own ho H (by repeat (first | exact cut_head | exact cut_all | apply cut_tail | apply cut_app))).get hy
        obtain ⟨g2, off, rfl, p1, p2⟩ := (h.fr0 H.base).get hx
        refine s_req ⟨by omega, by omega⟩ (s_sm (s_loadI q1 (s_loadI q2 (s_req ⟨by omega, by omega⟩ (s_sm (s_loadI p1 (s_loadI p2 ?_)))))))
        refine s_call (rcmp_c y x) ?_
        rintro _ u ⟨rfl, f⟩
        have H := H.fr0 f
        refine ⟨_, rfl, s_asI (s_chk c_nil (s_ite (fun g4 => s_next (by first | exact ⟨rfl, rfl⟩ | trivial) ?_) (fun g4 => s_next (by first | exact ⟨rfl, rfl⟩ | trivial) ?_)))⟩
        · simp (config := { decide := true }) only [if_true, if_false]
          refine ⟨⟨k + 1, by rw [w_succ (by omega)], by omega, ?_, H⟩, by rw [w_succ (by omega)]; simp [intOf] <;> omega⟩
          rw [List.take_add_one, hy, Option.toList_some]
          intro z hz
          rcases List.mem_append.1 hz with hz | hz
          · exact hlow z hz
          · rw [List.mem_singleton] at hz; subst hz; exact g4
        · simp (config := { decide := true }) only [if_true, if_false]
          refine ⟨k, rfl, ⟨hk, hlow, fun z hz => ?_⟩, H⟩
          rw [hy] at hz
          cases hz
          exact g4
      · simp only [decide_eq_false_iff_not] at g2
        simp (config := { decide := true }) only [if_true, if_false]
        refine ⟨k, rfl, ⟨hk, hlow, fun z hz => ?_⟩, H⟩
        rw [List.getElem?_eq_none (by omega)] at hz
        cases hz
  · simp only [decide_eq_false_iff_not] at g1
    have : l.take i = l := List.take_of_length_le (by omega)
    rw [this] at hout
    subst hout
    exact s_ret ⟨_, c, rfl, ho, H⟩
end
end Go.Proofs.Ytndkffhlheaepaa
