/- The document's lists of pairs: SamePairs, Pairs. -/
import Derived.Test.YtpjcfnnnciknmaaGreatKeysR
import Derived.Test.YtpjcfnnnciknmaaGreatKeyMap
set_option linter.unusedVariables false
set_option linter.unusedSimpArgs false
set_option maxRecDepth 100000
set_option maxHeartbeats 1000000
namespace Go.Proofs.YtpjcfnnnciknmaaGreat
open Go hiding Expr
open Go.RowKit Tr

theorem elemPr : Elem Tryz.prog 34 53 (.agg ⟨[.int .i32 0, .int .i64 0, .int .i64 0]⟩) 3 24 := ⟨by kernel_rfl, by kernel_rfl, rfl, by decide⟩
theorem PR.ext' {a b : PR} (h1 : a.k = b.k) (h2 : a.v = b.v) : a = b := by cases a; cases b; simp_all
theorem eqPR (a b : PR) : (a.k.t == b.k.t && (a.k.r == b.k.r && true) && (a.v == b.v && true)) = decide (a = b) := by
  rw [eqK]
  by_cases h : a = b
  · subst h; simp
  · rw [decide_eq_false h]
    by_cases h1 : a.k = b.k
    · have h2 : a.v ≠ b.v := fun e => h (PR.ext' h1 e)
      simp [h2]
    · simp [h1]

theorem pairs_of (rows : List (List Value)) (h : ∀ r ∈ rows, Fits [.int .i32, .int .i64, .int .i64] r) : ∃ ks : List PR, rows = ks.map pr ∧ ∀ p ∈ ks, InK p.k := by
  induction rows with
  | nil => exact ⟨[], rfl, by simp⟩
  | cons r rows ih =>
    obtain ⟨ks, rfl, hi⟩ := ih fun q hq => h q (by simp [hq])
    obtain ⟨x1, r1, rfl, hw1, f1⟩ := (h r (by simp)).int
    obtain ⟨x2, r2, rfl, hw2, f2⟩ := f1.int
    obtain ⟨x3, r3, rfl, hw3, f3⟩ := f2.int
    obtain rfl := f3.nil
    refine ⟨⟨⟨x1, x2⟩, x3⟩ :: ks, rfl, ?_⟩
    intro k hk
    rcases List.mem_cons.1 hk with rfl | hk
    · simp [Lit.wf, IntKind.min, IntKind.max, IntKind.signed, IntKind.bits] at hw1 hw2
      exact ⟨by simp only; omega, by simp only; omega, by simp only; omega, by simp only; omega⟩
    · exact hi k hk

section
variable {w : World} {o o2 : Option Addr} {l l2 : List PR}
theorem PairsAt.at {g off : Nat} (h : PairsAt w (some ⟨g, off, none⟩) l) {i : Nat} {p : PR} (hi : l[i]? = some p) : w.cell? ⟨g, off + i * 3, none⟩ = some (.int .i32 p.k.t) ∧ w.cell? ⟨g, off + i * 3 + 1, none⟩ = some (.int .i64 p.k.r) ∧ w.cell? ⟨g, off + i * 3 + 2, none⟩ = some (.int .i64 p.v) := by
  obtain ⟨_, _, he, h1, h2, h3⟩ := h.get hi
  cases he
  exact ⟨h1, h2, h3⟩

theorem same_pairs_c {n n2 c c2 : Nat} (h : PairsAt w o l) (h2 : PairsAt w o2 l2) (hn : n = l.length) (hn2 : n2 = l2.length) (hmax : l.length < 9223372036854775807) :
    Calls Tryz.prog 37 #[.slice o n c, .slice o2 n2 c2] w fun e w' => e = .returned (.bool (decide (l = l2))) ∧ Fr [] w w' := by
  subst hn hn2
  apply c37
  refine s_ite (fun g => ?_) (fun g => ?_)
  · refine s_ret ⟨?_, Fr.refl _ _⟩
    have : l ≠ l2 := fun e => by subst e; simp at g
    rw [decide_eq_false this]
  · have hl : l.length = l2.length := by
      have h3 : (l.length : Int) = l2.length := by simpa using g
      omega
    refine s_loop (fun vs W => ∃ i : Nat, vs = [.int .i64 i] ∧ i ≤ l.length ∧ l.take i = l2.take i ∧ Fr [] w W) (fun vs _ => l.length - (intOf (vs.getD 0 undef)).toNat) ⟨0, rfl, by omega, by simp, Fr.refl _ _⟩ ?_
    rintro _ j W ⟨i, rfl, hi, he, hf⟩
    refine s_asI (s_ite (fun g1 => ?_) (fun g1 => ?_))
    · simp only [decide_eq_true_eq] at g1
      have hlt : i < l.length := by omega
      refine s_drew fun w1 _ f1 => ?_
      have hf := hf.trans f1
      have hx : l[i]? = some l[i] := List.getElem?_eq_getElem hlt
      have hy : l2[i]? = some (l2[i]'(by omega)) := List.getElem?_eq_getElem _
      obtain ⟨g2, off, rfl, p1, p2, p3⟩ := (h.fr0 hf).get hx
      obtain ⟨g3, off3, rfl, q1, q2, q3⟩ := (h2.fr0 hf).get hy
      refine s_req ⟨by omega, by omega⟩ (s_sm (s_loadI p1 (s_loadI p2 (s_loadI p3 (s_req ⟨by omega, by omega⟩ (s_sm (s_loadI q1 (s_loadI q2 (s_loadI q3 ?_)))))))))
      rw [eqPR]
      refine s_ite (fun g4 => ?_) (fun g4 => s_next (by first | exact ⟨rfl, rfl⟩ | trivial) ?_)
      · have hne : l[i] ≠ l2[i]'(by omega) := by simpa using g4
        have : l ≠ l2 := fun e => hne (by subst e; rfl)
        rw [decide_eq_false this]
        exact s_ret ⟨rfl, hf⟩
      · have heq : l[i] = l2[i]'(by omega) := by simpa using g4
        simp (config := { decide := true }) only [if_true, if_false]
        refine ⟨⟨i + 1, by rw [w_succ (by omega)], by omega, ?_, hf⟩, by rw [w_succ (by omega)]; simp [intOf] <;> omega⟩
        rw [List.take_add_one, List.take_add_one, hx, hy, he, heq]
    · simp only [decide_eq_false_iff_not] at g1
      rw [List.take_of_length_le (by omega), List.take_of_length_le (by omega)] at he
      rw [decide_eq_true he]
      exact s_ret ⟨rfl, hf⟩

theorem encP_part (l : List PR) (i j : Nat) : (((l.map pr).drop i).take j).flatten = encP ((l.drop i).take j) := by
  unfold encP
  rw [← List.map_drop, ← List.map_take]

/-- Behind the place: the rest, without the pair of the same key. -/
def cutAt (out : List PR) (x : PR) (k : Nat) : Nat := if (out.map (fun p : PR => p.k))[k]? = some x.k then k + 1 else k
theorem IsPairs.put {l out : List PR} {x : PR} {k : Nat} (h : IsPairs l out) (hp : Pos (out.map (fun p : PR => p.k)) x.k k) : IsPairs (l ++ [x]) (out.take k ++ [x] ++ out.drop (cutAt out x k)) := by
  unfold cutAt
  by_cases he : (out.map (fun p : PR => p.k))[k]? = some x.k
  · rw [if_pos he]; exact h.set hp he
  · rw [if_neg he]; exact h.ins hp he

theorem rpairs_c {n cap : Nat} (h : PairsAt w o l) (hn : n = l.length) (hsz : l.length * 24 ≤ 140737488355328) : Calls Tryz.prog 36 #[.slice o n cap] w fun e w' =>
    ∃ out v c, IsPairs l out ∧ e = .returned v ∧ OwnC 53 3 v out.length (encP out) c ∧ Has w w' c := by
  subst hn
  apply c36
  refine s_loop (fun vs W => ∃ (i : Nat) (out : List PR) (v : Value) (c : Hp), vs = [v, .int .i64 i] ∧ i ≤ l.length ∧ IsPairs (l.take i) out ∧ OwnC 53 3 v out.length (encP out) c ∧ Has w W c)
    (fun vs _ => l.length - (intOf (vs.getD 1 undef)).toNat) ⟨0, [], _, [], rfl, by omega, by rw [List.take_zero]; exact IsPairs.nil, OwnC.nil, Has.init w⟩ ?_
  rintro _ j W ⟨i, out, v, c, rfl, hi, hP, ho, H⟩
  obtain ⟨ov, cv, rfl⟩ := ho.slice
  have hol : out.length ≤ i := by have := hP.len; rw [List.length_take] at this; omega
  have hcap := ho.cap_ge.1
  refine s_asS (s_asI (s_ite (fun g1 => ?_) (fun g1 => ?_)))
  · simp only [decide_eq_true_eq] at g1
    have hlt : i < l.length := by omega
    obtain ⟨x, hx⟩ : ∃ x, l[i]? = some x := ⟨_, List.getElem?_eq_getElem hlt⟩
    have htake : l.take (i + 1) = l.take i ++ [x] := by rw [List.take_add_one, hx]; rfl
    refine s_blk (fun vs W => ∃ k : Nat, vs = [.int .i64 k] ∧ Pos (out.map (fun p : PR => p.k)) x.k k ∧ Has w W c) ?_ ?_
    · rintro _ j1 W ⟨k, rfl, hpos, H⟩
      have hkle : k ≤ out.length := by have := hpos.le; rwa [List.length_map] at this
      have hput := hP.put hpos
      have hck : k ≤ cutAt out x k ∧ cutAt out x k ≤ out.length ∧ cutAt out x k ≤ k + 1 := by
        unfold cutAt
        split
        · rename_i he
          have := (List.getElem?_eq_some_iff.1 he).1
          rw [List.length_map] at this
          omega
        · omega
      refine s_asI (h_drew H fun u H => s_req ⟨by omega, by omega⟩ (s_req ⟨by omega, by omega⟩ ?_))
      obtain ⟨g2, off, rfl, p1, p2, p3⟩ := (h.fr0 H.base).get hx
      refine s_sm (s_loadI p1 (s_loadI p2 (s_loadI p3 (s_both ?_ ?_))))
      · skip
        refine h_appRows elemPr (by decide) H cut_nil OwnC.nil (pr3 out) (pr_one out) (pairsAt_own ho H (by repeat (first | exact cut_head | exact cut_all | apply cut_tail | apply cut_app))) (fun e => by subst e; exact none_own ho (pr3 out) (by decide)) (i := 0) (j := k) (by rw [List.length_map]; omega) (by rw [List.length_map]; exact hcap) (by omega) (by omega) ?_
        intro v1 c1 u ho1 H
        obtain ⟨o1, cap1, rfl⟩ := ho1.slice
        refine s_asS ?_
        obtain ⟨p1, p2, p3⟩ := (h.fr0 H.base).at hx
        refine s_chk ⟨p1, p2, p3, trivial⟩ ?_
        (refine h_new H fun nc u H => ?_)
        refine s_chk c_nil ?_
        refine h_app1 elemPr H (by repeat (first | exact cut_head | exact cut_all | apply cut_tail | apply cut_app)) ho1 (by repeat (first | exact pick_head | apply pick_tail | apply pick_app)) rfl (by intro u hu; simp at hu; rcases hu with rfl | rfl | rfl <;> rfl) (by omega) (by omega) ?_
        intro v2 c2 u ho2 H
        obtain ⟨o2, cap2, rfl⟩ := ho2.slice
        refine s_asS (s_chk c_nil ?_)
        refine s_blk (fun vs W => vs = [.int .i64 (cutAt out x k : Nat)] ∧ Has w W (c2 ++ (cl nc 53 [.int .i32 x.k.t, .int .i64 x.k.r, .int .i64 x.v] :: c))) ?_ ?_
        · rintro _ j2 W ⟨rfl, H⟩
          refine s_asI (s_req ⟨by omega, by omega⟩ ?_)
          refine h_appRows elemPr (by decide) H (by repeat (first | exact cut_head | exact cut_all | apply cut_tail | apply cut_app)) ho2 (pr3 out) (pr_one out) (pairsAt_own ho H (by repeat (first | exact cut_head | exact cut_all | apply cut_tail | apply cut_app))) (fun e => by subst e; exact none_own ho (pr3 out) (by decide)) (i := cutAt out x k) (j := out.length - cutAt out x k) (by rw [List.length_map]; omega) (by rw [List.length_map]; exact hcap) (by omega) (by omega) ?_
          intro v3 c3 u ho3 H
          obtain ⟨o3, cap3, rfl⟩ := ho3.slice
          refine s_asS (s_next (by first | exact ⟨rfl, rfl⟩ | trivial) ?_)
          simp (config := { decide := true }) only [if_true, if_false]
          rw [← htake] at hput
          refine ⟨⟨i + 1, _, _, c3, by rw [w_succ (by omega)], by omega, hput, ?_, H.sub (by repeat (first | exact sb_refl | exact sb_nil | refine sb_cons (by repeat (first | exact pick_head | apply pick_tail | apply pick_app)) ?_ | refine sb_app (by repeat (first | exact cut_head | exact cut_all | apply cut_tail | apply cut_app)) ?_ | exact sb_one (by repeat (first | exact cut_head | exact cut_all | apply cut_tail | apply cut_app))))⟩, by rw [w_succ (by omega)]; simp [intOf] <;> omega⟩
          rw [encP_part, encP_part, List.drop_zero, List.nil_append, List.take_of_length_le (i := out.length - cutAt out x k) (by rw [List.length_drop]; omega)] at ho3
          have hlen : (out.take k ++ [x] ++ out.drop (cutAt out x k)).length = 0 + k + 1 + (out.length - cutAt out x k) := by simp; omega
          have henc : encP (out.take k ++ [x] ++ out.drop (cutAt out x k)) = encP (out.take k) ++ [.int .i32 x.k.t, .int .i64 x.k.r, .int .i64 x.v] ++ encP (out.drop (cutAt out x k)) := by
            rw [encP_append, encP_append]; rfl
          rw [hlen, henc]
          exact ho3
        · refine h_drew H fun u H => s_ite (fun g2 => ?_) (fun g2 => s_next (by first | exact ⟨rfl, rfl⟩ | trivial) ?_)
          · simp only [decide_eq_true_eq] at g2
            obtain ⟨y, hy⟩ : ∃ y, out[k]? = some y := ⟨_, List.getElem?_eq_getElem (by omega)⟩
            have hyk : (out.map (fun p : PR => p.k))[k]? = some y.k := by rw [List.getElem?_map, hy]; rfl
            obtain ⟨g3, off3, rfl, q1, q2, _⟩ := (pairsAt_own ho H (by repeat (first | exact cut_head | exact cut_all | apply cut_tail | apply cut_app))).get hy
            obtain ⟨p1, p2, _⟩ := (h.fr0 H.base).at hx
            refine s_req ⟨by omega, by omega⟩ (s_sm (s_loadI q1 (s_loadI q2 (s_req ⟨by omega, by omega⟩ (s_sm (s_loadI p1 (s_loadI p2 ?_)))))))
            rw [eqK]
            refine s_ite (fun g4 => s_next (by first | exact ⟨rfl, rfl⟩ | trivial) ?_) (fun g4 => s_next (by first | exact ⟨rfl, rfl⟩ | trivial) ?_)
            · have heq : y.k = x.k := by simpa using g4
              simp (config := { decide := true }) only [if_true, if_false]
              refine ⟨?_, H⟩
              rw [w_succ (by omega), cutAt, if_pos (by rw [hyk, heq])]
            · have hne : y.k ≠ x.k := by simpa using g4
              simp (config := { decide := true }) only [if_true, if_false]
              refine ⟨?_, H⟩
              rw [cutAt, if_neg (by rw [hyk]; simpa using hne)]
          · simp only [decide_eq_false_iff_not] at g2
            simp (config := { decide := true }) only [if_true, if_false]
            refine ⟨?_, H⟩
            rw [cutAt, if_neg (by rw [List.getElem?_eq_none (by rw [List.length_map]; omega)]; simp)]
      · skip
        (refine h_new H fun nc u H => ?_)
        refine s_chk c_nil ?_
        refine h_appRows elemPr (by decide) H cut_nil OwnC.nil (pr3 out) (pr_one out) (pairsAt_own ho H (by repeat (first | exact cut_head | exact cut_all | apply cut_tail | apply cut_app))) (fun e => by subst e; exact none_own ho (pr3 out) (by decide)) (i := 0) (j := k) (by rw [List.length_map]; omega) (by rw [List.length_map]; exact hcap) (by omega) (by omega) ?_
        intro v1 c1 u ho1 H
        obtain ⟨o1, cap1, rfl⟩ := ho1.slice
        refine s_asS ?_
        refine s_chk c_nil ?_
        refine h_app1 elemPr H (by repeat (first | exact cut_head | exact cut_all | apply cut_tail | apply cut_app)) ho1 (by repeat (first | exact pick_head | apply pick_tail | apply pick_app)) rfl (by intro u hu; simp at hu; rcases hu with rfl | rfl | rfl <;> rfl) (by omega) (by omega) ?_
        intro v2 c2 u ho2 H
        obtain ⟨o2, cap2, rfl⟩ := ho2.slice
        refine s_asS (s_chk c_nil ?_)
        refine s_blk (fun vs W => vs = [.int .i64 (cutAt out x k : Nat)] ∧ Has w W (c2 ++ (cl nc 53 [.int .i32 x.k.t, .int .i64 x.k.r, .int .i64 x.v] :: c))) ?_ ?_
        · rintro _ j2 W ⟨rfl, H⟩
          refine s_asI (s_req ⟨by omega, by omega⟩ ?_)
          refine h_appRows elemPr (by decide) H (by repeat (first | exact cut_head | exact cut_all | apply cut_tail | apply cut_app)) ho2 (pr3 out) (pr_one out) (pairsAt_own ho H (by repeat (first | exact cut_head | exact cut_all | apply cut_tail | apply cut_app))) (fun e => by subst e; exact none_own ho (pr3 out) (by decide)) (i := cutAt out x k) (j := out.length - cutAt out x k) (by rw [List.length_map]; omega) (by rw [List.length_map]; exact hcap) (by omega) (by omega) ?_
          intro v3 c3 u ho3 H
          obtain ⟨o3, cap3, rfl⟩ := ho3.slice
          refine s_asS (s_next (by first | exact ⟨rfl, rfl⟩ | trivial) ?_)
          simp (config := { decide := true }) only [if_true, if_false]
          rw [← htake] at hput
          refine ⟨⟨i + 1, _, _, c3, by rw [w_succ (by omega)], by omega, hput, ?_, H.sub (by repeat (first | exact sb_refl | exact sb_nil | refine sb_cons (by repeat (first | exact pick_head | apply pick_tail | apply pick_app)) ?_ | refine sb_app (by repeat (first | exact cut_head | exact cut_all | apply cut_tail | apply cut_app)) ?_ | exact sb_one (by repeat (first | exact cut_head | exact cut_all | apply cut_tail | apply cut_app))))⟩, by rw [w_succ (by omega)]; simp [intOf] <;> omega⟩
          rw [encP_part, encP_part, List.drop_zero, List.nil_append, List.take_of_length_le (i := out.length - cutAt out x k) (by rw [List.length_drop]; omega)] at ho3
          have hlen : (out.take k ++ [x] ++ out.drop (cutAt out x k)).length = 0 + k + 1 + (out.length - cutAt out x k) := by simp; omega
          have henc : encP (out.take k ++ [x] ++ out.drop (cutAt out x k)) = encP (out.take k) ++ [.int .i32 x.k.t, .int .i64 x.k.r, .int .i64 x.v] ++ encP (out.drop (cutAt out x k)) := by
            rw [encP_append, encP_append]; rfl
          rw [hlen, henc]
          exact ho3
        · refine h_drew H fun u H => s_ite (fun g2 => ?_) (fun g2 => s_next (by first | exact ⟨rfl, rfl⟩ | trivial) ?_)
          · simp only [decide_eq_true_eq] at g2
            obtain ⟨y, hy⟩ : ∃ y, out[k]? = some y := ⟨_, List.getElem?_eq_getElem (by omega)⟩
            have hyk : (out.map (fun p : PR => p.k))[k]? = some y.k := by rw [List.getElem?_map, hy]; rfl
            obtain ⟨g3, off3, rfl, q1, q2, _⟩ := (pairsAt_own ho H (by repeat (first | exact cut_head | exact cut_all | apply cut_tail | apply cut_app))).get hy
            obtain ⟨p1, p2, _⟩ := (h.fr0 H.base).at hx
            refine s_req ⟨by omega, by omega⟩ (s_sm (s_loadI q1 (s_loadI q2 (s_req ⟨by omega, by omega⟩ (s_sm (s_loadI p1 (s_loadI p2 ?_)))))))
            rw [eqK]
            refine s_ite (fun g4 => s_next (by first | exact ⟨rfl, rfl⟩ | trivial) ?_) (fun g4 => s_next (by first | exact ⟨rfl, rfl⟩ | trivial) ?_)
            · have heq : y.k = x.k := by simpa using g4
              simp (config := { decide := true }) only [if_true, if_false]
              refine ⟨?_, H⟩
              rw [w_succ (by omega), cutAt, if_pos (by rw [hyk, heq])]
            · have hne : y.k ≠ x.k := by simpa using g4
              simp (config := { decide := true }) only [if_true, if_false]
              refine ⟨?_, H⟩
              rw [cutAt, if_neg (by rw [hyk]; simpa using hne)]
          · simp only [decide_eq_false_iff_not] at g2
            simp (config := { decide := true }) only [if_true, if_false]
            refine ⟨?_, H⟩
            rw [cutAt, if_neg (by rw [List.getElem?_eq_none (by rw [List.length_map]; omega)]; simp)]
    · refine s_loop (fun vs W => ∃ k : Nat, vs = [.int .i64 k] ∧ k ≤ out.length ∧ (∀ y ∈ (out.map (fun p : PR => p.k)).take k, ltK y x.k = true) ∧ Has w W c) (fun vs _ => out.length - (intOf (vs.getD 0 undef)).toNat) ⟨0, rfl, by omega, by simp, H⟩ ?_
      rintro _ j3 W ⟨k, rfl, hk, hlow, H⟩
      refine s_asI (h_drew H fun u H => s_ite (fun g2 => ?_) (fun g2 => s_chk c_nil (s_next (by first | exact ⟨rfl, rfl⟩ | trivial) ?_)))
      · simp only [decide_eq_true_eq] at g2
        obtain ⟨y, hy⟩ : ∃ y, out[k]? = some y := ⟨_, List.getElem?_eq_getElem (by omega)⟩
        have hyk : (out.map (fun p : PR => p.k))[k]? = some y.k := by rw [List.getElem?_map, hy]; rfl
        obtain ⟨g3, off3, rfl, q1, q2, _⟩ := (pairsAt_own ho H (by repeat (first | exact cut_head | exact cut_all | apply cut_tail | apply cut_app))).get hy
        obtain ⟨g2, off, rfl, p1, p2, _⟩ := (h.fr0 H.base).get hx
        refine s_req ⟨by omega, by omega⟩ (s_sm (s_loadI q1 (s_loadI q2 (s_req ⟨by omega, by omega⟩ (s_sm (s_loadI p1 (s_loadI p2 ?_)))))))
        refine s_call (rcmp_c y.k x.k) ?_
        rintro _ u ⟨rfl, f⟩
        have H := H.fr0 f
        refine ⟨_, rfl, s_asI (s_chk c_nil (s_ite (fun g4 => s_next (by first | exact ⟨rfl, rfl⟩ | trivial) ?_) (fun g4 => s_next (by first | exact ⟨rfl, rfl⟩ | trivial) ?_)))⟩
        · simp (config := { decide := true }) only [if_true, if_false]
          refine ⟨⟨k + 1, by rw [w_succ (by omega)], by omega, ?_, H⟩, by rw [w_succ (by omega)]; simp [intOf] <;> omega⟩
          rw [List.take_add_one, hyk, Option.toList_some]
          intro z hz
          rcases List.mem_append.1 hz with hz | hz
          · exact hlow z hz
          · rw [List.mem_singleton] at hz; subst hz; exact g4
        · simp (config := { decide := true }) only [if_true, if_false]
          refine ⟨k, rfl, ⟨by rw [List.length_map]; exact hk, hlow, fun z hz => ?_⟩, H⟩
          rw [hyk] at hz
          cases hz
          exact g4
      · simp only [decide_eq_false_iff_not] at g2
        simp (config := { decide := true }) only [if_true, if_false]
        refine ⟨k, rfl, ⟨by rw [List.length_map]; exact hk, hlow, fun z hz => ?_⟩, H⟩
        rw [List.getElem?_eq_none (by rw [List.length_map]; omega)] at hz
        cases hz
  · simp only [decide_eq_false_iff_not] at g1
    have : l.take i = l := List.take_of_length_le (by omega)
    rw [this] at hP
    exact s_ret ⟨out, _, c, hP, rfl, ho, H⟩
end
end Go.Proofs.YtpjcfnnnciknmaaGreat
