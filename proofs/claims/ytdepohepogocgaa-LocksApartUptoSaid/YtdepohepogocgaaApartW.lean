/- LocksApart, walked. -/
import Derived.Test.YtdepohepogocgaaLimU
set_option linter.unusedVariables false
set_option linter.unusedSimpArgs false
set_option maxRecDepth 100000
set_option maxHeartbeats 4000000
namespace Go.Proofs.Ytdepohepogocgaa
open Go hiding Expr
open Go.RowKit Tr

/-- What has been counted of a queue's first i places: those that have the lock alone, those that share it, whether one waits. -/
def Counted (q : Qu) (i e s : Nat) (wt : Bool) : Prop :=
  (i = 0 ∧ e = 0 ∧ s = 0 ∧ wt = false) ∨
  (1 ≤ i ∧ ∃ sh, (heldGo true true q).drop i = heldGo false sh (q.drop i) ∧ (wt = true → sh = false) ∧ ((e = 1 ∧ s = 0 ∧ sh = false) ∨ (e = 0 ∧ 1 ≤ s ∧ s ≤ i)))
theorem heldGo_cons {f sh : Bool} {p : Ix × Bool} {r : Qu} : heldGo f sh (p :: r) = ⟨p.1, p.2, f || (sh && !p.2)⟩ :: heldGo false (sh && !p.2) r := rfl
theorem drop_at {α : Type} {l : List α} {i : Nat} {x : α} (h : l[i]? = some x) : l.drop i = x :: l.drop (i + 1) := by
  obtain ⟨h1, rfl⟩ := List.getElem?_eq_some_iff.1 h
  exact List.drop_eq_getElem_cons h1
theorem counted_step {q : Qu} {i e s : Nat} {wt : Bool} {x : Wt} (hc : Counted q i e s wt) (hx : (heldGo true true q)[i]? = some x) :
    (x.h = true → wt = false) ∧ Counted q (i + 1) (if x.h && x.x then e + 1 else e) (if x.h && !x.x then s + 1 else s) (wt || !x.h) := by
  have hlt : i < q.length := by have := (List.getElem?_eq_some_iff.1 hx).1; rwa [heldGo_len] at this
  obtain ⟨p, hp⟩ : ∃ p, q[i]? = some p := ⟨_, List.getElem?_eq_getElem hlt⟩
  have hd := drop_at hp
  have hdx := drop_at hx
  rcases hc with ⟨rfl, rfl, rfl, rfl⟩ | ⟨h1, sh, h2, h3, h4⟩
  · rw [List.drop_zero] at hdx hd
    rw [hd, heldGo_cons] at hdx
    obtain ⟨h1, h2⟩ := List.cons.inj hdx
    subst h1
    refine ⟨by simp, .inr ⟨by omega, !p.2, ?_, by simp, ?_⟩⟩
    · conv => lhs; rw [hd]
      rw [heldGo_cons]
      simp
    · cases p.2 <;> simp
  · rw [hdx, hd, heldGo_cons] at h2
    obtain ⟨h5, h6⟩ := List.cons.inj h2
    subst h5
    simp only [Bool.false_or]
    refine ⟨fun hh => ?_, .inr ⟨by omega, sh && !p.2, h6, fun hw => ?_, ?_⟩⟩
    · cases wt with
      | false => rfl
      | true => rw [h3 rfl] at hh; simp at hh
    · cases wt with
      | true => rw [h3 rfl]; rfl
      | false => revert hw; cases sh <;> cases p.2 <;> simp
    · rcases h4 with ⟨rfl, rfl, rfl⟩ | ⟨rfl, h4, h5⟩
      · simp
      · cases sh <;> cases p.2 <;> simp <;> omega
theorem counted_end {q : Qu} {e s : Nat} {wt : Bool} (hc : Counted q q.length e s wt) (hq : q ≠ []) : (e = 1 ∧ s = 0) ∨ (e = 0 ∧ 1 ≤ s ∧ s ≤ q.length) := by
  rcases hc with ⟨h, _⟩ | ⟨_, sh, _, _, h⟩
  · exact absurd (List.eq_nil_of_length_eq_zero h) hq
  · rcases h with ⟨h1, h2, _⟩ | h
    · exact .inl ⟨h1, h2⟩
    · exact .inr h
section
variable {w : World} {o : Option Addr} {S : List OP} {cap : Nat}
theorem apart_c (hS : RowsAt w o 4 (S.map opr)) (hin : ∀ x ∈ S, RowsAt w x.o 3 (x.l.map lr)) (hok : ∀ x ∈ S, OpOk x) (hmax : S.length ≤ 1048576) (hcap : S.length ≤ cap) :
    Calls Try.prog 3 #[.slice o S.length cap] w fun e w' => e = .returned (.bool true) ∧ Fr [] w w' := by
  apply c3
  refine s_call new_c ?_
  rintro _ u ⟨r, c, rfl, hL, H⟩
  refine ⟨_, rfl, s_asP ?_⟩
  have H : Has w u (c ++ []) := by rw [List.append_nil]; exact H
  refine s_blk (fun x W => Has w W (c ++ [])) ?_ ?_
  · clear H
    rintro vs j W H
    refine s_min (s_asI (s_req ⟨by omega, by omega⟩ ?_))
    obtain ⟨n, hn1, hn2⟩ : ∃ n : Nat, (min (S.length : Int) 200).toNat = n ∧ n ≤ S.length := ⟨_, rfl, by omega⟩
    rw [hn1, sb_zero]
    refine s_loop (fun vs W => ∃ (i : Nat) (A : St) (c mm : Hp), vs = [.int .i64 i] ∧ i ≤ n ∧ LkAt r A c ∧ Lim i A ∧ Has w W (c ++ mm)) (fun vs _ => n - (intOf (vs.getD 0 undef)).toNat)
      ⟨0, [], c, [], rfl, by omega, hL, Lim.nil, H⟩ ?_
    clear H hL
    rintro _ j W ⟨i, A, c, mm, rfl, hi, hL, hl, H⟩
    refine s_asI (s_ite (fun g1 => ?_) (fun g1 => s_ret ⟨rfl, H.base⟩))
    simp only [decide_eq_true_eq] at g1
    have hlt : i < S.length := by omega
    obtain ⟨x, hx⟩ : ∃ x, S[i]? = some x := ⟨_, List.getElem?_eq_getElem hlt⟩
    have hxm := List.mem_of_getElem? hx
    have hox := hok x hxm
    have hxl := hox.2.2
    obtain ⟨g, off, he, _, hc⟩ := (H.rows hS).at (j := i) (r := opr x) (by rw [List.getElem?_map, hx]; rfl)
    refine s_req ⟨by omega, by omega⟩ ⟨g, off, he, s_loadI (hc 0 _ rfl) (s_loadI (hc 1 _ rfl) (s_loadI (hc 2 _ rfl) (s_loadS (hc 3 _ rfl) ?_)))⟩
    (refine h_new H fun n20 u H => ?_)
    iterate 4 refine h_st H (by repeat (first | exact pick_head | apply pick_tail | apply pick_app)) (by first | (simp; done) | exact Nat.le_of_ble_eq_true rfl) rfl fun u H => ?_
    have H : Has w u (c ++ (cl n20 30 (opr x) :: mm)) := H.sub (by repeat (first | exact sb_refl | exact sb_nil | refine sb_cons (by repeat (first | exact pick_head | apply pick_tail | apply pick_app)) ?_ | refine sb_app (by repeat (first | exact cut_head | exact cut_all | apply cut_tail | apply cut_app)) ?_ | exact sb_one (by repeat (first | exact cut_head | exact cut_all | apply cut_tail | apply cut_app))))
    have hl1 := hl.1
    refine s_blk (fun x W => ∃ (A : St) (c mm : Hp), LkAt r A c ∧ Lim (i + 1) A ∧ Has w W (c ++ mm)) ?_ ?_
    · clear H hL hl
      rintro vs j' W ⟨A, c, mm, hL, hl, H⟩
      have hz := hl.sz (by omega)
      have hin' : InA A := by obtain ⟨_, _, _, _, _, _, _, _, _, _, _, _, _, hi⟩ := hL; exact hi
      refine s_call (keys16_c (LkW.of H cut_head hL) ?_) ?_
      · have := hl.2.2
        have h3 : (i + 1) * 1048576 ≤ 1048576 * 1048576 := Nat.mul_le_mul_right _ (by omega)
        omega
      rintro _ u ⟨v4, c4, rfl, ho4, H4⟩
      have H := H.join H4
      obtain ⟨o4, cap4, rfl⟩ := ho4.slice
      have hkl := keysA_len A
      have hk2 := keysA_in hin'
      have hk3 : ∀ k ∈ keysA A, queueOf A k ≠ [] := fun k hk => queue_mem.2 ((KS_mem _ k).1 hk)
      have hkm : (keysA A).length ≤ 1099511627776 := by
        have := hl.2.2
        have h3 : (i + 1) * 1048576 ≤ 1048576 * 1048576 := Nat.mul_le_mul_right _ (by omega)
        omega
      generalize keysA A = ks at *
      have H : Has w u (c4 ++ (c ++ (mm ++ []))) := H.sub (by repeat (first | exact sb_refl | exact sb_nil | refine sb_cons (by repeat (first | exact pick_head | apply pick_tail | apply pick_app)) ?_ | refine sb_app (by repeat (first | exact cut_head | exact cut_all | apply cut_tail | apply cut_app)) ?_ | exact sb_one (by repeat (first | exact cut_head | exact cut_all | apply cut_tail | apply cut_app))))
      refine ⟨_, rfl, s_asS (s_loop (fun vs W => ∃ (i : Nat) (m2 : Hp), vs = [.int .i64 i] ∧ i ≤ ks.length ∧ Has w W (c4 ++ (c ++ (mm ++ m2)))) (fun vs _ => ks.length - (intOf (vs.getD 0 undef)).toNat)
        ⟨0, [], rfl, by omega, H⟩ ?_)⟩
      clear H H4
      rintro _ j W ⟨i2, m2, rfl, hi2, H⟩
      refine s_asI (s_ite (fun g2 => ?_) (fun g2 => ?_))
      · simp only [decide_eq_true_eq] at g2
        obtain ⟨k, hk⟩ : ∃ k, ks[i2]? = some k := ⟨_, List.getElem?_eq_getElem (by omega)⟩
        obtain ⟨g, off, he, q1, q2⟩ := (keysAt_own ho4 H (by repeat (first | exact cut_head | exact cut_all | apply cut_tail | apply cut_app))).get hk
        refine s_req ⟨by omega, by omega⟩ ⟨g, off, he, s_loadI q1 (s_loadI q2 ?_)⟩
        (refine h_new H fun n34 u H => ?_)
        iterate 2 refine h_st H (by repeat (first | exact pick_head | apply pick_tail | apply pick_app)) (by first | (simp; done) | exact Nat.le_of_ble_eq_true rfl) rfl fun u H => ?_
        refine h_ldI H (by repeat (first | exact pick_head | apply pick_tail | apply pick_app)) rfl (h_ldI H (by repeat (first | exact pick_head | apply pick_tail | apply pick_app)) rfl ?_)
        refine s_call (queue_c (LkW.of H (c := c) (by repeat (first | exact cut_head | exact cut_all | apply cut_tail | apply cut_app)) hL) hz (hk2 k (List.mem_of_getElem? hk))) ?_
        rintro _ u ⟨v5, c5, rfl, ho5, H5⟩
        have H := H.join H5
        obtain ⟨o5, cap5, rfl⟩ := ho5.slice
        have hql : (queueOf A k).length ≤ A.length := len_queue
        have hne := hk3 k (List.mem_of_getElem? hk)
        unfold queueA at ho5 ⊢
        have hhl := heldGo_len (queueOf A k) true true
        generalize queueOf A k = q at *
        rw [hhl] at ho5 ⊢
        have hA1 := hz.1
        have H : Has w u (c5 ++ (c4 ++ (c ++ (mm ++ (cl n34 39 (kr k) :: m2))))) := H.sub (by repeat (first | exact sb_refl | exact sb_nil | refine sb_cons (by repeat (first | exact pick_head | apply pick_tail | apply pick_app)) ?_ | refine sb_app (by repeat (first | exact cut_head | exact cut_all | apply cut_tail | apply cut_app)) ?_ | exact sb_one (by repeat (first | exact cut_head | exact cut_all | apply cut_tail | apply cut_app))))
        refine ⟨_, rfl, s_asS (s_loop (fun vs W => ∃ (i e s : Nat) (wt : Bool) (m3 : Hp), vs = [.int .i64 e, .int .i64 s, .bool wt, .int .i64 i] ∧ i ≤ q.length ∧ e ≤ i ∧ s ≤ i ∧ Counted q i e s wt ∧ Has w W (c5 ++ (c4 ++ (c ++ (mm ++ m3))))) (fun vs _ => q.length - (intOf (vs.getD 3 undef)).toNat)
          ⟨0, 0, 0, false, _, rfl, by omega, by omega, by omega, .inl ⟨rfl, rfl, rfl, rfl⟩, H⟩ ?_)⟩
        clear H H5
        rintro _ j W ⟨i3, e, s, wt, m3, rfl, hi3, hei, hsi, hcnt, H⟩
        refine s_asI (s_asI (s_asB (s_asI (s_ite (fun g3 => ?_) (fun g3 => ?_)))))
        · simp only [decide_eq_true_eq] at g3
          obtain ⟨y, hy⟩ : ∃ y, (heldGo true true q)[i3]? = some y := ⟨_, List.getElem?_eq_getElem (by rw [hhl]; omega)⟩
          obtain ⟨g, off, he, _, hc⟩ := (rowsAt_own (wtr4 _) (by decide) (n := q.length) (cap := cap5) ho5 H (by repeat (first | exact cut_head | exact cut_all | apply cut_tail | apply cut_app))).at (j := i3) (r := wtr y) (by rw [List.getElem?_map, hy]; rfl)
          obtain ⟨hw1, hw2⟩ := counted_step hcnt hy
          refine s_req ⟨by omega, by omega⟩ ⟨g, off, he, s_loadI (hc 0 _ rfl) (s_loadI (hc 1 _ rfl) (s_loadB (hc 2 _ rfl) (s_loadB (hc 3 _ rfl) ?_)))⟩
          (refine h_new H fun n53 u H => ?_)
          iterate 4 refine h_st H (by repeat (first | exact pick_head | apply pick_tail | apply pick_app)) (by first | (simp; done) | exact Nat.le_of_ble_eq_true rfl) rfl fun u H => ?_
          refine h_blk (fun vs => vs = []) H ?_ ?_
          · refine h_ldB H (by repeat (first | exact pick_head | apply pick_tail | apply pick_app)) rfl (s_ite (fun g4 => s_ite (fun g5 => ?_) (fun g5 => s_next (by first | exact ⟨rfl, rfl⟩ | trivial) ?_)) (fun g4 => s_next (by first | exact ⟨rfl, rfl⟩ | trivial) ?_))
            · have := hw1 g4
              rw [this] at g5
              cases g5
            all_goals
              simp (config := { decide := true }) only [if_true, if_false]
              exact ⟨H, trivial⟩
          · rintro _ j3 W H rfl
            refine h_blk (fun vs => vs = [.bool (wt || !y.h)]) H ?_ ?_
            · refine s_ite (fun g4 => s_next (by first | exact ⟨rfl, rfl⟩ | trivial) ?_) (fun g4 => h_ldB H (by repeat (first | exact pick_head | apply pick_tail | apply pick_app)) rfl (s_next (by first | exact ⟨rfl, rfl⟩ | trivial) ?_))
              all_goals
                simp (config := { decide := true }) only [if_true, if_false]
                exact ⟨H, by rw [g4]; simp⟩
            · rintro _ j4 W H rfl
              refine s_asB (h_blk (fun vs => vs = [.bool (y.h && y.x)]) H ?_ ?_)
              · refine h_ldB H (by repeat (first | exact pick_head | apply pick_tail | apply pick_app)) rfl (s_ite (fun g4 => h_ldB H (by repeat (first | exact pick_head | apply pick_tail | apply pick_app)) rfl (s_next (by first | exact ⟨rfl, rfl⟩ | trivial) ?_)) (fun g4 => s_next (by first | exact ⟨rfl, rfl⟩ | trivial) ?_))
                all_goals
                  simp (config := { decide := true }) only [if_true, if_false]
                  exact ⟨H, by rw [g4]; simp⟩
              · rintro _ j5 W H rfl
                refine s_asB (s_ite (fun g4 => s_next (by first | exact ⟨rfl, rfl⟩ | trivial) ?_) (fun g4 => h_ldB H (by repeat (first | exact pick_head | apply pick_tail | apply pick_app)) rfl (s_ite (fun g5 => s_next (by first | exact ⟨rfl, rfl⟩ | trivial) ?_) (fun g5 => s_next (by first | exact ⟨rfl, rfl⟩ | trivial) ?_))))
                · simp (config := { decide := true }) only [if_true, if_false]
                  have e1 : (y.h && !y.x) = false := by clear H hw2 hc; revert g4; (try revert g5); cases y.h <;> cases y.x <;> simp_all
                  rw [g4, e1] at hw2
                  refine ⟨⟨i3 + 1, e + 1, s, _, _, by rw [w_succ (by omega), w_succ (by omega)], by omega, by omega, by omega, hw2, H.sub (by repeat (first | exact sb_refl | exact sb_nil | refine sb_cons (by repeat (first | exact pick_head | apply pick_tail | apply pick_app)) ?_ | refine sb_app (by repeat (first | exact cut_head | exact cut_all | apply cut_tail | apply cut_app)) ?_ | exact sb_one (by repeat (first | exact cut_head | exact cut_all | apply cut_tail | apply cut_app))))⟩, by rw [w_succ (by omega), w_succ (by omega)]; simp [intOf] <;> omega⟩
                · simp (config := { decide := true }) only [if_true, if_false]
                  have e1 : (y.h && !y.x) = true := by clear H hw2 hc; revert g4 g5; cases y.h <;> cases y.x <;> simp_all
                  rw [g4, e1] at hw2
                  refine ⟨⟨i3 + 1, e, s + 1, _, _, by rw [w_succ (by omega), w_succ (by omega)], by omega, by omega, by omega, hw2, H.sub (by repeat (first | exact sb_refl | exact sb_nil | refine sb_cons (by repeat (first | exact pick_head | apply pick_tail | apply pick_app)) ?_ | refine sb_app (by repeat (first | exact cut_head | exact cut_all | apply cut_tail | apply cut_app)) ?_ | exact sb_one (by repeat (first | exact cut_head | exact cut_all | apply cut_tail | apply cut_app))))⟩, by rw [w_succ (by omega), w_succ (by omega)]; simp [intOf] <;> omega⟩
                · simp (config := { decide := true }) only [if_true, if_false]
                  have e1 : (y.h && !y.x) = false := by clear H hw2 hc; revert g4; (try revert g5); cases y.h <;> cases y.x <;> simp_all
                  rw [g4, e1] at hw2
                  refine ⟨⟨i3 + 1, e, s, _, _, by rw [w_succ (by omega)], by omega, by omega, by omega, hw2, H.sub (by repeat (first | exact sb_refl | exact sb_nil | refine sb_cons (by repeat (first | exact pick_head | apply pick_tail | apply pick_app)) ?_ | refine sb_app (by repeat (first | exact cut_head | exact cut_all | apply cut_tail | apply cut_app)) ?_ | exact sb_one (by repeat (first | exact cut_head | exact cut_all | apply cut_tail | apply cut_app))))⟩, by rw [w_succ (by omega)]; simp [intOf] <;> omega⟩
        · simp only [decide_eq_false_iff_not] at g3
          obtain rfl : i3 = q.length := by omega
          have hend := counted_end hcnt hne
          have hwes : IntKind.wrap .i64 ((e : Int) + s) = ((e + s : Nat) : Int) := by rw [wrap64 (by omega) (by omega)]; omega
          rw [hwes]
          have hfin : Has w W (c4 ++ (c ++ (mm ++ (c5 ++ m3)))) := H.sub (by repeat (first | exact sb_refl | exact sb_nil | refine sb_cons (by repeat (first | exact pick_head | apply pick_tail | apply pick_app)) ?_ | refine sb_app (by repeat (first | exact cut_head | exact cut_all | apply cut_tail | apply cut_app)) ?_ | exact sb_one (by repeat (first | exact cut_head | exact cut_all | apply cut_tail | apply cut_app))))
          have hnx : ∀ u, Has w u (c4 ++ (c ++ (mm ++ (c5 ++ m3)))) → (∃ (i : Nat) (m2 : Hp), [Value.int .i64 (IntKind.wrap .i64 ((i2 : Int) + 1))] = [.int .i64 i] ∧ i ≤ ks.length ∧ Has w u (c4 ++ (c ++ (mm ++ m2)))) ∧ ks.length - (intOf ([Value.int .i64 (IntKind.wrap .i64 ((i2 : Int) + 1))].getD 0 undef)).toNat < ks.length - (intOf ([Value.int .i64 (i2 : Int)].getD 0 undef)).toNat := fun u H =>
            ⟨⟨i2 + 1, _, by rw [w_succ (by omega)], by omega, H⟩, by rw [w_succ (by omega)]; simp [intOf] <;> omega⟩
          rcases hend with ⟨rfl, rfl⟩ | ⟨rfl, hs1, hs2⟩
          · refine s_false (by decide) (s_true (by decide) (s_false (by decide) (s_false (by decide) (s_next (by first | exact ⟨rfl, rfl⟩ | trivial) ?_))))
            simp (config := { decide := true }) only [if_true, if_false]
            exact hnx W hfin
          · refine s_false (by decide) (s_false (by decide) (s_false (by simp; omega) (s_next (by first | exact ⟨rfl, rfl⟩ | trivial) ?_)))
            simp (config := { decide := true }) only [if_true, if_false]
            exact hnx W hfin
      · refine s_next (by first | exact ⟨rfl, rfl⟩ | trivial) ?_
        simp (config := { decide := true }) only [if_true, if_false]
        exact ⟨⟨i + 1, A, c, _, by rw [w_succ (by omega)], by omega, hL, hl, H.sub (by repeat (first | exact sb_refl | exact sb_nil | refine sb_cons (by repeat (first | exact pick_head | apply pick_tail | apply pick_app)) ?_ | refine sb_app (by repeat (first | exact cut_head | exact cut_all | apply cut_tail | apply cut_app)) ?_ | exact sb_one (by repeat (first | exact cut_head | exact cut_all | apply cut_tail | apply cut_app))))⟩, by rw [w_succ (by omega)]; simp [intOf] <;> omega⟩
    · refine h_ldI H (by repeat (first | exact pick_head | apply pick_tail | apply pick_app)) rfl (s_ite (fun g2 => h_ldI H (by repeat (first | exact pick_head | apply pick_tail | apply pick_app)) rfl (h_ldI H (by repeat (first | exact pick_head | apply pick_tail | apply pick_app)) rfl (h_ldS H (by repeat (first | exact pick_head | apply pick_tail | apply pick_app)) rfl ?_))) (fun g2 => h_ldI H (by repeat (first | exact pick_head | apply pick_tail | apply pick_app)) rfl (h_ldI H (by repeat (first | exact pick_head | apply pick_tail | apply pick_app)) rfl ?_)))
      · refine s_call (req_c (t := x.t) (l := x.l) H cut_head hL ⟨by omega, by omega⟩ hox.1 rfl hox.2.1 (fun u2 H2 => H2.rows (hin x hxm))) ?_
        rintro _ u ⟨rfl, c', hL', H⟩
        refine ⟨_, rfl, s_asI (s_next (by first | exact ⟨rfl, rfl⟩ | trivial) ?_)⟩
        simp (config := { decide := true }) only [if_true, if_false]
        exact ⟨_, c', _, hL', hl.req hxl, H⟩
      · refine s_call (rel_c (t := x.t) H cut_head hL (hl.sz (by omega)) hox.1) ?_
        rintro _ u ⟨o1, cap1, c1, c', rfl, ho1, hL', H⟩
        refine ⟨_, rfl, s_asU (s_req rfl (s_asS (s_asI (s_next (by first | exact ⟨rfl, rfl⟩ | trivial) ?_))))⟩
        simp (config := { decide := true }) only [if_true, if_false]
        exact ⟨_, c', _, hL', hl.rel.mono (by omega), H.sub (m2 := c' ++ (cl n20 30 (opr x) :: mm)) (by repeat (first | exact sb_refl | exact sb_nil | refine sb_cons (by repeat (first | exact pick_head | apply pick_tail | apply pick_app)) ?_ | refine sb_app (by repeat (first | exact cut_head | exact cut_all | apply cut_tail | apply cut_app)) ?_ | exact sb_one (by repeat (first | exact cut_head | exact cut_all | apply cut_tail | apply cut_app))))⟩
  · refine s_call begun_c ?_
    rintro _ u ⟨rfl, f⟩
    have H := H.fr0 f
    refine ⟨_, rfl, s_asB (s_false rfl (s_false rfl (s_next (by first | exact ⟨rfl, rfl⟩ | trivial) ?_)))⟩
    simp (config := { decide := true }) only [if_true, if_false]
    exact H
end
end Go.Proofs.Ytdepohepogocgaa
