/- Which transactions may be: the reference, and the walk of the statement. -/
import Derived.Test.YtgoecmggbcaoiaaChecksM
set_option linter.unusedVariables false
set_option linter.unusedSimpArgs false
set_option maxRecDepth 100000
set_option maxHeartbeats 4000000
namespace Go.Proofs.Ytgoecmggbcaoiaa
open Go hiding Expr
open Go.RowKit Tr

section
variable {w w' w0 : World} {m m' c : Hp} {o1 o2 o3 o4 : Option Addr} {c1 c2 c3 c4 : Nat} {t : Tx}

theorem rcheck_c (H : Has w0 w m) (ht : TxOk t) (hv1 : ∀ u, Has w0 u m → BytAt u o1 t.code) (hv3 : ∀ u, Has w0 u m → KeyAt u o3 t.rd) (hv4 : ∀ u, Has w0 u m → KeyAt u o4 t.wr) :
    Calls Try.prog 23 #[.agg ⟨txR t o1 o2 o3 o4 c1 c2 c3 c4⟩] w fun e w' => (∃ n : Int, e = .returned (.int .i64 n) ∧ ChkIs t n) ∧ Has w0 w' m := by
  apply c23
  have hta := ht.args
  have htr := ht.rd
  have htw := ht.wr
  (refine h_new H fun n14 u H => ?_)
  have H : Has w0 u (cl n14 51 (txR t o1 o2 o3 o4 c1 c2 c3 c4) :: m) := H
  refine h_blk (fun _ => ¬ NumBad t) H ?_ ?_
  · refine h_ldI H (by repeat (first | exact pick_head | apply pick_tail | apply pick_app)) rfl (s_ite (fun g => s_ret ⟨⟨1, rfl, .num (.inl (by simpa using g))⟩, H.drop⟩) (fun g => h_ldI H (by repeat (first | exact pick_head | apply pick_tail | apply pick_app)) rfl (s_ite (fun g1 => s_ret ⟨⟨1, rfl, .num (.inr (.inl (by simpa using g1)))⟩, H.drop⟩) (fun g1 =>
      h_ldI H (by repeat (first | exact pick_head | apply pick_tail | apply pick_app)) rfl (s_ite (fun g2 => s_ret ⟨⟨1, rfl, .num (.inr (.inr (.inl (by simpa using g2))))⟩, H.drop⟩) (fun g2 => h_ldI H (by repeat (first | exact pick_head | apply pick_tail | apply pick_app)) rfl (s_ite (fun g3 => s_ret ⟨⟨1, rfl, .num (.inr (.inr (.inr (by simpa using g3))))⟩, H.drop⟩) (fun g3 => s_next ⟨rfl, rfl⟩ ?_))))))))
    simp (config := { decide := true }) only [if_true, if_false]
    refine ⟨H, ?_⟩
    unfold NumBad
    simp only [decide_eq_false_iff_not] at *
    omega
  rintro _ _ W H hn
  refine h_blk (fun _ => ¬ LongBad t) H ?_ ?_
  · refine h_ldS H (by repeat (first | exact pick_head | apply pick_tail | apply pick_app)) rfl (s_ite (fun g => s_ret ⟨⟨3, rfl, .long hn (.inl ?_)⟩, H.drop⟩) (fun g => h_ldS H (by repeat (first | exact pick_head | apply pick_tail | apply pick_app)) rfl (s_ite (fun g1 => s_ret ⟨⟨3, rfl, .long hn (.inr (.inl ?_))⟩, H.drop⟩) (fun g1 => h_ldS H (by repeat (first | exact pick_head | apply pick_tail | apply pick_app)) rfl (s_ite (fun g2 => s_ret ⟨⟨3, rfl, .long hn (.inr (.inr ?_))⟩, H.drop⟩) (fun g2 => s_next ⟨rfl, rfl⟩ ?_))))))
    all_goals simp only [decide_eq_true_eq, decide_eq_false_iff_not] at *
    · omega
    · omega
    · omega
    · simp (config := { decide := true }) only [if_true, if_false]
      refine ⟨H, ?_⟩
      unfold LongBad
      omega
  clear H
  rintro _ _ W H hlg
  refine h_blk (fun _ => RiseTo t.rd t.rd.length ∧ RiseTo t.wr t.wr.length) H ?_ ?_
  · refine h_ldS H (by repeat (first | exact pick_head | apply pick_tail | apply pick_app)) rfl ?_
    refine s_call (rrises_c H (fun u hu => hv3 u hu.drop) (by omega)) ?_
    rintro _ u ⟨⟨b1, rfl, hb1⟩, H⟩
    refine ⟨_, rfl, s_asB (s_ite (fun g1 => s_ret ⟨⟨1, rfl, .rise hn hlg (.inl fun h => ?_)⟩, H.drop⟩) (fun g1 => h_ldS H (by repeat (first | exact pick_head | apply pick_tail | apply pick_app)) rfl ?_))⟩
    · rw [hb1.2 h] at g1; cases g1
    have hr1 : RiseTo t.rd t.rd.length := hb1.1 (by simpa using g1)
    refine s_call (rrises_c H (fun u hu => hv4 u hu.drop) (by omega)) ?_
    rintro _ u ⟨⟨b2, rfl, hb2⟩, H⟩
    refine ⟨_, rfl, s_asB (s_ite (fun g1 => s_ret ⟨⟨1, rfl, .rise hn hlg (.inr fun h => ?_)⟩, H.drop⟩) (fun g1 => s_next ⟨rfl, rfl⟩ ?_))⟩
    · rw [hb2.2 h] at g1; cases g1
    simp (config := { decide := true }) only [if_true, if_false]
    exact ⟨H, hr1, hb2.1 (by simpa using g1)⟩
  clear H
  rintro _ _ W H ⟨hr1, hr2⟩
  refine h_ldS H (by repeat (first | exact pick_head | apply pick_tail | apply pick_app)) rfl ?_
  (refine s_call (rdec_c (bs := t.code) H (fun u hu => hv1 u hu.drop) ht.u rfl ht.code) ?_; rintro _ u ⟨v, c, rfl, ho, H⟩; refine ⟨_, rfl, ?_⟩)
  obtain ⟨ol, capl, rfl⟩ := ho.slice
  refine s_asU (s_req rfl (s_asS (s_asI (s_ite (fun g => s_ret ⟨⟨_, rfl, .code hn hlg hr1 hr2 (by simpa using g)⟩, H.sub (by repeat (first | exact sb_refl | exact sb_nil | refine sb_cons (by repeat (first | exact pick_head | apply pick_tail | apply pick_app)) ?_ | refine sb_app (by repeat (first | exact cut_head | exact cut_all | apply cut_tail | apply cut_app)) ?_ | exact sb_one (by repeat (first | exact cut_head | exact cut_all | apply cut_tail | apply cut_app))))⟩) (fun g => ?_)))))
  have hok : (decP t.code).2 = 0 := by simpa using g
  obtain ⟨hris, hj, hrng, hlen, hbl, hw0, hwe⟩ := dec_facts ht.u hok
  have hidx : ∀ x ∈ (decP t.code).1, badM t x → ChkIs t 132 := fun x hx hb => .idx hn hlg hr1 hr2 hok hx hb
  have hfin : (∀ x ∈ (decP t.code).1, ¬ badM t x) → ChkIs t 0 := fun h => .ok hn hlg hr1 hr2 hok h
  generalize (decP t.code).1 = l at *
  refine s_loop (fun vs W => ∃ i : Nat, vs = [.int .i64 i] ∧ i ≤ l.length ∧ (∀ x ∈ l.take i, ¬ badM t x) ∧ Has w0 W (c ++ (cl n14 51 (txR t o1 o2 o3 o4 c1 c2 c3 c4) :: m))) (fun vs _ => l.length - (intOf (vs.getD 0 undef)).toNat) ⟨0, rfl, by omega, by simp, H⟩ ?_
  clear H
  rintro _ j W ⟨i, rfl, hi, hb, H⟩
  refine s_asI (s_ite (fun g1 => ?_) (fun g1 => s_ret ⟨⟨0, rfl, hfin ?_⟩, H.sub (by repeat (first | exact sb_refl | exact sb_nil | refine sb_cons (by repeat (first | exact pick_head | apply pick_tail | apply pick_app)) ?_ | refine sb_app (by repeat (first | exact cut_head | exact cut_all | apply cut_tail | apply cut_app)) ?_ | exact sb_one (by repeat (first | exact cut_head | exact cut_all | apply cut_tail | apply cut_app))))⟩))
  · simp only [decide_eq_true_eq] at g1
    obtain ⟨x, hx⟩ : ∃ x, l[i]? = some x := ⟨_, List.getElem?_eq_getElem (by omega)⟩
    have hxm := List.mem_of_getElem? hx
    have hgo : ∀ (W : World), ¬ badM t x → Has w0 W (c ++ (cl n14 51 (txR t o1 o2 o3 o4 c1 c2 c3 c4) :: m)) →
        (∃ i' : Nat, [Value.int .i64 (IntKind.wrap .i64 ((i : Int) + 1))] = [.int .i64 (i' : Int)] ∧ i' ≤ l.length ∧ (∀ x ∈ l.take i', ¬ badM t x) ∧ Has w0 W (c ++ (cl n14 51 (txR t o1 o2 o3 o4 c1 c2 c3 c4) :: m))) ∧
        l.length - (intOf ([Value.int .i64 (IntKind.wrap .i64 ((i : Int) + 1))].getD 0 undef)).toNat < l.length - (intOf ([Value.int .i64 (i : Int)].getD 0 undef)).toNat := fun W hnb H => by
      rw [w_succ (by omega)]
      refine ⟨⟨i + 1, rfl, by omega, fun y hy => ?_, H⟩, by simp [intOf]; omega⟩
      rw [take_succ' hx] at hy
      rcases List.mem_append.1 hy with hy | hy
      · exact hb y hy
      · simp at hy
        subst hy
        exact hnb
    refine h_blk (fun y => ∃ k : Int, y = [.int .i64 k] ∧ (k ≤ x.imm ↔ badM t x)) H ?_ ?_
    · obtain ⟨gg, off, rfl, p0, p1, p2, p3, p4⟩ := (insAt_own ho H (by repeat (first | exact cut_head | exact cut_all | apply cut_tail | apply cut_app))).get hx
      refine s_req ⟨by omega, by omega⟩ (s_sm (s_loadI p1 (h_blk (fun y => y = [.bool (decide (x.op = 3 ∨ x.op = 4))]) H ?_ ?_)))
      · refine s_ite (fun g => s_next ⟨rfl, rfl⟩ ?_) (fun g => s_next ⟨rfl, rfl⟩ ?_)
        all_goals
          simp only [if_true]
          simp only [beq_iff_eq, beq_eq_false_iff_ne, ne_eq] at *
          refine ⟨H, ?_⟩
          congr 2
          rw [Bool.eq_iff_iff]
          simp
          omega
      rintro _ _ W H rfl
      refine s_asB (s_ite (fun g => h_ldS H (by repeat (first | exact pick_head | apply pick_tail | apply pick_app)) rfl (s_next ⟨rfl, rfl⟩ ?_)) (fun g => h_blk (fun y => y = [.bool (decide (x.op = 5 ∨ x.op = 6))]) H ?_ ?_))
      · simp (config := { decide := true }) only [if_true, if_false]
        simp only [decide_eq_true_eq] at g
        refine ⟨H, _, rfl, ?_⟩
        unfold badM
        constructor
        · intro h; exact .inl ⟨g, h⟩
        · rintro (h | h | h) <;> omega
      · simp only [decide_eq_false_iff_not] at g
        refine s_ite (fun g => s_next ⟨rfl, rfl⟩ ?_) (fun g => s_next ⟨rfl, rfl⟩ ?_)
        all_goals
          simp (config := { decide := true }) only [if_true, if_false]
          simp only [beq_iff_eq, beq_eq_false_iff_ne, ne_eq] at *
          refine ⟨H, ?_⟩
          congr 2
          rw [Bool.eq_iff_iff]
          simp
          omega
      simp only [decide_eq_false_iff_not] at g
      rintro _ _ W H rfl
      refine s_asB (s_ite (fun g => h_ldS H (by repeat (first | exact pick_head | apply pick_tail | apply pick_app)) rfl (s_next ⟨rfl, rfl⟩ ?_)) (fun g => s_ite (fun g3 => h_ldS H (by repeat (first | exact pick_head | apply pick_tail | apply pick_app)) rfl (s_next ⟨rfl, rfl⟩ ?_)) (fun g3 => s_next ⟨rfl, rfl⟩ ?_)))
      · simp (config := { decide := true }) only [if_true, if_false]
        simp only [decide_eq_true_eq, decide_eq_false_iff_not, beq_iff_eq, beq_eq_false_iff_ne, ne_eq] at *
        refine ⟨H, _, rfl, ?_⟩
        unfold badM
        constructor
        · intro h; omega
        · rintro (h | h | h) <;> omega
      · simp (config := { decide := true }) only [if_true, if_false]
        simp only [decide_eq_true_eq, decide_eq_false_iff_not, beq_iff_eq, beq_eq_false_iff_ne, ne_eq] at *
        refine ⟨H, _, rfl, ?_⟩
        unfold badM
        constructor
        · intro h; omega
        · rintro (h | h | h) <;> omega
      · simp (config := { decide := true }) only [if_true, if_false]
        simp only [decide_eq_true_eq, decide_eq_false_iff_not, beq_iff_eq, beq_eq_false_iff_ne, ne_eq] at *
        refine hgo _ ?_ H
        unfold badM
        omega
    · rintro _ _ W H ⟨k, rfl, hk⟩
      obtain ⟨gg, off, rfl, p0, p1, p2, p3, p4⟩ := (insAt_own ho H (by repeat (first | exact cut_head | exact cut_all | apply cut_tail | apply cut_app))).get hx
      refine s_asI (s_req ⟨by omega, by omega⟩ (s_sm (s_loadI p4 (s_ite (fun g => s_ret ⟨⟨132, rfl, hidx x hxm (hk.1 (by simpa using g))⟩, H.sub (by repeat (first | exact sb_refl | exact sb_nil | refine sb_cons (by repeat (first | exact pick_head | apply pick_tail | apply pick_app)) ?_ | refine sb_app (by repeat (first | exact cut_head | exact cut_all | apply cut_tail | apply cut_app)) ?_ | exact sb_one (by repeat (first | exact cut_head | exact cut_all | apply cut_tail | apply cut_app))))⟩) (fun g => s_next ⟨rfl, rfl⟩ ?_)))))
      simp (config := { decide := true }) only [if_true, if_false]
      refine hgo _ (fun h => ?_) H
      have := hk.2 h
      simp at g
      omega
  · simp only [decide_eq_false_iff_not] at g1
    have : i = l.length := by omega
    subst this
    rwa [List.take_length] at hb

theorem checks_c (ht : TxOk t) (hc1 : t.code.length ≤ c1) (hv1 : BytAt w o1 t.code) (hv3 : KeyAt w o3 t.rd) (hv4 : KeyAt w o4 t.wr) :
    Calls Try.prog 6 #[.agg ⟨txR t o1 o2 o3 o4 c1 c2 c3 c4⟩] w fun e w' => e = .returned (.bool true) ∧ Fr [] w w' := by
  apply c6
  have H := Has.init w
  (refine h_new H fun n14 u H => ?_)
  have H : Has w u (cl n14 51 (txR t o1 o2 o3 o4 c1 c2 c3 c4) :: []) := H
  refine h_drew H fun u H => ?_
  (refine s_call (live_c H) ?_; rintro _ u ⟨rfl, H⟩; refine ⟨_, rfl, ?_⟩)
  refine s_asB (s_chk c_nil (s_true rfl ?_))
  (repeat (first | refine s_asI ?_ | refine s_asS ?_ | refine s_asP ?_ | refine s_asB ?_ | refine s_asA ?_ | refine s_asT ?_ | refine s_asM ?_ | refine s_asU ?_ | refine s_asC ?_ | refine s_sm ?_ | refine s_req (by first | rfl | exact ⟨rfl, rfl⟩) ?_ | refine h_ldI H (by repeat (first | exact pick_head | apply pick_tail | apply pick_app)) (by first | rfl | (simp; done)) ?_ | refine h_ldB H (by repeat (first | exact pick_head | apply pick_tail | apply pick_app)) (by first | rfl | (simp; done)) ?_ | refine h_ldP H (by repeat (first | exact pick_head | apply pick_tail | apply pick_app)) (by first | rfl | (simp; done)) ?_ | refine h_ldS H (by repeat (first | exact pick_head | apply pick_tail | apply pick_app)) (by first | rfl | (simp; done)) ?_ | refine h_ldM H (by repeat (first | exact pick_head | apply pick_tail | apply pick_app)) (by first | rfl | (simp; done)) ?_ | refine h_ldT H (by repeat (first | exact pick_head | apply pick_tail | apply pick_app)) (by first | rfl | (simp; done)) ?_ | refine h_ldV H (by repeat (first | exact pick_head | apply pick_tail | apply pick_app)) (by first | rfl | (simp; done)) ?_ | (refine h_new H fun _ u H => ?_) | (refine h_st H (by repeat (first | exact pick_head | apply pick_tail | apply pick_app)) (by first | (simp; done) | exact Nat.le_of_ble_eq_true rfl) rfl fun u H => ?_) | (refine h_drew H fun u H => ?_) | refine s_chk c_nil ?_))
  refine s_call (check_c H ht hc1 (fun u hu => hu.rows hv1) (fun u hu => hu.rows hv3) (fun u hu => hu.rows hv4)) ?_
  rintro _ u ⟨⟨n, rfl, hn⟩, H⟩
  refine ⟨_, rfl, s_asI (s_chk (by repeat (first | exact c_nil | refine hc_cons H (by repeat (first | exact pick_head | apply pick_tail | apply pick_app)) rfl ?_)) ?_)⟩
  refine s_call (rcheck_c H ht (fun u hu => hu.rows hv1) (fun u hu => hu.rows hv3) (fun u hu => hu.rows hv4)) ?_
  rintro _ u ⟨⟨k, rfl, hk⟩, H⟩
  refine ⟨_, rfl, s_asI (s_chk c_nil (s_ret ⟨?_, H.base⟩))⟩
  rw [hn.uniq hk]
  simp
end
end Go.Proofs.Ytgoecmggbcaoiaa
