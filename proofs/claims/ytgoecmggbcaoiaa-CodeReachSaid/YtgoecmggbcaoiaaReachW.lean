/- What can be reached is closed: the walk. -/
import Derived.Test.YtgoecmggbcaoiaaReachQ
import Derived.Test.YtgoecmggbcaoiaaTreesC
import Derived.Test.YtgoecmggbcaoiaaArgs13
set_option linter.unusedVariables false
set_option linter.unusedSimpArgs false
set_option maxRecDepth 100000
set_option maxHeartbeats 4000000
namespace Go.Proofs.Ytgoecmggbcaoiaa
open Go hiding Expr
open Go.RowKit Tr

section
variable {w w' w0 : World} {m m' c : Hp} {bs : List Int} {o : Option Addr} {cap n p : Nat} {l : List Int} {L : List Ins} {k : Int}

theorem hasi_c (H : Has w0 w m) (hv : ∀ u, Has w0 u m → ValsAt u o l) (hn : n = l.length) (hl : l.length < 9223372036854775807) : Calls Try.prog 19 #[.slice o n cap, .int .i64 k] w fun e w' => e = .returned (.bool (decide (k ∈ l))) ∧ Has w0 w' m := by
  subst hn
  apply c19
  have hi : Calls Try.prog 48 #[.slice o l.length cap, .int .i64 k] w fun e w' => (∃ i : Int, e = .returned (.int .i64 i) ∧ (i ≥ 0 ↔ k ∈ l)) ∧ Has w0 w' m := by
    apply c48
    refine s_loop (fun vs W => ∃ i : Nat, vs = [.int .i64 i] ∧ i ≤ l.length ∧ k ∉ l.take i ∧ Has w0 W m) (fun vs _ => l.length - (intOf (vs.getD 0 undef)).toNat) ⟨0, rfl, by omega, by simp, H⟩ ?_
    rintro _ j W ⟨i, rfl, hi, hb, H⟩
    refine s_asI (s_ite (fun g => ?_) (fun g => s_ret ⟨⟨-1, rfl, ?_⟩, H⟩))
    · simp only [decide_eq_true_eq] at g
      obtain ⟨x, hx⟩ : ∃ x, l[i]? = some x := ⟨_, List.getElem?_eq_getElem (by omega)⟩
      obtain ⟨gg, off, rfl, p0⟩ := (hv W H).get hx
      refine s_req ⟨by omega, by omega⟩ (s_sm (s_loadI p0 (s_ite (fun g2 => s_ret ⟨⟨i, rfl, ?_⟩, H⟩) (fun g2 => s_next ⟨rfl, rfl⟩ ?_))))
      · have : k ∈ l := by
          have : k = x := by simpa using g2
          subst this
          exact List.mem_of_getElem? hx
        simp [this]
      · simp only [if_true]
        rw [w_succ (by omega)]
        refine ⟨⟨i + 1, rfl, by omega, ?_, H⟩, by simp [intOf]; omega⟩
        rw [take_succ' hx]
        simp at g2
        simp [hb, g2]
    · simp only [decide_eq_false_iff_not] at g
      have hil : i = l.length := by omega
      subst hil
      rw [List.take_length] at hb
      simp [hb]
  refine s_call hi ?_
  rintro _ u ⟨⟨i, rfl, hi⟩, H⟩
  refine ⟨_, rfl, s_asI (s_ret ⟨?_, H⟩)⟩
  congr 2
  rw [Bool.eq_iff_iff]
  simp only [decide_eq_true_eq]
  exact hi

theorem hasf_c {ty : TypeId} (H : Has w0 w m) (hk : ∀ u, Has w0 u m → Cells u p ty [.int .i64 k]) (hv : ∀ u, Has w0 u m → InsAt u o L) (hn : n = L.length) (hl : L.length < 9223372036854775807) :
    Calls Try.prog 20 #[.slice o n cap, .func (.func 21) #[] #[.pointer (some ⟨p, 0, none⟩)]] w fun e w' => e = .returned (.bool (beginsP L k)) ∧ Has w0 w' m := by
  subst hn
  apply c20
  have hi : Calls Try.prog 49 #[.slice o L.length cap, .func (.func 21) #[] #[.pointer (some ⟨p, 0, none⟩)]] w fun e w' => (∃ i : Int, e = .returned (.int .i64 i) ∧ (i ≥ 0 ↔ beginsP L k = true)) ∧ Has w0 w' m := by
    apply c49
    refine s_loop (fun vs W => ∃ i : Nat, vs = [.int .i64 i] ∧ i ≤ L.length ∧ beginsP (L.take i) k = false ∧ Has w0 W m) (fun vs _ => L.length - (intOf (vs.getD 0 undef)).toNat) ⟨0, rfl, by omega, rfl, H⟩ ?_
    rintro _ j W ⟨i, rfl, hi, hb, H⟩
    refine s_asI (s_ite (fun g => ?_) (fun g => s_ret ⟨⟨-1, rfl, ?_⟩, H⟩))
    · simp only [decide_eq_true_eq] at g
      obtain ⟨x, hx⟩ : ∃ x, L[i]? = some x := ⟨_, List.getElem?_eq_getElem (by omega)⟩
      obtain ⟨gg, off, rfl, p0, p1, p2, p3, p4⟩ := (hv W H).get hx
      refine s_req ⟨by omega, by omega⟩ (s_sm (s_loadI p0 (s_loadI p1 (s_loadI p2 (s_loadI p3 (s_loadI p4 ?_))))))
      have hcl : Calls Try.prog 21 #[insV x, .pointer (some ⟨p, 0, none⟩)] W fun e w' => e = .returned (.bool (x.at_ == k)) ∧ Has w0 w' m := by
        apply c21
        (refine h_new H fun n7 u H => ?_)
        refine h_ldI H (by repeat (first | exact pick_head | apply pick_tail | apply pick_app)) rfl (s_ldI (hk u H.drop) rfl (s_ret ⟨rfl, H.drop⟩))
      refine s_call hcl ?_
      rintro _ u ⟨rfl, H⟩
      refine ⟨_, rfl, s_asB (s_ite (fun g2 => s_ret ⟨⟨i, rfl, ?_⟩, H⟩) (fun g2 => s_next ⟨rfl, rfl⟩ ?_))⟩
      · have : beginsP L k = true := by
          unfold beginsP
          rw [List.any_eq_true]
          exact ⟨x, List.mem_of_getElem? hx, g2⟩
        simp [this]
      · simp only [if_true]
        rw [w_succ (by omega)]
        refine ⟨⟨i + 1, rfl, by omega, ?_, H⟩, by simp [intOf]; omega⟩
        rw [take_succ' hx, begins_cat, hb, g2]
        rfl
    · simp only [decide_eq_false_iff_not] at g
      have hil : i = L.length := by omega
      subst hil
      rw [List.take_length] at hb
      simp [hb]
  refine s_call hi ?_
  rintro _ u ⟨⟨i, rfl, hi⟩, H⟩
  refine ⟨_, rfl, s_asI (s_ret ⟨?_, H⟩)⟩
  congr 2
  rw [Bool.eq_iff_iff]
  simp only [decide_eq_true_eq]
  exact hi

theorem out_len {l : List Ins} {seen : List Bool} : (outP l seen).length ≤ l.length := by
  unfold outP
  rw [List.length_map]
  refine Nat.le_trans (List.length_filter_le _ _) ?_
  rw [List.length_zip]
  omega

theorem reaches_c (h : BytAt w o bs) (hu : ∀ x ∈ bs, 0 ≤ x ∧ x ≤ 255) (hc : bs.length ≤ cap) (hl : bs.length ≤ 140737488355328) : Calls Try.prog 5 #[.slice o bs.length cap] w fun e w' => e = .returned (.bool true) ∧ Fr [] w w' := by
  apply c5
  have H := Has.init w
  (refine s_call (dec_c (bs := bs) H (fun u hu => hu.rows h) hu hc rfl hl) ?_; rintro _ u ⟨v, c, rfl, ho, H⟩; refine ⟨_, rfl, ?_⟩)
  obtain ⟨ol, capl, rfl⟩ := ho.slice
  refine s_asU (s_req rfl (s_asS (s_asI ?_)))
  (refine s_call (reach_c (bs := bs) H (fun u hu => hu.rows h) hu hc rfl hl) ?_; rintro _ u ⟨v2, c2, out, rfl, hr, ho2, H⟩; refine ⟨_, rfl, ?_⟩)
  obtain ⟨oo, capo, rfl⟩ := ho2.slice
  refine s_asS (h_blk (fun x => ∃ b, x = [.bool b] ∧ (b = true ↔ ((decP bs).2 ≠ 0 ∨ (decP bs).1.length = 0))) H ?_ ?_)
  · refine s_ite (fun g => s_next ⟨rfl, rfl⟩ ?_) (fun g => s_ite (fun g1 => s_next ⟨rfl, rfl⟩ ?_) (fun g1 => ?_))
    · simp only [if_true]
      refine ⟨H, true, rfl, ?_⟩
      simp at g
      simp [g]
    · simp only [if_true]
      refine ⟨H, true, rfl, ?_⟩
      have g1 : ((decP bs).1.length : Int) = 0 := by simpa only [beq_iff_eq] using g1
      simp only [true_iff]
      right
      omega
    · (refine s_call (live_c H) ?_; rintro _ u ⟨rfl, H⟩; refine ⟨_, rfl, ?_⟩)
      refine s_asB (s_next ⟨rfl, rfl⟩ ?_)
      simp only [if_true]
      refine ⟨H, false, rfl, ?_⟩
      have g1 : ((decP bs).1.length : Int) ≠ 0 := by simpa only [beq_eq_false_iff_ne] using g1
      simp at g
      simp only [Bool.false_eq_true, false_iff]
      omega
  clear H
  rintro _ _ W H ⟨b, rfl, hb⟩
  refine s_asB (s_ite (fun g => ?_) (fun g => ?_))
  · have hb := hb.1 g
    have : out = [] := by unfold IsReach at hr; rw [if_pos hb] at hr; exact hr
    subst this
    (refine s_call (live_c H) ?_; rintro _ u ⟨rfl, H⟩; refine ⟨_, rfl, ?_⟩)
    exact s_asB (s_true rfl (s_ret ⟨by simp, H.base⟩))
  have hnb : ¬ ((decP bs).2 ≠ 0 ∨ (decP bs).1.length = 0) := fun h => by rw [hb.2 h] at g; cases g
  have hok : (decP bs).2 = 0 := by omega
  obtain ⟨hris, hj, hrng, hlen, hbl, hw0, hwe⟩ := dec_facts hu hok
  have hcl := closed_of hu hok (by omega) hr hris hw0 hwe (fun x hx => jump_has hj hx)
  have hat : ∀ x ∈ (decP bs).1, 0 ≤ x.at_ ∧ x.at_ < bs.length := by
    rw [hwe]
    intro x hx
    have := walk_mem (bs := bs) (at_ := 0) (by omega) x hx
    omega
  have holen : out.length ≤ 512 := by
    unfold IsReach at hr
    rw [if_neg hnb] at hr
    obtain ⟨seen, _, _, rfl⟩ := hr
    have := out_len (l := (decP bs).1) (seen := seen)
    omega
  generalize (decP bs).1 = L at *
  have hnil : out.length ≠ 0 := by
    have := (List.getElem?_eq_some_iff.1 hcl.first).1
    omega
  refine h_blk (fun _ => True) H ?_ ?_
  · refine s_false (by simpa using hnil) (s_req ⟨by decide, by omega⟩ ?_)
    obtain ⟨gg, off, rfl, p0⟩ := (valsAt_own ho2 H (by repeat (first | exact cut_head | exact cut_all | apply cut_tail | apply cut_app))).get hcl.first
    refine s_sm (s_loadI (by simpa using p0) (s_false rfl (s_next ⟨rfl, rfl⟩ ?_)))
    simp only [if_true]
    exact ⟨H, trivial⟩
  clear H
  rintro _ _ W H _
  refine s_loop (fun vs W => ∃ i : Nat, vs = [.int .i64 i] ∧ i ≤ L.length ∧ Has w W (c2 ++ (c ++ []))) (fun vs _ => L.length - (intOf (vs.getD 0 undef)).toNat) ⟨0, rfl, by omega, H⟩ ?_
  clear H
  rintro _ j W ⟨i, rfl, hi, H⟩
  refine s_asI (s_ite (fun g => ?_) (fun g => ?_))
  · simp only [decide_eq_true_eq] at g
    obtain ⟨x, hx⟩ : ∃ x, L[i]? = some x := ⟨_, List.getElem?_eq_getElem (by omega)⟩
    have hxm := List.mem_of_getElem? hx
    obtain ⟨gg, off, rfl, p0, p1, p2, p3, p4⟩ := (insAt_own ho H (by repeat (first | exact cut_head | exact cut_all | apply cut_tail | apply cut_app))).get hx
    refine s_req ⟨by omega, by omega⟩ (s_sm (s_loadI p0 (s_loadI p1 (s_loadI p2 (s_loadI p3 (s_loadI p4 ?_))))))
    (refine h_new H fun n30 u H => ?_)
    iterate 5 refine h_st H (by repeat (first | exact pick_head | apply pick_tail | apply pick_app)) (by first | (simp; done) | exact Nat.le_of_ble_eq_true rfl) rfl fun u H => ?_
    have H : Has w u (cl n30 40 (insR x) :: (c2 ++ (c ++ []))) := H
    have hgo : ∀ (u : World), Has w u (cl n30 40 (insR x) :: (c2 ++ (c ++ []))) → (∃ i' : Nat, [Value.int .i64 (IntKind.wrap .i64 ((i : Int) + 1))] = [.int .i64 (i' : Int)] ∧ i' ≤ L.length ∧ Has w u (c2 ++ (c ++ []))) ∧
        L.length - (intOf ([Value.int .i64 (IntKind.wrap .i64 ((i : Int) + 1))].getD 0 undef)).toNat < L.length - (intOf ([Value.int .i64 (i : Int)].getD 0 undef)).toNat := fun u H => by
      rw [w_succ (by omega)]
      exact ⟨⟨i + 1, rfl, by omega, H.drop⟩, by simp [intOf]; omega⟩
    refine h_ldI H (by repeat (first | exact pick_head | apply pick_tail | apply pick_app)) rfl ?_
    (refine s_call (hasi_c (k := x.at_) H (fun u hu => valsAt_own ho2 hu (by repeat (first | exact cut_head | exact cut_all | apply cut_tail | apply cut_app))) rfl (by omega)) ?_; rintro _ u ⟨rfl, H⟩; refine ⟨_, rfl, ?_⟩)
    refine s_asB (s_ite (fun g1 => s_next ⟨rfl, rfl⟩ ?_) (fun g1 => h_ldI H (by repeat (first | exact pick_head | apply pick_tail | apply pick_app)) rfl ?_))
    · simp (config := { decide := true }) only [if_true, if_false]
      exact hgo u H
    have hin : x.at_ ∈ out := by simpa using g1
    (refine s_call (size_c (op := x.op) H) ?_; rintro _ u ⟨rfl, H⟩; refine ⟨_, rfl, ?_⟩)
    have hs4 := szP_le x.op
    have hax := hat x hxm
    refine s_asU (s_req rfl (s_asI (s_asB (h_blk (fun y => y = [.bool (goesP x.op)]) H ?_ ?_))))
    · refine h_ldI H (by repeat (first | exact pick_head | apply pick_tail | apply pick_app)) rfl (s_ite (fun g3 => h_ldI H (by repeat (first | exact pick_head | apply pick_tail | apply pick_app)) rfl (s_ite (fun g4 => h_ldI H (by repeat (first | exact pick_head | apply pick_tail | apply pick_app)) rfl (s_next ⟨rfl, rfl⟩ ?_)) (fun g4 => s_next ⟨rfl, rfl⟩ ?_))) (fun g3 => s_next ⟨rfl, rfl⟩ ?_))
      all_goals
        simp only [if_true]
        refine ⟨H, ?_⟩
        unfold goesP
      · rw [g3, g4]; rfl
      · rw [g3, g4]; rfl
      · rw [g3]; rfl
    rintro _ _ W H rfl
    refine s_asB (h_blk (fun _ => True) H ?_ ?_)
    · refine s_ite (fun g2 => h_ldI H (by repeat (first | exact pick_head | apply pick_tail | apply pick_app)) rfl ?_) (fun g2 => s_next ⟨rfl, rfl⟩ ?_)
      · rw [wrapI (n := x.at_ + szP x.op) (by omega) (by omega)]
        refine s_ite (fun g3 => h_ldI H (by repeat (first | exact pick_head | apply pick_tail | apply pick_app)) rfl ?_) (fun g3 => s_next ⟨rfl, rfl⟩ ?_)
        · simp only [decide_eq_true_eq] at g3
          rw [wrapI (n := x.at_ + szP x.op) (by omega) (by omega)]
          (refine s_call (hasi_c (k := x.at_ + szP x.op) H (fun u hu => valsAt_own ho2 hu (by repeat (first | exact cut_head | exact cut_all | apply cut_tail | apply cut_app))) rfl (by omega)) ?_; rintro _ u ⟨rfl, H⟩; refine ⟨_, rfl, ?_⟩)
          have := hcl.next x hxm hin g2 g3
          refine s_asB (s_false (by simp [this]) (s_next ⟨rfl, rfl⟩ ?_))
          simp only [if_true]
          exact ⟨H, trivial⟩
        · simp only [if_true]
          exact ⟨H, trivial⟩
      · simp only [if_true]
        exact ⟨H, trivial⟩
    rintro _ _ W H _
    refine h_ldI H (by repeat (first | exact pick_head | apply pick_tail | apply pick_app)) rfl (s_ite (fun g2 => h_ldI H (by repeat (first | exact pick_head | apply pick_tail | apply pick_app)) rfl ?_) (fun g2 => h_ldI H (by repeat (first | exact pick_head | apply pick_tail | apply pick_app)) rfl (s_ite (fun g3 => h_ldI H (by repeat (first | exact pick_head | apply pick_tail | apply pick_app)) rfl ?_) (fun g3 => s_next ⟨rfl, rfl⟩ ?_))))
    · (refine s_call (hasi_c (k := x.imm) H (fun u hu => valsAt_own ho2 hu (by repeat (first | exact cut_head | exact cut_all | apply cut_tail | apply cut_app))) rfl (by omega)) ?_; rintro _ u ⟨rfl, H⟩; refine ⟨_, rfl, ?_⟩)
      have := hcl.jump x hxm hin (by unfold jumpP; rw [g2]; rfl)
      refine s_asB (s_false (by simp [this]) (s_next ⟨rfl, rfl⟩ ?_))
      simp (config := { decide := true }) only [if_true, if_false]
      exact hgo _ H
    · (refine s_call (hasi_c (k := x.imm) H (fun u hu => valsAt_own ho2 hu (by repeat (first | exact cut_head | exact cut_all | apply cut_tail | apply cut_app))) rfl (by omega)) ?_; rintro _ u ⟨rfl, H⟩; refine ⟨_, rfl, ?_⟩)
      have := hcl.jump x hxm hin (by unfold jumpP; rw [g2, g3]; rfl)
      refine s_asB (s_false (by simp [this]) (s_next ⟨rfl, rfl⟩ ?_))
      simp (config := { decide := true }) only [if_true, if_false]
      exact hgo _ H
    · simp (config := { decide := true }) only [if_true, if_false]
      exact hgo _ H
  · refine s_loop (fun vs W => ∃ i : Nat, vs = [.int .i64 i] ∧ i ≤ out.length ∧ Has w W (c2 ++ (c ++ []))) (fun vs _ => out.length - (intOf (vs.getD 0 undef)).toNat) ⟨0, rfl, by omega, H⟩ ?_
    clear H
    rintro _ j W ⟨i, rfl, hi, H⟩
    refine s_asI (s_ite (fun g => ?_) (fun g => s_ret ⟨rfl, H.base⟩))
    simp only [decide_eq_true_eq] at g
    obtain ⟨x, hx⟩ : ∃ x, out[i]? = some x := ⟨_, List.getElem?_eq_getElem (by omega)⟩
    have hxm := hcl.mem x (List.mem_of_getElem? hx)
    obtain ⟨gg, off, rfl, p0⟩ := (valsAt_own ho2 H (by repeat (first | exact cut_head | exact cut_all | apply cut_tail | apply cut_app))).get hx
    refine s_req ⟨by omega, by omega⟩ (s_sm (s_loadI p0 ?_))
    (refine h_new H fun n65 u H => ?_)
    refine h_st H (by repeat (first | exact pick_head | apply pick_tail | apply pick_app)) (by simp) rfl fun u H => h_drew H fun u H => ?_
    have H : Has w u (cl n65 3 [.int .i64 x] :: (c2 ++ (c ++ []))) := H
    have hgo : ∀ (u : World), Has w u (cl n65 3 [.int .i64 x] :: (c2 ++ (c ++ []))) → (∃ i' : Nat, [Value.int .i64 (IntKind.wrap .i64 ((i : Int) + 1))] = [.int .i64 (i' : Int)] ∧ i' ≤ out.length ∧ Has w u (c2 ++ (c ++ []))) ∧
        out.length - (intOf ([Value.int .i64 (IntKind.wrap .i64 ((i : Int) + 1))].getD 0 undef)).toNat < out.length - (intOf ([Value.int .i64 (i : Int)].getD 0 undef)).toNat := fun u H => by
      rw [w_succ (by omega)]
      exact ⟨⟨i + 1, rfl, by omega, H.drop⟩, by simp [intOf]; omega⟩
    refine s_ite (fun g1 => h_ldI H (by repeat (first | exact pick_head | apply pick_tail | apply pick_app)) rfl ?_) (fun g1 => ?_)
    · simp only [decide_eq_true_eq] at g1
      obtain ⟨k, rfl⟩ : ∃ k, i = k + 1 := ⟨i - 1, by omega⟩
      obtain ⟨y, hy⟩ : ∃ y, out[k]? = some y := ⟨_, List.getElem?_eq_getElem (by omega)⟩
      have hlt : y < x := by
        obtain ⟨h1, rfl⟩ := List.getElem?_eq_some_iff.1 hy
        obtain ⟨h2, rfl⟩ := List.getElem?_eq_some_iff.1 hx
        exact List.pairwise_iff_getElem.1 hcl.rise k (k + 1) h1 h2 (by omega)
      rw [show (((k + 1 : Nat) : Int) - 1) = (k : Int) by omega, wrapI (n := (k : Int)) (by omega) (by omega)]
      have hva := valsAt_own ho2 H (by repeat (first | exact cut_head | exact cut_all | apply cut_tail | apply cut_app))
      obtain ⟨gg2, off2, he, q0⟩ := hva.get hy
      refine s_req ⟨by omega, by omega⟩ ⟨gg2, off2, he, s_loadI q0 (s_false (by simpa using hlt) ?_)⟩
      (refine s_call (hasf_c (p := n65) (ty := 3) (k := x) H (fun u hu => hu.cells (by repeat (first | exact pick_head | apply pick_tail | apply pick_app))) (fun u hu => insAt_own ho hu (by repeat (first | exact cut_head | exact cut_all | apply cut_tail | apply cut_app))) rfl (by omega)) ?_; rintro _ u ⟨rfl, H⟩; refine ⟨_, rfl, ?_⟩)
      obtain ⟨gg3, off3, he3, q3⟩ := (valsAt_own ho2 H (by repeat (first | exact cut_head | exact cut_all | apply cut_tail | apply cut_app))).get hy
      rw [he] at he3
      obtain ⟨rfl, rfl⟩ : gg2 = gg3 ∧ off2 = off3 := by simpa using he3
      refine s_asB (s_chk ⟨q3, hc_cons H (by repeat (first | exact pick_head | apply pick_tail | apply pick_app)) rfl c_nil⟩ (s_false (by simp [hxm]) (s_next ⟨rfl, rfl⟩ ?_)))
      simp (config := { decide := true }) only [if_true, if_false]
      exact hgo _ H
    · (refine s_call (hasf_c (p := n65) (ty := 3) (k := x) H (fun u hu => hu.cells (by repeat (first | exact pick_head | apply pick_tail | apply pick_app))) (fun u hu => insAt_own ho hu (by repeat (first | exact cut_head | exact cut_all | apply cut_tail | apply cut_app))) rfl (by omega)) ?_; rintro _ u ⟨rfl, H⟩; refine ⟨_, rfl, ?_⟩)
      refine s_asB (s_chk c_nil (s_false (by simp [hxm]) (s_next ⟨rfl, rfl⟩ ?_)))
      simp (config := { decide := true }) only [if_true, if_false]
      exact hgo _ H
end
end Go.Proofs.Ytgoecmggbcaoiaa
