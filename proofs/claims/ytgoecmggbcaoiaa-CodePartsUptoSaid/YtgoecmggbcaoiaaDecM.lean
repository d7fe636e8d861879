/- All instructions: the program and the reference. -/
import Derived.Test.YtgoecmggbcaoiaaDec1
import Derived.Test.YtgoecmggbcaoiaaWalkP
set_option linter.unusedVariables false
set_option linter.unusedSimpArgs false
set_option maxRecDepth 100000
set_option maxHeartbeats 4000000
namespace Go.Proofs.Ytgoecmggbcaoiaa
open Go hiding Expr
open Go.RowKit Tr

theorem s_call2p {P : Program} {Q : Ending → World → Prop} {ρ : Lv} {w : World} {f : FuncId} {args : List Value} {k kp : Value → T} {R : Ending → World → Prop} (h : Calls P f ⟨args⟩ w R)
    (hk : ∀ e w', R e w' → (∃ v, e = .returned v ∧ (k v).sem P Q ρ w') ∨ (∃ v, e = .panicked [{ v, recovered := false }] ∧ (kp v).sem P Q ρ w')) : (T.call2 f args k kp).sem P Q ρ w := h.mono hk
theorem s_dcall {P : Program} {Q : Ending → World → Prop} {ρ : Lv} {w : World} {f : FuncId} {args : List Value} {md : Option Value} {x y : T} {R : Ending → FrameMode → World → Prop} (h : CallsDIn (FF none) 0 P f ⟨args⟩ (modeOf md) w R)
    (hk : ∀ e u w', R e u w' → ∃ v, e = .returned v ∧ settle u = .returning ∧ x.sem P Q ρ w') : (T.dcall f args md x y).sem P Q ρ w :=
  CallsDIn.mono h fun e u w' hR => by
    obtain ⟨v, h1, h2, h3⟩ := hk e u w' hR
    exact ⟨v, h1, .inl ⟨h2, h3⟩⟩

section
variable {w w' w0 : World} {m m' c : Hp} {bs : List Int} {o o2 : Option Addr} {cap cap2 n n2 : Nat} {at_ : Int} {l : List Ins} {x : Ins}

theorem must_0 (H : Has w0 w m) : Calls Try.prog 45 #[.int .i64 0] w fun e w' => e = .returned (.tuple #[]) ∧ Has w0 w' m := by
  apply c45
  exact s_false rfl (s_ret ⟨rfl, H⟩)
theorem must_ne (H : Has w0 w m) {k : Int} (hk : k ≠ 0) : Calls Try.prog 45 #[.int .i64 k] w fun e w' => e = .panicked [{ v := .iface 85 (.agg #[.int .i64 k]), recovered := false }] ∧ Has w0 w' m := by
  apply c45
  exact s_true (by simpa using hk) ⟨rfl, H⟩

theorem insAdd {Q : Ending → World → Prop} {ρ : Lv} {k : Value → T} {L : List Ins} {r : Nat} {y : Ins} {m1 : Hp} (H : Has w0 w m) (hp : Cut c m m') (ho : OwnC 40 5 (.slice o L.length cap) L.length (encI L) c) (hr : Pick (cl r 40 (insR y)) m m1) (hl : (L.length + 1) * 40 ≤ 140737488355328)
    (hk : ∀ o' cap' c' w', OwnC 40 5 (.slice o' (L ++ [y]).length cap') (L ++ [y]).length (encI (L ++ [y])) c' → Has w0 w' (c' ++ m') → (k (.slice o' (L ++ [y]).length cap')).sem Try.prog Q ρ w') :
    (T.run (biV .append #[22, 22] 22 #[.slice o L.length cap, .slice (some ⟨r, 0, none⟩) 1 1]) k).sem Try.prog Q ρ w :=
  h_app1 elemI H hp ho hr rfl (by simp [insR, Value.oneCell']) (by omega) (by omega) fun v' c' w' ho' H => by
    obtain ⟨o', cap', rfl⟩ := ho'.slice
    have hlen : (L ++ [y]).length = L.length + 1 := by simp
    have := hk o' cap' c' w'
    rw [hlen, encI_append, show encI [y] = insR y by simp [encI]] at this
    exact this ho' H

theorem all_c (H : Has w0 w m) (hb : ∀ u, Has w0 u m → BytAt u o bs) (hu : ∀ x ∈ bs, 0 ≤ x ∧ x ≤ 255) (hc : bs.length ≤ cap) (hn : n = bs.length) (hl : bs.length ≤ 1048576) : Calls Try.prog 43 #[.slice o n cap] w fun e w' =>
    ((walkP bs).2 = 0 ∧ ∃ v c, e = .returned v ∧ OwnC 40 5 v (walkP bs).1.length (encI (walkP bs).1) c ∧ Has w0 w' (c ++ m)) ∨
    ((walkP bs).2 ≠ 0 ∧ e = .panicked [{ v := .iface 85 (.agg #[.int .i64 (walkP bs).2]), recovered := false }] ∧ Has w0 w' m) := by
  subst hn
  apply c43
  refine s_loop (fun vs W => ∃ (a : Int) (pre : List Ins) (v : Value) (c : Hp), vs = [v, .int .i64 a] ∧ 0 ≤ a ∧ a ≤ bs.length ∧ (pre.length : Int) ≤ a ∧ walkP bs = (pre ++ (walkA bs a).1, (walkA bs a).2) ∧ OwnC 40 5 v pre.length (encI pre) c ∧ Has w0 W (c ++ m))
    (fun vs _ => bs.length - (intOf (vs.getD 1 undef)).toNat) ⟨0, [], _, [], rfl, by omega, by omega, by simp, rfl, OwnC.nil, H⟩ ?_
  rintro _ j W ⟨a, pre, v, c, rfl, h0, h1, h2, h3, ho, H⟩
  obtain ⟨ov, capv, rfl⟩ := ho.slice
  refine s_asS (s_asI (s_ite (fun g => ?_) (fun g => s_ret ?_)))
  · simp only [decide_eq_true_eq] at g
    (refine s_call (one_c (at_ := a) H (fun u hu => hb u (hu.sub (by repeat (first | exact sb_refl | exact sb_nil | refine sb_cons (by repeat (first | exact pick_head | apply pick_tail | apply pick_app)) ?_ | refine sb_app (by repeat (first | exact cut_head | exact cut_all | apply cut_tail | apply cut_app)) ?_ | exact sb_one (by repeat (first | exact cut_head | exact cut_all | apply cut_tail | apply cut_app)))))) hu hc (by omega)) ?_; rintro _ u ⟨rfl, H⟩; refine ⟨_, rfl, ?_⟩)
    refine s_asU (s_req rfl (s_asA (s_req rfl (s_asI (s_asI (s_asI (s_asI (s_asI (s_asI (s_asI ?_))))))))))
    (refine h_new H fun n19 u H => ?_)
    iterate 5 refine h_st H (by repeat (first | exact pick_head | apply pick_tail | apply pick_app)) (by first | (simp; done) | exact Nat.le_of_ble_eq_true rfl) rfl fun u H => ?_
    have H : Has w0 u (cl n19 40 (insR (oneP bs a).1) :: (c ++ m)) := H
    by_cases he : (oneP bs a).2.2 = 0
    · rw [he]
      refine s_call2p (must_0 H) ?_
      rintro _ u ⟨rfl, H⟩
      refine .inl ⟨_, rfl, ?_⟩
      iterate 5 refine h_ldI H (by repeat (first | exact pick_head | apply pick_tail | apply pick_app)) rfl ?_
      (refine h_new H fun n26 u H => ?_)
      have hnx := oneP_next he
      refine insAdd (y := (oneP bs a).1) H (c := c) (m' := cl n26 40 (insR (oneP bs a).1) :: cl n19 40 (insR (oneP bs a).1) :: m) (by repeat (first | exact cut_head | exact cut_all | apply cut_tail | apply cut_app)) ho (by repeat (first | exact pick_head | apply pick_tail | apply pick_app)) (by omega) fun o' cap' c' u ho' H => s_asS (s_next ⟨rfl, rfl⟩ ?_)
      simp only [if_true]
      refine ⟨⟨_, pre ++ [(oneP bs a).1], _, c', rfl, by omega, by omega, by simp; omega, ?_, ho', H.sub (by repeat (first | exact sb_refl | exact sb_nil | refine sb_cons (by repeat (first | exact pick_head | apply pick_tail | apply pick_app)) ?_ | refine sb_app (by repeat (first | exact cut_head | exact cut_all | apply cut_tail | apply cut_app)) ?_ | exact sb_one (by repeat (first | exact cut_head | exact cut_all | apply cut_tail | apply cut_app))))⟩, by simp [intOf]; omega⟩
      rw [h3, walkA_ok g h0 he]
      simp
    · refine s_call2p (must_ne H he) ?_
      rintro _ u ⟨rfl, H⟩
      refine .inr ⟨_, rfl, .inr ?_⟩
      have hw : (walkP bs).2 = (oneP bs a).2.2 := by rw [h3, walkA_bad g h0 he]
      rw [hw]
      exact ⟨he, rfl, H.sub (by repeat (first | exact sb_refl | exact sb_nil | refine sb_cons (by repeat (first | exact pick_head | apply pick_tail | apply pick_app)) ?_ | refine sb_app (by repeat (first | exact cut_head | exact cut_all | apply cut_tail | apply cut_app)) ?_ | exact sb_one (by repeat (first | exact cut_head | exact cut_all | apply cut_tail | apply cut_app))))⟩
  · simp only [decide_eq_false_iff_not] at g
    rw [walkA_end (by omega), List.append_nil] at h3
    left
    rw [h3]
    exact ⟨rfl, _, c, rfl, ho, H⟩

abbrev kI (n : Int) : Value := .int .i64 n
theorem keyed2 : Maps.Keyed Try.prog 2 := Maps.int_keyed Try.underlying2
theorem kI_inj {β : Type} (a : Int) (D : List (Int × β)) : ∀ p ∈ D, kI p.1 = kI a → p.1 = a := by
  intro p _ h
  simpa [kI] using h
def inI (n : Int) : Prop := -9223372036854775808 ≤ n ∧ n ≤ 9223372036854775807
theorem keyI {a : Int} (h : inI a) : ∃ l, keyOf Try.prog 2 (kI a) = some l := by
  obtain ⟨h1, h2⟩ := h
  exact ⟨_, Maps.keyOf_int_mk Try.underlying2 (by simp [Lit.wf, IntKind.min, IntKind.max, IntKind.signed, IntKind.bits]; omega)⟩
theorem begins_cat (a : List Ins) (x : Ins) (n : Int) : beginsP (a ++ [x]) n = (beginsP a n || (x.at_ == n)) := by simp [beginsP]

theorem dec_c (H : Has w0 w m) (hb : ∀ u, Has w0 u m → BytAt u o bs) (hu : ∀ x ∈ bs, 0 ≤ x ∧ x ≤ 255) (hc : bs.length ≤ cap) (hn : n = bs.length) (hl : bs.length ≤ 140737488355328) : Calls Try.prog 16 #[.slice o n cap] w fun e w' =>
    ∃ v c, e = .returned (.tuple #[v, .int .i64 (decP bs).2]) ∧ OwnC 40 5 v (decP bs).1.length (encI (decP bs).1) c ∧ Has w0 w' (c ++ m) := by
  subst hn
  apply c16
  (refine h_new H fun n3 u H => ?_)
  (refine h_new H fun n4 u H => ?_)
  unfold decP
  refine s_ite (fun g => ?_) (fun g => ?_)
  · simp only [decide_eq_true_eq] at g
    rw [if_pos (by omega)]
    (repeat (first | refine s_asI ?_ | refine s_asS ?_ | refine s_asP ?_ | refine s_asB ?_ | refine s_asA ?_ | refine s_asT ?_ | refine s_asM ?_ | refine s_asU ?_ | refine s_asC ?_ | refine s_sm ?_ | refine s_req (by first | rfl | exact ⟨rfl, rfl⟩) ?_ | refine h_ldI H (by repeat (first | exact pick_head | apply pick_tail | apply pick_app)) (by first | rfl | (simp; done)) ?_ | refine h_ldB H (by repeat (first | exact pick_head | apply pick_tail | apply pick_app)) (by first | rfl | (simp; done)) ?_ | refine h_ldP H (by repeat (first | exact pick_head | apply pick_tail | apply pick_app)) (by first | rfl | (simp; done)) ?_ | refine h_ldS H (by repeat (first | exact pick_head | apply pick_tail | apply pick_app)) (by first | rfl | (simp; done)) ?_ | refine h_ldM H (by repeat (first | exact pick_head | apply pick_tail | apply pick_app)) (by first | rfl | (simp; done)) ?_ | refine h_ldT H (by repeat (first | exact pick_head | apply pick_tail | apply pick_app)) (by first | rfl | (simp; done)) ?_ | refine h_ldV H (by repeat (first | exact pick_head | apply pick_tail | apply pick_app)) (by first | rfl | (simp; done)) ?_ | (refine h_new H fun _ u H => ?_) | (refine h_st H (by repeat (first | exact pick_head | apply pick_tail | apply pick_app)) (by first | (simp; done) | exact Nat.le_of_ble_eq_true rfl) rfl fun u H => ?_) | (refine h_drew H fun u H => ?_) | refine s_chk c_nil ?_))
    exact s_ret ⟨_, [], rfl, OwnC.nil, H.sub (by repeat (first | exact sb_refl | exact sb_nil | refine sb_cons (by repeat (first | exact pick_head | apply pick_tail | apply pick_app)) ?_ | refine sb_app (by repeat (first | exact cut_head | exact cut_all | apply cut_tail | apply cut_app)) ?_ | exact sb_one (by repeat (first | exact cut_head | exact cut_all | apply cut_tail | apply cut_app))))⟩
  simp only [decide_eq_false_iff_not] at g
  rw [if_neg (by omega)]
  refine s_call2p (all_c H (fun u hu => hb u (hu.sub (by repeat (first | exact sb_refl | exact sb_nil | refine sb_cons (by repeat (first | exact pick_head | apply pick_tail | apply pick_app)) ?_ | refine sb_app (by repeat (first | exact cut_head | exact cut_all | apply cut_tail | apply cut_app)) ?_ | exact sb_one (by repeat (first | exact cut_head | exact cut_all | apply cut_tail | apply cut_app)))))) hu hc rfl (by omega)) ?_
  rintro e u (⟨hw, v, c, rfl, ho, H⟩ | ⟨hw, rfl, H⟩)
  · left
    refine ⟨_, rfl, ?_⟩
    rw [if_neg (by simpa using hw)]
    obtain ⟨ol, capl, rfl⟩ := ho.slice
    have hmem := walk_mem (bs := bs) (at_ := 0) (by omega)
    have hlen := walk_len (bs := bs) (at_ := 0) (by omega) (by omega)
    have hrng : ∀ x ∈ (walkP bs).1, inI x.at_ ∧ inI x.imm := by
      intro x hx
      have h1 := hmem x hx
      have h2 := imm_rng (bs := bs) (at_ := x.at_) hu
      rw [← h1.2.2.2] at h2
      unfold inI
      omega
    have hlen : (walkP bs).1.length ≤ 512 := by unfold walkP; omega
    generalize (walkP bs).1 = l at *
    refine s_asS (h_st H (by repeat (first | exact pick_head | apply pick_tail | apply pick_app)) (by simp) rfl fun u H => h_newMap H fun n13 u H => h_ldS H (by repeat (first | exact pick_head | apply pick_tail | apply pick_app)) rfl ?_)
    refine s_loop (fun vs W => ∃ (i : Nat) (D : List (Int × Bool)) (ob : Obj), vs = [.int .i64 i] ∧ i ≤ l.length ∧ MapO Try.prog 2 kI Value.bool ob D ∧ (∀ n, getAt D n = if beginsP (l.take i) n = true then some true else none) ∧
        Has w0 W ((n13, ob) :: cl n3 22 [.slice ol l.length capl] :: cl n4 24 [.int .i64 0] :: (c ++ m)))
      (fun vs _ => l.length - (intOf (vs.getD 0 undef)).toNat) ⟨0, [], _, rfl, by omega, MapO.new, by simp [getAt, beginsP], H.sub (by repeat (first | exact sb_refl | exact sb_nil | refine sb_cons (by repeat (first | exact pick_head | apply pick_tail | apply pick_app)) ?_ | refine sb_app (by repeat (first | exact cut_head | exact cut_all | apply cut_tail | apply cut_app)) ?_ | exact sb_one (by repeat (first | exact cut_head | exact cut_all | apply cut_tail | apply cut_app))))⟩ ?_
    clear H
    rintro _ j W ⟨i, D, ob, rfl, hi, hM, hD, H⟩
    refine s_asI (s_ite (fun g1 => ?_) (fun g1 => ?_))
    · simp only [decide_eq_true_eq] at g1
      obtain ⟨x, hx⟩ : ∃ x, l[i]? = some x := ⟨_, List.getElem?_eq_getElem (by omega)⟩
      obtain ⟨gg, off, rfl, p0, p1, p2, p3, p4⟩ := (insAt_own ho H (by repeat (first | exact cut_head | exact cut_all | apply cut_tail | apply cut_app))).get hx
      refine s_req ⟨by omega, by omega⟩ (s_sm (s_loadI p0 (s_loadI p1 (s_loadI p2 (s_loadI p3 (s_loadI p4 ?_))))))
      (refine h_new H fun n27 u H => ?_)
      iterate 5 refine h_st H (by repeat (first | exact pick_head | apply pick_tail | apply pick_app)) (by first | (simp; done) | exact Nat.le_of_ble_eq_true rfl) rfl fun u H => ?_
      obtain ⟨lk, hkey⟩ := keyI (hrng x (List.mem_of_getElem? hx)).1
      refine h_ldI H (by repeat (first | exact pick_head | apply pick_tail | apply pick_app)) rfl (h_put (a := x.at_) (v := true) (kf := kI) (vf := Value.bool) H (b := n13) (o := ob) (by repeat (first | exact pick_head | apply pick_tail | apply pick_app)) hM keyed2 Try.underlying70 (kI_inj _ D) hkey fun o' u hM' H => s_next ⟨rfl, rfl⟩ ?_)
      rw [w_succ (by omega)]
      simp only [if_true]
      refine ⟨⟨i + 1, _, o', rfl, by omega, hM', fun n => ?_, H.sub (by repeat (first | exact sb_refl | exact sb_nil | refine sb_cons (by repeat (first | exact pick_head | apply pick_tail | apply pick_app)) ?_ | refine sb_app (by repeat (first | exact cut_head | exact cut_all | apply cut_tail | apply cut_app)) ?_ | exact sb_one (by repeat (first | exact cut_head | exact cut_all | apply cut_tail | apply cut_app))))⟩, by simp [intOf]; omega⟩
      rw [getAt_put, take_succ' hx, begins_cat, hD]
      by_cases h : x.at_ = n
      · rw [if_pos h, if_pos (by simp [h])]
      · rw [if_neg h]
        have : (x.at_ == n) = false := by simpa using h
        rw [this, Bool.or_false]
    · simp only [decide_eq_false_iff_not] at g1
      have hil : i = l.length := by omega
      subst hil
      rw [List.take_length] at hD
      refine h_ldS H (by repeat (first | exact pick_head | apply pick_tail | apply pick_app)) rfl ?_
      refine s_loop (fun vs W => ∃ (i : Nat), vs = [.int .i64 i] ∧ i ≤ l.length ∧ (l.take i).any (badJ l) = false ∧
          Has w0 W ((n13, ob) :: cl n3 22 [.slice ol l.length capl] :: cl n4 24 [.int .i64 0] :: (c ++ m)))
        (fun vs _ => l.length - (intOf (vs.getD 0 undef)).toNat) ⟨0, rfl, by omega, by simp, H⟩ ?_
      clear H
      rintro _ j W ⟨i, rfl, hi, hbad, H⟩
      refine s_asI (s_ite (fun g1 => ?_) (fun g1 => ?_))
      · simp only [decide_eq_true_eq] at g1
        obtain ⟨x, hx⟩ : ∃ x, l[i]? = some x := ⟨_, List.getElem?_eq_getElem (by omega)⟩
        obtain ⟨gg, off, rfl, p0, p1, p2, p3, p4⟩ := (insAt_own ho H (by repeat (first | exact cut_head | exact cut_all | apply cut_tail | apply cut_app))).get hx
        refine s_req ⟨by omega, by omega⟩ (s_sm (s_loadI p0 (s_loadI p1 (s_loadI p2 (s_loadI p3 (s_loadI p4 ?_))))))
        (refine h_new H fun n27 u H => ?_)
        iterate 5 refine h_st H (by repeat (first | exact pick_head | apply pick_tail | apply pick_app)) (by first | (simp; done) | exact Nat.le_of_ble_eq_true rfl) rfl fun u H => ?_
        iterate 5 refine h_ldI H (by repeat (first | exact pick_head | apply pick_tail | apply pick_app)) rfl ?_
        refine s_call2p (jumps_c (x := x) H) ?_
        rintro _ u ⟨rfl, H⟩
        refine .inl ⟨_, rfl, s_asB (s_ite (fun g2 => ?_) (fun g2 => s_next ⟨rfl, rfl⟩ ?_))⟩
        · obtain ⟨lk, hkey⟩ := keyI (hrng x (List.mem_of_getElem? hx)).2
          refine h_ldI H (by repeat (first | exact pick_head | apply pick_tail | apply pick_app)) rfl (h_look1 (a := x.imm) (kf := kI) (vf := Value.bool) H (b := n13) (o := ob) (by repeat (first | exact pick_head | apply pick_tail | apply pick_app)) hM keyed2 Try.underlying70 (z := .bool false) rfl (kI_inj _ D) hkey ?_)
          have hval : (((getAt D x.imm).map Value.bool).getD (.bool false)) = .bool (beginsP l x.imm) := by
            rw [hD]
            by_cases h : beginsP l x.imm = true
            · rw [if_pos h, h]; rfl
            · rw [if_neg h, Bool.not_eq_true _ |>.mp h]; rfl
          rw [hval]
          refine s_asB (s_ite (fun g3 => ?_) (fun g3 => s_next ⟨rfl, rfl⟩ ?_))
          · refine s_call2p (must_ne H (k := 131) (by decide)) ?_
            rintro _ u ⟨rfl, H⟩
            refine .inr ⟨_, rfl, s_dcall (dec1_pan (m := (n13, ob) :: (c ++ m)) (H.sub (by repeat (first | exact sb_refl | exact sb_nil | refine sb_cons (by repeat (first | exact pick_head | apply pick_tail | apply pick_app)) ?_ | refine sb_app (by repeat (first | exact cut_head | exact cut_all | apply cut_tail | apply cut_app)) ?_ | exact sb_one (by repeat (first | exact cut_head | exact cut_all | apply cut_tail | apply cut_app)))))) ?_⟩
            rintro _ uu u ⟨rfl, hs, H⟩
            refine ⟨_, rfl, hs, h_ldS H (by repeat (first | exact pick_head | apply pick_tail | apply pick_app)) rfl (h_ldI H (by repeat (first | exact pick_head | apply pick_tail | apply pick_app)) rfl ?_)⟩
            have hany : l.any (badJ l) = true := by
              rw [List.any_eq_true]
              exact ⟨x, List.mem_of_getElem? hx, by unfold badJ; rw [g2, g3]; rfl⟩
            rw [if_pos hany]
            exact s_ret ⟨_, [], rfl, OwnC.nil, H.sub (by repeat (first | exact sb_refl | exact sb_nil | refine sb_cons (by repeat (first | exact pick_head | apply pick_tail | apply pick_app)) ?_ | refine sb_app (by repeat (first | exact cut_head | exact cut_all | apply cut_tail | apply cut_app)) ?_ | exact sb_one (by repeat (first | exact cut_head | exact cut_all | apply cut_tail | apply cut_app))))⟩
          · simp only [if_true]
            rw [w_succ (by omega)]
            refine ⟨⟨i + 1, rfl, by omega, ?_, H.sub (by repeat (first | exact sb_refl | exact sb_nil | refine sb_cons (by repeat (first | exact pick_head | apply pick_tail | apply pick_app)) ?_ | refine sb_app (by repeat (first | exact cut_head | exact cut_all | apply cut_tail | apply cut_app)) ?_ | exact sb_one (by repeat (first | exact cut_head | exact cut_all | apply cut_tail | apply cut_app))))⟩, by simp [intOf]; omega⟩
            rw [take_succ' hx, List.any_append, hbad]
            simp [badJ, g3]
        · simp only [if_true]
          rw [w_succ (by omega)]
          refine ⟨⟨i + 1, rfl, by omega, ?_, H.sub (by repeat (first | exact sb_refl | exact sb_nil | refine sb_cons (by repeat (first | exact pick_head | apply pick_tail | apply pick_app)) ?_ | refine sb_app (by repeat (first | exact cut_head | exact cut_all | apply cut_tail | apply cut_app)) ?_ | exact sb_one (by repeat (first | exact cut_head | exact cut_all | apply cut_tail | apply cut_app))))⟩, by simp [intOf]; omega⟩
          rw [take_succ' hx, List.any_append, hbad]
          simp [badJ, g2]
      · simp only [decide_eq_false_iff_not] at g1
        have hil : i = l.length := by omega
        subst hil
        rw [List.take_length] at hbad
        rw [hbad, if_neg (by simp)]
        refine h_ldS H (by repeat (first | exact pick_head | apply pick_tail | apply pick_app)) rfl (h_st H (by repeat (first | exact pick_head | apply pick_tail | apply pick_app)) (by simp) rfl fun u H => h_st H (by repeat (first | exact pick_head | apply pick_tail | apply pick_app)) (by simp) rfl fun u H => s_dcall dec1_ret ?_)
        rintro _ uu u' ⟨rfl, hs, rfl⟩
        exact ⟨_, rfl, hs, h_ldS H (by repeat (first | exact pick_head | apply pick_tail | apply pick_app)) rfl (h_ldI H (by repeat (first | exact pick_head | apply pick_tail | apply pick_app)) rfl (s_ret ⟨_, c, rfl, ho, H.sub (by repeat (first | exact sb_refl | exact sb_nil | refine sb_cons (by repeat (first | exact pick_head | apply pick_tail | apply pick_app)) ?_ | refine sb_app (by repeat (first | exact cut_head | exact cut_all | apply cut_tail | apply cut_app)) ?_ | exact sb_one (by repeat (first | exact cut_head | exact cut_all | apply cut_tail | apply cut_app))))⟩))⟩
  · right
    refine ⟨_, rfl, s_dcall (dec1_pan (m := m) (H.sub (by repeat (first | exact sb_refl | exact sb_nil | refine sb_cons (by repeat (first | exact pick_head | apply pick_tail | apply pick_app)) ?_ | refine sb_app (by repeat (first | exact cut_head | exact cut_all | apply cut_tail | apply cut_app)) ?_ | exact sb_one (by repeat (first | exact cut_head | exact cut_all | apply cut_tail | apply cut_app)))))) ?_⟩
    rintro _ uu u ⟨rfl, hs, H⟩
    refine ⟨_, rfl, hs, h_ldS H (by repeat (first | exact pick_head | apply pick_tail | apply pick_app)) rfl (h_ldI H (by repeat (first | exact pick_head | apply pick_tail | apply pick_app)) rfl ?_)⟩
    rw [if_pos hw]
    exact s_ret ⟨_, [], rfl, OwnC.nil, H.sub (by repeat (first | exact sb_refl | exact sb_nil | refine sb_cons (by repeat (first | exact pick_head | apply pick_tail | apply pick_app)) ?_ | refine sb_app (by repeat (first | exact cut_head | exact cut_all | apply cut_tail | apply cut_app)) ?_ | exact sb_one (by repeat (first | exact cut_head | exact cut_all | apply cut_tail | apply cut_app))))⟩
end
end Go.Proofs.Ytgoecmggbcaoiaa
