/- Cut off, and one behind the other: the walk. -/
import Derived.Test.YtgoecmggbcaoiaaPartsP
set_option linter.unusedVariables false
set_option linter.unusedSimpArgs false
set_option maxRecDepth 100000
set_option maxHeartbeats 8000000
namespace Go.Proofs.Ytgoecmggbcaoiaa
open Go hiding Expr
open Go.RowKit Tr

section
variable {w w' w0 : World} {b c : List Int} {o o2 : Option Addr} {cap cap2 : Nat} {k : Int}

theorem parts_c (h : BytAt w o b) (hu : ∀ x ∈ b, 0 ≤ x ∧ x ≤ 255) (hc : b.length ≤ cap) (hl : b.length ≤ 1048576) (h2 : BytAt w o2 c) (hu2 : ∀ x ∈ c, 0 ≤ x ∧ x ≤ 255) (hc2 : c.length ≤ cap2) (hl2 : c.length ≤ 1048576) (hk : 0 ≤ k ∧ k ≤ 65535) :
    Calls Try.prog 9 #[.slice o b.length cap, .slice o2 c.length cap2, .int .u16 k] w fun e w' => e = .returned (.bool true) ∧ Fr [] w w' := by
  apply c9
  have H := Has.init w
  (refine h_new H fun n7 u H => ?_)
  (refine s_call (live_c H) ?_; rintro _ u ⟨rfl, H⟩; refine ⟨_, rfl, ?_⟩)
  refine s_asB (s_false rfl ?_)
  (refine s_call (rwalk_c (bs := b) H (fun u hu => hu.rows h) hu rfl hl) ?_; rintro _ u ⟨vw, cw, rfl, how, H⟩; refine ⟨_, rfl, ?_⟩)
  obtain ⟨ow, capw, rfl⟩ := how.slice
  refine s_asU (s_req rfl (s_asS (s_asI ?_)))
  (refine h_new H fun n17 u H => ?_)
  refine h_st H (by repeat (first | exact pick_head | apply pick_tail | apply pick_app)) (by simp) rfl fun u H => ?_
  have hwl : (walkP b).1.length ≤ b.length := by
    have := walk_len (bs := b) (at_ := 0) (by omega) (by omega)
    show (walkA b 0).1.length ≤ _
    omega
  obtain ⟨q, hq1, hq2⟩ : ∃ q : Nat, (IntKind.wrap .i64 k).tmod (IntKind.wrap .i64 ((b.length : Int) + 1)) = (q : Int) ∧ q ≤ b.length := by
    rw [wrapI (n := k) (by omega) (by omega), w_succ (by omega)]
    obtain ⟨kk, rfl⟩ := Int.eq_ofNat_of_zero_le hk.1
    refine ⟨kk % (b.length + 1), rfl, ?_⟩
    have := Nat.mod_lt kk (show 0 < b.length + 1 by omega)
    omega
  rw [hq1]
  refine s_req (by rw [w_succ (by omega)]; omega) (s_req ⟨by omega, by omega⟩ ?_)
  (refine h_new H fun n18 u H => ?_)
  refine h_st H (by repeat (first | exact pick_head | apply pick_tail | apply pick_app)) (by simp) rfl fun u H => ?_
  rw [sb_zero, show ((q : Int)).toNat = q by omega]
  have hup : ∀ x ∈ b.take q, 0 ≤ x ∧ x ≤ 255 := fun x hx => hu x (List.mem_of_mem_take hx)
  have hpl : (b.take q).length ≤ b.length := by rw [List.length_take]; omega
  have hpre := walk_take (b := b) (a := 0) q (by omega)
  have hpre : (walkP (b.take q)).1 <+: (walkP b).1 := hpre
  have hbP : BytAt w o (b.take q) := h.take
  have hqn : q = (b.take q).length := by rw [List.length_take]; omega
  generalize hP : b.take q = B at *
  (refine s_call (walk_c (bs := B) H (fun u hu => hu.rows hbP) hqn (by omega)) ?_; rintro _ u ⟨p, o', cap', cp, rfl, hop, H⟩; refine ⟨_, rfl, ?_⟩)
  refine s_asC (s_req rfl (s_asP ?_))
  have htl : (toldW B).length = (walkP B).1.length := by simp [toldW]
  have H : Has w u (cl n18 3 [.int .i64 ((0 : Nat) : Int)] :: cl p 23 [.slice o' B.length cap'] :: (cp ++ (cl n17 22 [.slice ow (walkP b).1.length capw] :: (cw ++ [cl n7 4 [.bool false]])))) := H.sub (by repeat (first | exact sb_refl | exact sb_nil | refine sb_cons (by repeat (first | exact pick_head | apply pick_tail | apply pick_app)) ?_ | refine sb_app (by repeat (first | exact cut_head | exact cut_all | apply cut_tail | apply cut_app)) ?_ | exact sb_one (by repeat (first | exact cut_head | exact cut_all | apply cut_tail | apply cut_app))))
  refine h_rf (walk_seq (p := p) (o := o') (cap := cap') hup (own_cap hop) (by omega)) H (fun i mi => i ≤ (walkP B).1.length ∧ mi = cl n18 3 [.int .i64 (i : Int)] :: cl p 23 [.slice o' B.length cap'] :: (cp ++ (cl n17 22 [.slice ow (walkP b).1.length capw] :: (cw ++ [cl n7 4 [.bool false]]))))
    (fun _ => False) ⟨by omega, rfl⟩ ?_ (fun _ h => h.elim) ?_ ?_ ?_ (fun _ _ _ h => h.elim)
  · rintro i mi ⟨_, rfl⟩
    exact fit_cl (fit_cl (fit_app hop.fit (fit_cl (fit_app how.fit (fit_cl fit_nil)))))
  · rintro i mi W ⟨_, rfl⟩ H
    exact ⟨H.cells (by repeat (first | exact pick_head | apply pick_tail | apply pick_app)), bytAt_own hop H (by repeat (first | exact cut_head | exact cut_all | apply cut_tail | apply cut_app))⟩
  · rintro lp rec d i W av mi hrs hrp hi ⟨hil, rfl⟩ H
    have hilt : i < (walkP B).1.length := by
      have := (List.getElem?_eq_some_iff.1 hi).1
      omega
    obtain ⟨x, hx⟩ : ∃ x, (walkP B).1[i]? = some x := ⟨_, List.getElem?_eq_getElem hilt⟩
    have hx2 : (walkP b).1[i]? = some x := by
      obtain ⟨t, ht⟩ := hpre
      rw [← ht, List.getElem?_append_left hilt, hx]
    have hi2 := (List.getElem?_eq_some_iff.1 hx2).1
    obtain rfl : av = [.int .i64 x.at_, insV x] := by
      unfold toldW at hi
      rw [List.getElem?_map, hx] at hi
      simpa using hi.symm
    refine s_req rfl (s_asA (s_req rfl (s_asI (s_asI (s_asI (s_asI (s_asI ?_)))))))
    (refine h_new H fun n30 u H => ?_)
    iterate 5 refine h_st H (by repeat (first | exact pick_head | apply pick_tail | apply pick_app)) (by first | (simp; done) | exact Nat.le_of_ble_eq_true rfl) rfl fun u H => ?_
    refine h_beg H (by repeat (first | exact pick_head | apply pick_tail | apply pick_app)) hrs fun w1 H => h_drew H fun u H => h_ldI H (by repeat (first | exact pick_head | apply pick_tail | apply pick_app)) rfl (h_ldS H (by repeat (first | exact pick_head | apply pick_tail | apply pick_app)) rfl (s_false (by simpa using hi2) ?_))
    iterate 5 refine h_ldI H (by repeat (first | exact pick_head | apply pick_tail | apply pick_app)) rfl ?_
    refine h_ldS H (by repeat (first | exact pick_head | apply pick_tail | apply pick_app)) rfl (h_ldI H (by repeat (first | exact pick_head | apply pick_tail | apply pick_app)) rfl (s_req ⟨by omega, by omega⟩ ?_))
    obtain ⟨gg, off, rfl, p0, p1, p2, p3, p4⟩ := (insAt_own how H (by repeat (first | exact cut_head | exact cut_all | apply cut_tail | apply cut_app))).get hx2
    refine s_sm (s_loadI p0 (s_loadI p1 (s_loadI p2 (s_loadI p3 (s_loadI p4 (s_false (by simp) (h_ldI H (by repeat (first | exact pick_head | apply pick_tail | apply pick_app)) rfl ?_)))))))
    rw [w_succ (by omega)]
    refine h_st H (by repeat (first | exact pick_head | apply pick_tail | apply pick_app)) (by simp) rfl fun u H => h_cont H (by repeat (first | exact pick_head | apply pick_tail | apply pick_app)) hrs hrp fun w2 H => s_next trivial ?_
    simp (config := { decide := true }) only [if_true, if_false]
    exact .inl ⟨rfl, _, ⟨by omega, rfl⟩, H.sub (by repeat (first | exact sb_refl | exact sb_nil | refine sb_cons (by repeat (first | exact pick_head | apply pick_tail | apply pick_app)) ?_ | refine sb_app (by repeat (first | exact cut_head | exact cut_all | apply cut_tail | apply cut_app)) ?_ | exact sb_one (by repeat (first | exact cut_head | exact cut_all | apply cut_tail | apply cut_app))))⟩
  · rintro D W mi ⟨_, rfl⟩ H
    have H : Has w W ((D, .deferred (some [])) :: [cl n7 4 [.bool false]]) := H.sub (by repeat (first | exact sb_refl | exact sb_nil | refine sb_cons (by repeat (first | exact pick_head | apply pick_tail | apply pick_app)) ?_ | refine sb_app (by repeat (first | exact cut_head | exact cut_all | apply cut_tail | apply cut_app)) ?_ | exact sb_one (by repeat (first | exact cut_head | exact cut_all | apply cut_tail | apply cut_app))))
    refine s_call2 (dec_c (bs := b) H (fun u hu => hu.rows h) hu hc rfl (by omega)) ?_
    rintro _ u ⟨v1, c1, rfl, ho1, H⟩
    obtain ⟨o1, cap1, rfl⟩ := ho1.slice
    refine ⟨_, rfl, s_asU (s_req rfl (s_asS (s_asI ?_)))⟩
    have H : Has w u ((D, .deferred (some [])) :: [cl n7 4 [.bool false]]) := H.sub (by repeat (first | exact sb_refl | exact sb_nil | refine sb_cons (by repeat (first | exact pick_head | apply pick_tail | apply pick_app)) ?_ | refine sb_app (by repeat (first | exact cut_head | exact cut_all | apply cut_tail | apply cut_app)) ?_ | exact sb_one (by repeat (first | exact cut_head | exact cut_all | apply cut_tail | apply cut_app))))
    refine s_call2 (dec_c (bs := c) H (fun u hu => hu.rows h2) hu2 hc2 rfl (by omega)) ?_
    rintro _ u ⟨v2, c2, rfl, ho2, H⟩
    obtain ⟨o3, cap3, rfl⟩ := ho2.slice
    refine ⟨_, rfl, s_asU (s_req rfl (s_asS (s_asI ?_)))⟩
    have H : Has w u ((D, .deferred (some [])) :: [cl n7 4 [.bool false]]) := H.sub (by repeat (first | exact sb_refl | exact sb_nil | refine sb_cons (by repeat (first | exact pick_head | apply pick_tail | apply pick_app)) ?_ | refine sb_app (by repeat (first | exact cut_head | exact cut_all | apply cut_tail | apply cut_app)) ?_ | exact sb_one (by repeat (first | exact cut_head | exact cut_all | apply cut_tail | apply cut_app))))
    have dlen : ∀ {x : List Int}, (∀ y ∈ x, 0 ≤ y ∧ y ≤ 255) → (decP x).1.length ≤ 512 := fun {x} hx => by
      by_cases h : (decP x).2 = 0
      · exact (dec_facts hx h).2.2.2.1
      · rw [dec_bad h]; simp
    have l1 := dlen hu
    have l2 := dlen hu2
    refine h_blk (fun _ => (decP b).2 = 0 ∧ (decP c).2 = 0 ∧ b.length + c.length ≤ 512 ∧ jmps (walkP b).1 = [] ∧ jmps (walkP c).1 = []) H ?_ ?_
    · refine s_ite (fun g => h_st H (by repeat (first | exact pick_head | apply pick_tail | apply pick_app)) (by simp) rfl fun u H => h_col H (by repeat (first | exact pick_head | apply pick_tail | apply pick_app)) fun u H => h_ldB H (by repeat (first | exact pick_head | apply pick_tail | apply pick_app)) rfl (s_ret ⟨rfl, H.base⟩)) (fun g => ?_)
      refine s_ite (fun g1 => h_st H (by repeat (first | exact pick_head | apply pick_tail | apply pick_app)) (by simp) rfl fun u H => h_col H (by repeat (first | exact pick_head | apply pick_tail | apply pick_app)) fun u H => h_ldB H (by repeat (first | exact pick_head | apply pick_tail | apply pick_app)) rfl (s_ret ⟨rfl, H.base⟩)) (fun g1 => ?_)
      rw [w_add (by omega)]
      refine s_ite (fun g2 => h_st H (by repeat (first | exact pick_head | apply pick_tail | apply pick_app)) (by simp) rfl fun u H => h_col H (by repeat (first | exact pick_head | apply pick_tail | apply pick_app)) fun u H => h_ldB H (by repeat (first | exact pick_head | apply pick_tail | apply pick_app)) rfl (s_ret ⟨rfl, H.base⟩)) (fun g2 => ?_)
      simp only [decide_eq_false_iff_not] at g2
      have hwlc : (walkP c).1.length ≤ c.length := by
        have := walk_len (bs := c) (at_ := 0) (by omega) (by omega)
        show (walkA c 0).1.length ≤ _
        omega
      have j1 := jmps_len (walkP b).1
      have j2 := jmps_len (walkP c).1
      refine s_call2 (targ_c (bs := b) H (fun u hu => hu.rows h) hu rfl hl) ?_
      rintro _ u ⟨v3, c3, out, rfl, hR, ho3, H⟩
      obtain ⟨o4, cap4, rfl⟩ := ho3.slice
      refine ⟨_, rfl, s_asS ?_⟩
      have H : Has w u ((D, .deferred (some [])) :: [cl n7 4 [.bool false]]) := H.sub (by repeat (first | exact sb_refl | exact sb_nil | refine sb_cons (by repeat (first | exact pick_head | apply pick_tail | apply pick_app)) ?_ | refine sb_app (by repeat (first | exact cut_head | exact cut_all | apply cut_tail | apply cut_app)) ?_ | exact sb_one (by repeat (first | exact cut_head | exact cut_all | apply cut_tail | apply cut_app))))
      refine s_call2 (targ_c (bs := c) H (fun u hu => hu.rows h2) hu2 rfl hl2) ?_
      rintro _ u ⟨v4, c4, out2, rfl, hR2, ho4, H⟩
      obtain ⟨o5, cap5, rfl⟩ := ho4.slice
      have H : Has w u ((D, .deferred (some [])) :: [cl n7 4 [.bool false]]) := H.sub (by repeat (first | exact sb_refl | exact sb_nil | refine sb_cons (by repeat (first | exact pick_head | apply pick_tail | apply pick_app)) ?_ | refine sb_app (by repeat (first | exact cut_head | exact cut_all | apply cut_tail | apply cut_app)) ?_ | exact sb_one (by repeat (first | exact cut_head | exact cut_all | apply cut_tail | apply cut_app))))
      have r1 := hR.len
      have r2 := hR2.len
      refine ⟨_, rfl, s_asS ?_⟩
      rw [w_add (by omega)]
      refine s_ite (fun g3 => h_st H (by repeat (first | exact pick_head | apply pick_tail | apply pick_app)) (by simp) rfl fun u H => h_col H (by repeat (first | exact pick_head | apply pick_tail | apply pick_app)) fun u H => h_ldB H (by repeat (first | exact pick_head | apply pick_tail | apply pick_app)) rfl (s_ret ⟨rfl, H.base⟩)) (fun g3 => s_next ⟨rfl, rfl⟩ ?_)
      simp only [decide_eq_false_iff_not] at g3
      simp only [if_true]
      exact ⟨H, by simpa using g, by simpa using g1, by omega, (ris_nil hR).1 (by omega), (ris_nil hR2).1 (by omega)⟩
    · clear H
      rintro _ _ W H ⟨hb0, hc0, hlen, jb, jc⟩
      obtain ⟨e1, e2⟩ := dec_both hb0 hc0 hu hu2 hlen jb jc
      refine s_call2 (bclone_c (bs := b) H (fun u hu => hu.rows h) rfl (by omega)) ?_
      rintro _ u ⟨v3, c3, rfl, ho3, H⟩
      obtain ⟨o4, cap4, rfl⟩ := ho3.slice
      refine ⟨_, rfl, s_asS ?_⟩
      refine h_appAll elemY (by decide) H (by repeat (first | exact cut_head | exact cut_all | apply cut_tail | apply cut_app)) ho3 (br1 c) (br_one _) (H.rows h2) (by simp) (by omega) (by omega) fun v' c' w' ho' H => ?_
      obtain ⟨o5, cap5, rfl⟩ := ho'.slice
      have ho' : OwnC 5 1 (.slice o5 (b.length + c.length) cap5) (b ++ c).length (byts (b ++ c)) c' := by
        rw [byts_append, List.length_append]
        exact ho'
      rw [show b.length + c.length = (b ++ c).length by rw [List.length_append]] at ho' ⊢
      refine s_asS (s_call2 (dec_c (bs := b ++ c) H (fun u hu => bytAt_own ho' hu (by repeat (first | exact cut_head | exact cut_all | apply cut_tail | apply cut_app))) (fun x hx => (List.mem_append.1 hx).elim (hu x) (hu2 x)) (own_cap ho') rfl (by rw [List.length_append]; omega)) ?_)
      rintro _ u ⟨v5, c5, rfl, ho5, H⟩
      obtain ⟨o6, cap6, rfl⟩ := ho5.slice
      refine ⟨_, rfl, s_asU (s_req rfl (s_asS (s_asI (s_true (by simpa using e1) (h_st H (by repeat (first | exact pick_head | apply pick_tail | apply pick_app)) (by simp) rfl fun u H => h_col H (by repeat (first | exact pick_head | apply pick_tail | apply pick_app)) fun u H => h_ldB H (by repeat (first | exact pick_head | apply pick_tail | apply pick_app)) rfl (s_ret ⟨?_, H.base⟩))))))⟩
      rw [w_add (by omega), e2]
      simp
end
end Go.Proofs.Ytgoecmggbcaoiaa
