/- The walk of FootOrder. -/
import Derived.Test.YtndkffhlheaepaaLive
import Derived.Test.YtndkffhlheaepaaTreesL
set_option linter.unusedVariables false
set_option linter.unusedSimpArgs false
set_option maxRecDepth 100000
set_option maxHeartbeats 4000000
namespace Go.Proofs.Ytndkffhlheaepaa
open Go hiding Expr
open Go.RowKit Tr

theorem clashL_comm (l m : List Lk) : clashL l m = clashL m l := by
  have h : ∀ l m : List Lk, clashL l m = true → clashL m l = true := by
    intro l m h
    obtain ⟨a, ha, h⟩ := List.any_eq_true.1 h
    obtain ⟨b, hb, h⟩ := List.any_eq_true.1 h
    refine List.any_eq_true.2 ⟨b, hb, List.any_eq_true.2 ⟨a, ha, ?_⟩⟩
    simp only [Bool.and_eq_true, decide_eq_true_eq, Bool.or_eq_true] at h ⊢
    exact ⟨h.1.symm, h.2.symm⟩
  cases h1 : clashL l m with
  | true => exact (h _ _ h1).symm
  | false =>
    cases h2 : clashL m l with
    | true => rw [h _ _ h2] at h1; cases h1
    | false => rfl
section
variable {w : World} {o : Option Addr} {n cap : Nat} {X : List TX}
theorem TxsAt.take (h : TxsAt w o X) (m : Nat) : TxsAt w o (X.take m) := by
  refine ⟨?_, fun x hx => h.2 x (List.mem_of_mem_take hx)⟩
  rcases h.1 with h1 | ⟨g, off, he, hg, hc⟩
  · have : X = [] := by simpa using h1
    subst this
    exact .inl (by simp)
  · refine .inr ⟨g, off, he, hg, fun j r hr => hc j r ?_⟩
    rw [List.map_take, List.getElem?_take] at hr
    split at hr
    · exact hr
    · cases hr
theorem forder_c {stop : Int} (h : TxsAt w o X) (hX : ∀ x ∈ X, TxOk x) (hn : n = X.length) (hcap : n ≤ cap) (hl : X.length ≤ 1048576) : Calls Try.prog 3 #[.slice o n cap, .int .i64 stop] w fun en w' => en = .returned (.bool true) ∧ Fr [] w w' := by
  subst hn
  apply c3
  refine s_min (s_asI ?_)
  obtain ⟨m, hm⟩ : ∃ m : Nat, m = min X.length 40 := ⟨_, rfl⟩
  have hmi : min (X.length : Int) 40 = (m : Int) := by omega
  rw [hmi]
  have hml : m = (X.take m).length := by rw [List.length_take]; omega
  refine s_req ⟨by omega, by omega⟩ ?_
  rw [sb_zero, Int.toNat_natCast]
  have h := h.take m
  have hX : ∀ x ∈ X.take m, TxOk x := fun x hx => hX x (List.mem_of_mem_take hx)
  generalize X.take m = Y at *
  subst hml
  have hYl : Y.length ≤ 40 := by omega
  refine s_call (rorder_c h hX rfl (by omega)) ?_
  rintro _ u ⟨v, c, rfl, ho, H⟩
  obtain ⟨o7, c9, rfl⟩ := ho.slice
  have hPl := ordU_len Y Y.length
  have hsq : Y.length * Y.length ≤ 1600 := Nat.le_trans (Nat.mul_le_mul hYl hYl) (by decide)
  have hPlen : (ordL Y).length ≤ Y.length * Y.length := hPl
  refine ⟨_, rfl, s_asS (h_blk (fun _ => True) H ?_ ?_)⟩
  · refine s_call live_c ?_
    rintro _ u ⟨rfl, f⟩
    have H := H.fr0 f
    refine ⟨_, rfl, s_asB (s_false rfl ?_)⟩
    refine s_call (order_c (cap := cap) (h.fr0 H.base) hX rfl (by omega)) ?_
    rintro _ u ⟨p, v1, c1, rfl, ho1, H1⟩
    have H := H.join H1
    obtain ⟨oP, cP, rfl⟩ := ho1.slice
    refine ⟨_, rfl, s_asC (s_req rfl (s_asP ?_))⟩
    refine s_call (tells_c (p := p) (ty := 23) (o := oP) (cap := cP) (P := ordL Y) (o2 := o7) H (fun u H => ⟨H.cells (by repeat (first | exact pick_head | apply pick_tail | apply pick_app)), prsAt_own ho1 H (by repeat (first | exact cut_head | exact cut_all | apply cut_tail | apply cut_app))⟩) (fun u H => prsAt_own ho H (by repeat (first | exact cut_head | exact cut_all | apply cut_tail | apply cut_app))) rfl (by omega)) ?_
    rintro _ u ⟨rfl, H⟩
    refine ⟨_, rfl, s_asB (s_false rfl ?_)⟩
    refine s_call (order_c (cap := cap) (h.fr0 H.base) hX rfl (by omega)) ?_
    rintro _ u ⟨p2, v2, c2, rfl, ho2, H2⟩
    have H := H.join H2
    obtain ⟨oP2, cP2, rfl⟩ := ho2.slice
    refine ⟨_, rfl, s_asC (s_req rfl (s_asP ?_))⟩
    refine s_call (tells_c (p := p2) (ty := 23) (o := oP2) (cap := cP2) (P := ordL Y) (o2 := o7) H (fun u H => ⟨H.cells (by repeat (first | exact pick_head | apply pick_tail | apply pick_app)), prsAt_own ho2 H (by repeat (first | exact cut_head | exact cut_all | apply cut_tail | apply cut_app))⟩) (fun u H => prsAt_own ho H (by repeat (first | exact cut_head | exact cut_all | apply cut_tail | apply cut_app))) rfl (by omega)) ?_
    rintro _ u ⟨rfl, H⟩
    refine ⟨_, rfl, s_asB (s_false rfl ?_)⟩
    refine s_call (levels_c (cap := cap) (h.fr0 H.base) hX rfl (by omega)) ?_
    rintro _ u ⟨v3, c3, rfl, ho3, H3⟩
    have H := H.join H3
    obtain ⟨o3, cap3, rfl⟩ := ho3.slice
    refine ⟨_, rfl, s_asS (s_call (rlevels_c (cap := cap) (h.fr0 H.base) hX rfl (by omega)) ?_)⟩
    rintro _ u ⟨v4, c4, rfl, ho4, H4⟩
    have H := H.join H4
    obtain ⟨o4, cap4, rfl⟩ := ho4.slice
    have hll := levelsOf_len Y
    refine ⟨_, rfl, s_asS (s_call (eqI_c (l1 := levelsOf Y) (l2 := levelsOf Y) (valsAt_own ho3 H (by repeat (first | exact cut_head | exact cut_all | apply cut_tail | apply cut_app))) (valsAt_own ho4 H (by repeat (first | exact cut_head | exact cut_all | apply cut_tail | apply cut_app))) hll.symm hll.symm (by omega)) ?_)⟩
    rintro _ u ⟨rfl, f⟩
    have H := H.fr0 f
    refine ⟨_, rfl, s_asB (s_false (by simp) (s_next (by simp) ?_))⟩
    simp (config := { decide := true }) only [if_true, if_false]
    exact ⟨H.sub (by repeat (first | exact sb_refl | exact sb_nil | refine sb_cons (by repeat (first | exact pick_head | apply pick_tail | apply pick_app)) ?_ | refine sb_app (by repeat (first | exact cut_head | exact cut_all | apply cut_tail | apply cut_app)) ?_ | exact sb_one (by repeat (first | exact cut_head | exact cut_all | apply cut_tail | apply cut_app)))), trivial⟩
  · rintro _ _ W H _
    refine h_drew H fun u H => s_ite (fun g => ?_) (fun g => ?_)
    · exact s_chk c_nil (s_chk c_nil (s_chk c_nil (s_chk c_nil (s_ret ⟨rfl, H.base⟩))))
    have g : ¬ (Y.length : Int) < 2 := by simpa using g
    obtain ⟨x, hx⟩ : ∃ x, Y[0]? = some x := ⟨_, List.getElem?_eq_getElem (by omega)⟩
    obtain ⟨y, hy⟩ : ∃ y, Y[1]? = some y := ⟨_, List.getElem?_eq_getElem (by omega)⟩
    have hxo := hX x (List.mem_of_getElem? hx)
    have hyo := hX y (List.mem_of_getElem? hy)
    have hget : ∀ {u : World}, Fr [] w u → ∃ g off, o = some ⟨g, off, none⟩ ∧ (u.cell? ⟨g, off, none⟩ = some (.int .i64 x.s) ∧ u.cell? ⟨g, off + 1, none⟩ = some (.int .i64 x.q) ∧ u.cell? ⟨g, off + 2, none⟩ = some (.slice x.oc x.nc x.cc) ∧ u.cell? ⟨g, off + 3, none⟩ = some (.slice x.oa x.na x.ca) ∧ u.cell? ⟨g, off + 4, none⟩ = some (.slice x.od x.rd.length x.cd) ∧ u.cell? ⟨g, off + 5, none⟩ = some (.slice x.ow x.wr.length x.cw)) ∧
        (u.cell? ⟨g, off + 6, none⟩ = some (.int .i64 y.s) ∧ u.cell? ⟨g, off + 7, none⟩ = some (.int .i64 y.q) ∧ u.cell? ⟨g, off + 8, none⟩ = some (.slice y.oc y.nc y.cc) ∧ u.cell? ⟨g, off + 9, none⟩ = some (.slice y.oa y.na y.ca) ∧ u.cell? ⟨g, off + 10, none⟩ = some (.slice y.od y.rd.length y.cd) ∧ u.cell? ⟨g, off + 11, none⟩ = some (.slice y.ow y.wr.length y.cw)) ∧ TxAt u x ∧ TxAt u y := by
      intro u f
      obtain ⟨g, off, he, hc, hxt⟩ := (h.fr0 f).get hx
      obtain ⟨g', off', he', hc', hyt⟩ := (h.fr0 f).get hy
      rw [he] at he'
      cases he'
      exact ⟨g, off, he, by simpa using hc, by simpa [Nat.add_assoc] using hc', hxt, hyt⟩
    obtain ⟨gg, off, he, ⟨a0, a1, a2, a3, a4, a5⟩, ⟨b0, b1, b2, b3, b4, b5⟩, hxt, hyt⟩ := hget H.base
    refine s_req ⟨by omega, by omega⟩ ⟨gg, off, he, s_loadI a0 (s_loadI a1 (s_loadS a2 (s_loadS a3 (s_loadS a4 (s_loadS a5 (s_req ⟨by omega, by omega⟩ ⟨gg, off, he, s_loadI b0 (s_loadI b1 (s_loadS b2 (s_loadS b3 (s_loadS b4 (s_loadS b5 (s_req ⟨by omega, by omega⟩ ⟨gg, off, he, s_loadI a0 (s_loadI a1 (s_loadS a2 (s_loadS a3 (s_loadS a4 (s_loadS a5 (s_req ⟨by omega, by omega⟩ ⟨gg, off, he, s_loadI b0 (s_loadI b1 (s_loadS b2 (s_loadS b3 (s_loadS b4 (s_loadS b5 (?_))))))⟩))))))⟩))))))⟩))))))⟩
    refine s_call (clash_c hxt hxo hyt hyo) ?_
    rintro _ u ⟨rfl, f⟩
    have H := H.fr0 f
    obtain ⟨gg', off', he', ⟨a0, a1, a2, a3, a4, a5⟩, ⟨b0, b1, b2, b3, b4, b5⟩, hxt, hyt⟩ := hget H.base
    rw [he] at he'
    cases he'
    refine ⟨_, rfl, s_asB (s_chk ⟨b0, b1, b2, b3, b4, b5, a0, a1, a2, a3, a4, a5, trivial⟩ (s_call (rclash_c hxt hxo hyt hyo) ?_))⟩
    rintro _ u ⟨rfl, f⟩
    have H := H.fr0 f
    obtain ⟨gg', off', he', ⟨a0, a1, a2, a3, a4, a5⟩, ⟨b0, b1, b2, b3, b4, b5⟩, hxt, hyt⟩ := hget H.base
    rw [he] at he'
    cases he'
    refine ⟨_, rfl, s_asB (s_chk c_nil (s_true (by simp) ?_))⟩
    refine s_req ⟨by omega, by omega⟩ ⟨gg, off, he, s_loadI b0 (s_loadI b1 (s_loadS b2 (s_loadS b3 (s_loadS b4 (s_loadS b5 (s_req ⟨by omega, by omega⟩ ⟨gg, off, he, s_loadI a0 (s_loadI a1 (s_loadS a2 (s_loadS a3 (s_loadS a4 (s_loadS a5 (s_req ⟨by omega, by omega⟩ ⟨gg, off, he, s_loadI a0 (s_loadI a1 (s_loadS a2 (s_loadS a3 (s_loadS a4 (s_loadS a5 (s_req ⟨by omega, by omega⟩ ⟨gg, off, he, s_loadI b0 (s_loadI b1 (s_loadS b2 (s_loadS b3 (s_loadS b4 (s_loadS b5 (?_))))))⟩))))))⟩))))))⟩))))))⟩
    refine s_call (clash_c hyt hyo hxt hxo) ?_
    rintro _ u ⟨rfl, f⟩
    have H := H.fr0 f
    obtain ⟨gg', off', he', ⟨a0, a1, a2, a3, a4, a5⟩, ⟨b0, b1, b2, b3, b4, b5⟩, hxt, hyt⟩ := hget H.base
    rw [he] at he'
    cases he'
    refine ⟨_, rfl, s_asB (s_chk ⟨b0, b1, b2, b3, b4, b5, a0, a1, a2, a3, a4, a5, trivial⟩ (s_call (clash_c hxt hxo hyt hyo) ?_))⟩
    rintro _ u ⟨rfl, f⟩
    have H := H.fr0 f
    have hcomm : clashB y x = clashB x y := clashL_comm _ _
    exact ⟨_, rfl, s_asB (s_chk c_nil (s_ret ⟨by rw [hcomm]; simp, H.base⟩))⟩
end
end Go.Proofs.Ytndkffhlheaepaa
