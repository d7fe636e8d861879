/- A script, by the program. -/
import Derived.Test.YtihipcofjpnfbaaGreatDoorStepP
import Derived.Test.YtihipcofjpnfbaaGreatDoorTreesE
set_option linter.unusedVariables false
set_option linter.unusedSimpArgs false
set_option maxRecDepth 100000
set_option maxHeartbeats 8000000
namespace Go.Proofs.YtihipcofjpnfbaaGreatDoor
open Go hiding Expr
open Go.RowKit Tr

structure CF where
  n : Int
  p : Int
  b : Int
  c : Int
  seed : Nat
def cfv (c : CF) : List Value := [.int .i64 c.n, .int .i64 c.p, .int .i64 c.b, .int .i64 c.c, .int .u64 c.seed]
structure CfOk (c : CF) : Prop where
  hn : In64 c.n
  hp : In64 c.p
  hb : In64 c.b
  hc : In64 c.c
  hs : c.seed < 18446744073709551616
def worldL (c : CF) : List UInt8 := joinL [[119, 111, 114, 108, 100], dI c.n, dI c.p, dI c.b, dI c.c, dU c.seed]
theorem worldL_len {c : CF} (h : CfOk c) : (worldL c).length ≤ 200 := by
  have h1 := dI_len h.hn
  have h2 := dI_len h.hp
  have h3 := dI_len h.hb
  have h4 := dI_len h.hc
  have h5 := dU_len h.hs
  rw [worldL, joinL_jt]
  simp only [jt, List.flatMap_cons, List.flatMap_nil, List.length_append, List.length_cons, List.length_nil]
  omega
def printF (acc : List UInt8) : List ST → List UInt8 × Int
  | [] => (acc, 0)
  | x :: r => if (stepR x).2 ≠ 0 then ([], (stepR x).2) else printF (acc ++ ((stepR x).1 ++ [10])) r
def printR (c : CF) (l : List ST) : List UInt8 × Int := if l.length > 16384 then ([], 3) else printF (worldL c ++ [10]) l
theorem runF_len : ∀ (fs : List Int) (x : ST) (ws : List (List UInt8)), StOk x → (∀ f ∈ fs, IsField f) → (∀ y ∈ ws, y.length ≤ 134217728) → (runF x fs ws).1.length ≤ (ws.length + fs.length) * 134217729
  | [], x, ws, hx, hf, hw => by
    rw [runF]
    split
    · have := joinL_le hw
      simpa using this
    · simp
  | f :: r, x, ws, hx, hf, hw => by
    rw [runF]
    split
    · simp
    · have h1 := hf f (List.mem_cons_self ..)
      have := runF_len r (zf x f) (ws ++ [(fieldR x f).1]) (zfOk hx h1) (fun g hg => hf g (List.mem_cons_of_mem _ hg)) (fun y hy => by
        rcases List.mem_append.1 hy with hy | hy
        · exact hw y hy
        · simp at hy
          subst hy
          exact fieldR_len hx h1)
      rw [List.length_append] at this
      simp only [List.length_cons, List.length_nil] at this ⊢
      have e : ws.length + (0 + 1) + r.length = ws.length + (r.length + 1) := by omega
      rw [e] at this
      exact this
theorem stepR_len {x : ST} (hx : StOk x) : (stepR x).1.length ≤ 1073741823 := by
  unfold stepR
  split
  · simp
  · rw [List.getD_eq_getElem?_getD]
    cases h : forms[x.kind.toNat]? with
    | none =>
      have := runF_len [] x [[]] hx (by simp) (by simp)
      simp at this
      simp
      omega
    | some p =>
      obtain ⟨h1, h2, h3⟩ := forms_ok p (List.mem_of_getElem? h)
      have := runF_len p.2 x [p.1] hx h3 (by simp; omega)
      simp only [Option.getD_some]
      simp only [List.length_cons, List.length_nil] at this
      have e : (0 + 1 + p.2.length) * 134217729 ≤ 4 * 134217729 := Nat.mul_le_mul_right _ (by omega)
      omega

structure SX where
  x : ST
  v : SV27
def sxr (p : SX) : List Value := stv p.x p.v
theorem sxr16 (l : List SX) : ∀ r ∈ l.map sxr, r.length = 16 := by
  intro r hr
  obtain ⟨x, _, rfl⟩ := List.mem_map.1 hr
  rfl
structure StepsAt (w : World) (o : Option Addr) (l : List SX) : Prop where
  rows : RowsAt w o 16 (l.map sxr)
  at_ : ∀ p ∈ l, StAt w p.x p.v
theorem stepsFr {w w' : World} {o : Option Addr} {l : List SX} (h : StepsAt w o l) (hf : Fr [] w w') : StepsAt w' o l := ⟨h.rows.fr hf, fun p hp => stFr (h.at_ p hp) hf⟩
def StepsOk (l : List SX) : Prop := ∀ p ∈ l, StOk p.x

section
variable {w : World} {c : CF} {o : Option Addr} {l : List SX} {n cap : Nat}
theorem print_c (hT : Tab w) (hc : CfOk c) (h : StepsAt w o l) (hl : StepsOk l) (hn : n = l.length) (hsz : l.length ≤ 1048576) :
    Calls Tryz.prog 9 #[.agg ⟨cfv c⟩, .slice o n cap] w fun e w' => e = .returned (.tuple #[.string (S (printR c (l.map (·.x))).1), .int .i64 (printR c (l.map (·.x))).2]) ∧ Fr [] w w' := by
  subst hn
  have wlen := worldL_len hc
  apply c9
  refine h_new (Has.init w) fun n8 u H => s_ite (fun g => ?_) (fun g => ?_)
  · simp only [decide_eq_true_eq] at g
    exact s_ret ⟨by rw [printR, if_pos (by rw [List.length_map]; omega)], H.base⟩
  · simp only [decide_eq_false_iff_not] at g
    have hpr : printR c (l.map (·.x)) = printF (worldL c ++ [10]) (l.map (·.x)) := by rw [printR, if_neg (by rw [List.length_map]; omega)]
    rw [hpr]
    clear hpr
    simp only [cfv] at H
    refine h_new H fun n9 u H => h_drew H fun u H => ?_
    iterate 5 refine h_ldI H (b := n8) (by repeat (first | exact pick_head | apply pick_tail | apply pick_app)) rfl ?_
    refine s_call (numI_c (hT.fr H.base) hc.hn) ?_
    rintro _ u ⟨rfl, f⟩
    have H := H.fr0 f
    refine ⟨_, rfl, s_asT (s_chk (by repeat (first | exact c_nil | refine hc_cons H (b := n8) (by repeat (first | exact pick_head | apply pick_tail | apply pick_app)) rfl ?_)) (s_call (numI_c (hT.fr H.base) hc.hp) ?_))⟩
    rintro _ u ⟨rfl, f⟩
    have H := H.fr0 f
    refine ⟨_, rfl, s_asT (s_chk (by repeat (first | exact c_nil | refine hc_cons H (b := n8) (by repeat (first | exact pick_head | apply pick_tail | apply pick_app)) rfl ?_)) (s_call (numI_c (hT.fr H.base) hc.hb) ?_))⟩
    rintro _ u ⟨rfl, f⟩
    have H := H.fr0 f
    refine ⟨_, rfl, s_asT (s_chk (by repeat (first | exact c_nil | refine hc_cons H (b := n8) (by repeat (first | exact pick_head | apply pick_tail | apply pick_app)) rfl ?_)) (s_call (numI_c (hT.fr H.base) hc.hc) ?_))⟩
    rintro _ u ⟨rfl, f⟩
    have H := H.fr0 f
    refine ⟨_, rfl, s_asT (s_chk (by repeat (first | exact c_nil | refine hc_cons H (b := n8) (by repeat (first | exact pick_head | apply pick_tail | apply pick_app)) rfl ?_)) (s_call (fuint_c (hT.fr H.base) hc.hs) ?_))⟩
    rintro _ u ⟨rfl, f⟩
    have H := H.fr0 f
    refine ⟨_, rfl, s_asT (s_chk c_nil ?_)⟩
    (refine h_new H fun n25 u H => ?_)
    refine s_chk c_nil ?_
    refine s_call (join_c (l := [[119, 111, 114, 108, 100], dI c.n, dI c.p, dI c.b, dI c.c, dU c.seed]) (rowsAt_cells (ty := 9) (sp := []) (sr1 _) (H.cells (by repeat (first | exact pick_head | apply pick_tail | apply pick_app)))) rfl (by decide) (by simp) (by simp) (by have := wlen; unfold worldL at this; omega)) ?_
    rintro _ u ⟨rfl, f⟩
    have H := H.fr0 f
    refine ⟨_, rfl, s_asT (s_chk c_nil ?_)⟩
    have hcb : Cells u n9 67 [.pointer none, .slice none 0 0] := H.cells (by repeat (first | exact pick_head | apply pick_tail | apply pick_app))
    have hge : w.heap.size ≤ n9 := H.new (cl n9 67 [.pointer none, .slice none 0 0]) (by simp)
    rw [show joinL [[119, 111, 114, 108, 100], dI c.n, dI c.p, dI c.b, dI c.c, dU c.seed] = worldL c from rfl]
    simp only [S_app, S_size]
    refine s_req (by omega) (s_call (wstr_c (bld_new hcb) (by simp; omega) (Nat.le_of_lt hcb.lt)) ?_)
    rintro _ u2 ⟨rfl, hb, f2⟩
    have hB : Below w.heap.size w u2 := (H.base.below (Nat.le_refl _)).trans (f2.mono hge)
    have hsz9 : n9 ≤ u2.heap.size := Nat.le_trans (Nat.le_of_lt hcb.lt) f2.size
    refine ⟨_, rfl, s_asU (s_req rfl (s_asI (s_chk c_nil ?_)))⟩
    clear H hcb f f2
    rw [List.nil_append] at hb
    refine s_loop (fun vs W => ∃ (i : Nat) (acc : List UInt8), vs = [.int .i64 i] ∧ i ≤ l.length ∧ printF acc ((l.map (·.x)).drop i) = printF (worldL c ++ [10]) (l.map (·.x)) ∧ acc.length ≤ 201 + i * 1073741824 ∧ Below w.heap.size w W ∧ n9 ≤ W.heap.size ∧ Bld n9 n9 (Lib.byteCells acc) W)
      (fun vs _ => l.length - (intOf (vs.getD 0 undef)).toNat) ⟨0, worldL c ++ [10], rfl, by omega, rfl, by rw [List.length_append]; simp; omega, hB, hsz9, hb⟩ ?_
    clear hb hB hsz9
    rintro _ j W ⟨i, acc, rfl, hi, hacc, hal, hB, hsz9, hb⟩
    have hF : Fr [] w W := Fr.of_below hB
    refine s_asI (s_ite (fun g1 => ?_) (fun g1 => ?_))
    · simp only [decide_eq_true_eq] at g1
      obtain ⟨p, hp⟩ : ∃ c, l[i]? = some c := ⟨_, List.getElem?_eq_getElem (by omega)⟩
      have hpm := List.mem_of_getElem? hp
      obtain ⟨g2, off, rfl, _, hcell⟩ := RowsAt.at (h.rows.fr hF) (j := i) (r := sxr p) (by simp [hp])
      have hdrop : (l.map (·.x)).drop i = p.x :: (l.map (·.x)).drop (i + 1) := by
        have hp2 : (l.map (·.x))[i]? = some p.x := by rw [List.getElem?_map, hp]; rfl
        obtain ⟨ha, hb⟩ := List.getElem?_eq_some_iff.1 hp2
        rw [List.drop_eq_getElem_cons ha, hb]
      rw [hdrop, printF] at hacc
      refine s_req ⟨by omega, by omega⟩ (s_sm (s_loadI (hcell 0 _ rfl) (s_loadI (hcell 1 _ rfl) (s_loadI (hcell 2 _ rfl) (s_loadI (hcell 3 _ rfl) (s_loadI (hcell 4 _ rfl) (s_loadS (hcell 5 _ rfl) (s_loadS (hcell 6 _ rfl) (s_loadS (hcell 7 _ rfl) (s_loadS (hcell 8 _ rfl) (s_loadS (hcell 9 _ rfl) (s_loadI (hcell 10 _ rfl) (s_loadI (hcell 11 _ rfl) (s_loadI (hcell 12 _ rfl) (s_loadI (hcell 13 _ rfl) (s_loadI (hcell 14 _ rfl) (s_loadI (hcell 15 _ rfl) ?_)))))))))))))))))
      refine h_new (Has.init W) fun n62 u H => ?_
      iterate 16 (refine h_st H (b := n62) (by repeat (first | exact pick_head | apply pick_tail | apply pick_app)) (by first | (simp; done) | exact Nat.le_of_ble_eq_true rfl) rfl fun u H => ?_; simp only [List.set_cons_zero, List.set_cons_succ] at H)
      iterate 5 refine h_ldI H (b := n62) (by repeat (first | exact pick_head | apply pick_tail | apply pick_app)) rfl ?_
      iterate 5 refine h_ldS H (b := n62) (by repeat (first | exact pick_head | apply pick_tail | apply pick_app)) rfl ?_
      iterate 6 refine h_ldI H (b := n62) (by repeat (first | exact pick_head | apply pick_tail | apply pick_app)) rfl ?_
      have hF2 := hF.trans H.base
      refine s_call (step_c (x := p.x) (v := p.v) (hT.fr hF2) (stFr (h.at_ p hpm) hF2) (hl p hpm)) ?_
      rintro _ u3 ⟨rfl, f3⟩
      have hF3 := H.base.trans f3
      have hsl := stepR_len (hl p hpm)
      refine ⟨_, rfl, s_asU (s_req rfl (s_asT (s_asI (s_ite (fun g4 => ?_) (fun g4 => ?_)))))⟩
      · have g4 : (stepR p.x).2 ≠ 0 := by simpa using g4
        rw [if_pos g4] at hacc
        exact s_ret ⟨by rw [← hacc], hF.trans hF3⟩
      · have g4 : (stepR p.x).2 = 0 := by simpa using g4
        rw [if_neg (by simpa using g4)] at hacc
        have hsz3 : n9 ≤ u3.heap.size := Nat.le_trans hsz9 hF3.size
        simp only [S_app, S_size]
        refine s_req (by omega) (s_call (wstr_c (bld_fr hb hF3) (by rw [Lib.byteCells_length, List.length_append]; simp; omega) hsz3) ?_)
        rintro _ u4 ⟨rfl, hb4, f4⟩
        refine ⟨_, rfl, s_asU (s_req rfl (s_asI (s_next (by first | exact ⟨rfl, rfl⟩ | trivial) ?_)))⟩
        simp (config := { decide := true }) only [if_true, if_false]
        refine ⟨⟨i + 1, acc ++ ((stepR p.x).1 ++ [10]), by rw [w_succ (by omega)], by omega, hacc, ?_, (hB.trans (hF3.below hB.size)).trans (f4.mono hge), Nat.le_trans hsz3 f4.size, ?_⟩, by rw [w_succ (by omega)]; simp [intOf] <;> omega⟩
        · rw [List.length_append, List.length_append, Nat.add_mul]
          simp
          omega
        · rw [byteCells_append]
          exact hb4
    · simp only [decide_eq_false_iff_not] at g1
      rw [List.drop_eq_nil_of_le (by rw [List.length_map]; omega), printF] at hacc
      refine s_call (string_c hb hsz9) ?_
      rintro _ u5 ⟨rfl, f5⟩
      refine ⟨_, rfl, s_asT (s_ret ⟨by rw [← hacc], Fr.of_below (hB.trans (f5.mono hge))⟩)⟩
end
end Go.Proofs.YtihipcofjpnfbaaGreatDoor
