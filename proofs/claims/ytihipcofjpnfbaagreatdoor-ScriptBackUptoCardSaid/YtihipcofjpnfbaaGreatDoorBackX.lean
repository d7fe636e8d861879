/- A script's text: printed, it is read back; read, it is printed as it stood. Plain. -/
import Derived.Test.YtihipcofjpnfbaaGreatDoorParX
import Derived.Test.YtihipcofjpnfbaaGreatDoorLiveW
import Derived.Test.YtihipcofjpnfbaaGreatDoorPrint
import Derived.Test.YtihipcofjpnfbaaGreatDoorAX
import Derived.Test.YtihipcofjpnfbaaGreatDoorRows
set_option linter.unusedVariables false
set_option linter.unusedSimpArgs false
set_option maxRecDepth 100000
set_option maxHeartbeats 4000000
namespace Go.Proofs.YtihipcofjpnfbaaGreatDoor
open Go hiding Expr
open Go.RowKit Tr
/-- No line's end stands in it. -/
def NoNl (l : List UInt8) : Prop := (10 : UInt8) ∉ l
theorem dU_nl (u : Nat) : NoNl (dU u) := fun h => by
  have := dU_mem u 10 h
  simp at this
theorem dI_nl (n : Int) : NoNl (dI n) := by
  simp only [dI, Lib.itoa]
  split
  · intro h
    rcases List.mem_cons.1 h with h | h
    · simp at h
    · exact dU_nl _ h
  · exact dU_nl _
theorem dg_nl : ∀ a : Fin 16, dg a.val ≠ 10 := by decide
theorem hexL_nl {a : List Int} (ha : ∀ c ∈ a, IsByte c) : NoNl (hexL a) := by
  unfold hexL
  split
  · intro h; simp at h
  · intro h
    obtain ⟨c, hc, h⟩ := List.mem_flatMap.1 h
    have h1 := (ha c hc).1
    have h2 := (ha c hc).2
    simp only [hexW, List.mem_cons, List.not_mem_nil, or_false] at h
    rcases h with h | h
    · exact dg_nl ⟨(c / 16).toNat, by omega⟩ h.symm
    · exact dg_nl ⟨(c % 16).toNat, by omega⟩ h.symm
theorem keysW_nl (l : List K) : ∀ x ∈ keysW l, NoNl x := by
  intro x hx
  rcases List.mem_cons.1 hx with rfl | hx
  · exact dI_nl _
  · obtain ⟨k, _, hx⟩ := List.mem_flatMap.1 hx
    simp at hx
    rcases hx with rfl | rfl <;> exact dI_nl _
theorem txW_nl {t : TX} (h : TxOk t) : ∀ x ∈ txW t, NoNl x := by
  intro x hx
  simp only [txW, List.mem_cons, List.mem_append, List.append_nil] at hx
  rcases hx with rfl | rfl | rfl | rfl | hx | rfl | hx | rfl | hx
  · unfold NoNl; decide
  · exact hexL_nl h.code
  · unfold NoNl; decide
  · exact dI_nl _
  · obtain ⟨a, _, rfl⟩ := List.mem_map.1 hx
    exact dI_nl _
  · unfold NoNl; decide
  · exact keysW_nl _ x hx
  · unfold NoNl; decide
  · exact keysW_nl _ x hx
theorem fw_nl {x : ST} (hx : StOk x) : ∀ y ∈ fw x, NoNl y := by
  intro y hy
  unfold fw at hy
  repeat' split at hy
  all_goals simp only [List.mem_cons, List.not_mem_nil, or_false, List.mem_append] at hy
  · subst hy; exact dI_nl _
  · rcases hy with rfl | rfl | hy
    · exact dI_nl _
    · exact dI_nl _
    · exact txW_nl hx.tx y hy
  · subst hy; exact dI_nl _
  · rcases hy with rfl | rfl | hy
    · exact dI_nl _
    · exact dI_nl _
    · exact keysW_nl _ y hy
  · rcases hy with rfl | rfl <;> exact dI_nl _
  · rcases hy with rfl | rfl <;> exact dI_nl _
  · rcases hy with rfl | rfl | rfl | rfl <;> exact dI_nl _
  · rcases hy with rfl | rfl | rfl <;> exact dI_nl _
theorem words_nl : ∀ p ∈ forms, NoNl p.1 := by unfold NoNl; decide
theorem wordK_nl (k : Int) : NoNl (wordK k) := by
  unfold wordK
  split
  · rw [List.getD_eq_getElem?_getD]
    cases h : forms[k.toNat]? with
    | none => intro h; simp at h
    | some p => exact words_nl p (List.mem_of_getElem? h)
  · intro h; simp at h
theorem stW_nl {x : ST} (hx : StOk x) : ∀ w ∈ stW x, NoNl w := by
  intro w hw
  rcases List.mem_cons.1 hw with rfl | hw
  · exact wordK_nl _
  · exact fw_nl hx w hw

theorem joinL_nl {ws : List W} (h : ∀ w ∈ ws, NoNl w) : NoNl (joinL ws) := by
  cases ws with
  | nil => intro hh; simp [Lib.join_nil] at hh
  | cons w ws =>
    rw [joinL_jt]
    intro hh
    rcases List.mem_append.1 hh with hh | hh
    · exact h w (by simp) hh
    · obtain ⟨x, hx, hh⟩ := List.mem_flatMap.1 hh
      rcases List.mem_cons.1 hh with hh | hh
      · simp at hh
      · exact h x (by simp [hx]) hh

/-! ### The printed text -/
def linesR (l : List ST) : List UInt8 := l.flatMap fun x => (stepR x).1 ++ [10]
theorem linesR_cons (x : ST) (l : List ST) : linesR (x :: l) = (stepR x).1 ++ 10 :: linesR l := by simp [linesR]
theorem printF_ok : ∀ {l : List ST} {acc : List UInt8}, (printF acc l).2 = 0 → (∀ x ∈ l, (stepR x).2 = 0) ∧ (printF acc l).1 = acc ++ linesR l
  | [], acc, _ => ⟨by simp, by simp [printF, linesR]⟩
  | x :: r, acc, h => by
    rw [printF] at h ⊢
    by_cases hx : (stepR x).2 ≠ 0
    · rw [if_pos hx] at h
      exact absurd h hx
    · rw [if_neg hx] at h ⊢
      obtain ⟨h1, h2⟩ := printF_ok h
      refine ⟨fun y hy => ?_, ?_⟩
      · rcases List.mem_cons.1 hy with rfl | hy
        · simpa using hx
        · exact h1 y hy
      · rw [h2, linesR_cons]
        simp
theorem printF_val : ∀ {l : List ST} {acc : List UInt8}, (∀ x ∈ l, (stepR x).2 = 0) → printF acc l = (acc ++ linesR l, 0)
  | [], acc, _ => by simp [printF, linesR]
  | x :: r, acc, h => by
    rw [printF, if_neg (by simpa using h x (by simp)), printF_val (fun y hy => h y (by simp [hy])), linesR_cons]
    simp
theorem printR_ok {c : CF} {l : List ST} (h : (printR c l).2 = 0) : l.length ≤ 16384 ∧ (∀ x ∈ l, (stepR x).2 = 0) ∧ (printR c l).1 = worldL c ++ 10 :: linesR l := by
  unfold printR at h ⊢
  by_cases hl : l.length > 16384
  · rw [if_pos hl] at h
    exact absurd h (by simp)
  · rw [if_neg hl] at h ⊢
    obtain ⟨h1, h2⟩ := printF_ok h
    exact ⟨by omega, h1, by rw [h2]; simp⟩
theorem printR_val {c : CF} {l : List ST} (hl : l.length ≤ 16384) (h : ∀ x ∈ l, (stepR x).2 = 0) : printR c l = (worldL c ++ 10 :: linesR l, 0) := by
  unfold printR
  rw [if_neg (by omega), printF_val h]
  simp
theorem world_words (c : CF) : worldL c = joinL (wdW c) := rfl
theorem wdW_nb (c : CF) : ∀ w ∈ wdW c, NoBlank w := by
  intro w hw
  simp only [wdW, List.mem_cons, List.not_mem_nil, or_false] at hw
  rcases hw with rfl | rfl | rfl | rfl | rfl | rfl
  · unfold NoBlank; decide
  · exact dI_nb _
  · exact dI_nb _
  · exact dI_nb _
  · exact dI_nb _
  · exact dU_nb _
theorem wdW_nl (c : CF) : ∀ w ∈ wdW c, NoNl w := by
  intro w hw
  simp only [wdW, List.mem_cons, List.not_mem_nil, or_false] at hw
  rcases hw with rfl | rfl | rfl | rfl | rfl | rfl
  · unfold NoNl; decide
  · exact dI_nl _
  · exact dI_nl _
  · exact dI_nl _
  · exact dI_nl _
  · exact dU_nl _
theorem spl_world (c : CF) : spl (worldL c) = wdW c := by
  rw [world_words]
  exact spl_join (by simp [wdW]) (wdW_nb c)
theorem world_nl (c : CF) : NoNl (worldL c) := by
  rw [world_words]
  exact joinL_nl (wdW_nl c)
theorem line_nl {x : ST} (h : Val x) : NoNl (stepR x).1 := by
  rw [h.line]
  exact joinL_nl (stW_nl h.1)

/-- Printed steps are read back. -/
theorem par_lines {c : CF} : ∀ {l : List ST} {i : Nat} {acc : List ST}, i ≠ 1 → 1 ≤ i → i + l.length ≤ 16386 → (∀ x ∈ l, Val x) → Par i (linesR l) c acc ⟨c, acc ++ l, 0, 0⟩
  | [], i, acc, hi, _, _, _ => by
    rw [List.append_nil]
    exact .done hi
  | x :: l, i, acc, hi, h1, hl, hv => by
    have hx := hv x (by simp)
    simp only [List.length_cons] at hl
    have ih := par_lines (c := c) (l := l) (i := i + 1) (acc := acc ++ [x]) (by omega) (by omega) (by omega) (fun y hy => hv y (by simp [hy]))
    rw [List.append_assoc] at ih
    rw [linesR_cons]
    exact .step hi (by omega) (cutC_app (line_nl hx)) hx hx.spl ih
theorem par_print {c : CF} {l : List ST} (hc : CfOk c) (hl : l.length ≤ 16384) (hv : ∀ x ∈ l, Val x) : Par 1 (worldL c ++ 10 :: linesR l) cf0 [] ⟨c, l, 0, 0⟩ := by
  have := par_lines (c := c) (l := l) (i := 2) (acc := []) (by omega) (by omega) (by omega) hv
  exact .world (cutC_app (world_nl c)) hc (spl_world c) this
/-- What is read is printed as it stood. -/
theorem par_back {i : Nat} {t : List UInt8} {c : CF} {l : List ST} {res : PRes} (h : Par i t c l res) : 1 ≤ i → res.e = 0 → res.k = 0 ∧ (i ≠ 1 → res.c = c ∧ ∃ m, res.l = l ++ m ∧ (∀ x ∈ m, Val x) ∧ t = linesR m) ∧ (i = 1 → CfOk res.c ∧ (∀ x ∈ res.l, Val x) ∧ t = worldL res.c ++ 10 :: linesR res.l) := by
  induction h with
  | done hi => exact fun _ _ => ⟨rfl, fun _ => ⟨rfl, [], by simp, by simp, rfl⟩, fun h => absurd h hi⟩
  | long => exact fun _ h => absurd h (by simp)
  | raw => exact fun _ h => absurd h (by simp)
  | badW => exact fun _ h => absurd h (by simp)
  | badS => exact fun _ h => absurd h (by simp)
  | world hc hy hs hn ih =>
    intro hi1 he
    obtain ⟨h1, h2, _⟩ := ih (by omega) he
    obtain ⟨h3, m, h4, h5, h6⟩ := h2 (by omega)
    refine ⟨h1, fun h => absurd rfl h, fun _ => ⟨by rw [h3]; exact hy, by rw [h4]; simpa using h5, ?_⟩⟩
    have e1 := (cutC_some hc).1
    have e2 := join_spl _ |>.symm.trans (congrArg joinL hs)
    rw [e1, e2, h6, h3, h4, world_words]
    rfl
  | step hi hl hc hy hs hn ih =>
    intro hi1 he
    obtain ⟨h1, h2, _⟩ := ih (by omega) he
    obtain ⟨h3, m, h4, h5, h6⟩ := h2 (by omega)
    refine ⟨h1, fun _ => ⟨h3, _ :: m, by rw [h4, List.append_assoc]; rfl, fun x hx => ?_, ?_⟩, fun h => absurd h hi⟩
    · rcases List.mem_cons.1 hx with rfl | hx
      · exact hy
      · exact h5 x hx
    · rw [(cutC_some hc).1, hy.of_spl hs, h6, linesR_cons]

/-! ### How long it is -/
def wtT (t : TX) : Nat := t.code.length + t.args.length + 2 * t.rd.length + 2 * t.wr.length
def wtX (x : ST) : Nat := 16 + wtT x.tx + 2 * x.keys.length
theorem jt_len1 (a : W) (r : List W) : (jt (a :: r)).length = a.length + 1 + (jt r).length := by rw [jt_cons]; simp; omega
theorem jt_lenA (a b : List W) : (jt (a ++ b)).length = (jt a).length + (jt b).length := by rw [jt_append, List.length_append]
theorem keysW_len {l : List K} (h : ∀ k ∈ l, InK k) (hl : l.length ≤ 1048576) : (jt (keysW l)).length ≤ 22 + 44 * l.length ∧ (keysW l).length = 1 + 2 * l.length ∧ ∀ w ∈ keysW l, w.length ≤ 21 := by
  have h1 := dI_len (nat64 (n := l.length) (by omega))
  have h2 := jt_len (kw_le h)
  rw [kw_len] at h2
  refine ⟨?_, ?_, fun w hw => ?_⟩
  · unfold keysW
    rw [jt_len1]
    omega
  · unfold keysW
    rw [List.length_cons, kw_len]
    omega
  · rcases List.mem_cons.1 hw with rfl | hw
    · exact h1
    · exact kw_le h w hw
theorem txW_lens {t : TX} (h : TxOk t) (hs : wtT t ≤ 1048560) : (jt (txW t)).length ≤ 91 + 22 * wtT t ∧ (txW t).length ≤ 8 + wtT t ∧ ∀ w ∈ txW t, w.length ≤ 2097152 := by
  obtain ⟨r1, r2, r3⟩ := keysW_len h.rd h.szr
  obtain ⟨w1, w2, w3⟩ := keysW_len h.wr h.szw
  have ha := jt_len (args_le h t.args.length)
  rw [List.take_of_length_le (Nat.le_refl _), List.length_map] at ha
  have hc := hexL_len t.code
  have hd := dI_len (nat64 (n := t.args.length) (by have := h.sza; omega))
  have c1 : wCode.length = 4 := rfl
  have c2 : wArgs.length = 4 := rfl
  have c3 : wReads.length = 5 := rfl
  have c4 : wWrites.length = 6 := rfl
  unfold wtT at hs ⊢
  refine ⟨?_, ?_, fun w hw => ?_⟩
  · unfold txW
    rw [jt_len1, jt_len1, jt_len1, jt_len1, jt_lenA, jt_len1, jt_lenA, jt_len1, List.append_nil]
    omega
  · unfold txW
    simp only [List.length_cons, List.length_append, List.length_map, List.length_nil]
    omega
  · simp only [txW, List.mem_cons, List.mem_append, List.append_nil] at hw
    rcases hw with rfl | rfl | rfl | rfl | hw | rfl | hw | rfl | hw
    · omega
    · omega
    · omega
    · omega
    · have := args_le h t.args.length w (by rwa [List.take_of_length_le (Nat.le_refl _)])
      omega
    · omega
    · have := r3 w hw
      omega
    · omega
    · have := w3 w hw
      omega
theorem wordK_le (k : Int) : (wordK k).length ≤ 8 := by
  have h : ∀ p ∈ forms, p.1.length ≤ 8 := by decide
  unfold wordK
  split
  · rw [List.getD_eq_getElem?_getD]
    cases hk : forms[k.toNat]? with
    | none => simp
    | some p => exact h p (List.mem_of_getElem? hk)
  · simp
theorem fw_lens {x : ST} (hx : StOk x) (hs : wtX x ≤ 1048576) : (jt (fw x)).length ≤ 330 + 22 * (wtX x - 16) ∧ (fw x).length ≤ wtX x - 4 ∧ ∀ w ∈ fw x, w.length ≤ 2097152 := by
  have a1 := dI_len hx.at_
  have a2 := dI_len hx.client
  have a3 := dI_len hx.frm
  have a4 := dI_len hx.dst
  have a5 := dI_len hx.place
  have a6 := dI_len (n := x.wth) ⟨by have := hx.wth.1; omega, by have := hx.wth.2; omega⟩
  have a7 := dI_len hx.keep
  have a8 := dI_len hx.count
  unfold wtX at hs ⊢
  obtain ⟨t1, t2, t3⟩ := txW_lens hx.tx (by omega)
  obtain ⟨k1, k2, k3⟩ := keysW_len hx.keys hx.szk
  have hj : (jt []).length = 0 := rfl
  refine ⟨?_, ?_, fun w hw => ?_⟩
  · unfold fw
    repeat' split
    all_goals (try simp only [List.append_nil, jt_len1, hj])
    all_goals omega
  · unfold fw
    repeat' split
    all_goals simp only [List.append_nil, List.length_cons, List.length_nil]
    all_goals omega
  · unfold fw at hw
    repeat' split at hw
    all_goals simp only [List.mem_cons, List.not_mem_nil, or_false, List.append_nil] at hw
    · subst hw; omega
    · rcases hw with rfl | rfl | hw
      · omega
      · omega
      · exact t3 w hw
    · subst hw; omega
    · rcases hw with rfl | rfl | hw
      · omega
      · omega
      · have := k3 w hw
        omega
    · rcases hw with rfl | rfl <;> omega
    · rcases hw with rfl | rfl <;> omega
    · rcases hw with rfl | rfl | rfl | rfl <;> omega
    · rcases hw with rfl | rfl | rfl <;> omega
theorem stW_wc {x : ST} (hx : StOk x) (hs : wtX x ≤ 1048576) : WC (stW x) := by
  obtain ⟨h1, h2, h3⟩ := fw_lens hx hs
  refine ⟨?_, fun w hw => ?_⟩
  · unfold stW
    rw [List.length_cons]
    unfold wtX at hs h2
    omega
  · rcases List.mem_cons.1 hw with rfl | hw
    · have := wordK_le x.kind
      omega
    · exact h3 w hw
theorem wdW_wc {c : CF} (h : CfOk c) : WC (wdW c) := by
  have h1 := dI_len h.hn
  have h2 := dI_len h.hp
  have h3 := dI_len h.hb
  have h4 := dI_len h.hc
  have h5 := dU_len h.hs
  refine ⟨by simp [wdW], fun w hw => ?_⟩
  simp only [wdW, List.mem_cons, List.not_mem_nil, or_false] at hw
  rcases hw with rfl | rfl | rfl | rfl | rfl | rfl
  · simp
  all_goals omega
theorem line_len {x : ST} (hx : Val x) (hs : wtX x ≤ 1048576) : (stepR x).1.length + 1 ≤ 40 * wtX x := by
  obtain ⟨h1, h2, h3⟩ := fw_lens hx.1 hs
  have := wordK_le x.kind
  rw [hx.line, stW, joinL_jt, List.length_append]
  unfold wtX at hs h1 ⊢
  omega
theorem lines_len : ∀ {l : List ST}, (∀ x ∈ l, Val x) → (l.map wtX).sum ≤ 1048576 → (linesR l).length ≤ 40 * (l.map wtX).sum
  | [], _, _ => by simp [linesR]
  | x :: l, hv, hs => by
    rw [List.map_cons, List.sum_cons] at hs ⊢
    have h1 := line_len (hv x (by simp)) (by omega)
    have h2 := lines_len (fun y hy => hv y (by simp [hy])) (by omega : (l.map wtX).sum ≤ 1048576)
    rw [linesR_cons, List.length_append, List.length_cons]
    omega
theorem lok_lines : ∀ {l : List ST}, (∀ x ∈ l, Val x) → (l.map wtX).sum ≤ 1048576 → LOk (linesR l)
  | [], _, _ => .none rfl
  | x :: l, hv, hs => by
    rw [List.map_cons, List.sum_cons] at hs
    have hx := hv x (by simp)
    rw [linesR_cons]
    exact .some (cutC_app (line_nl hx)) (by rw [hx.spl]; exact stW_wc hx.1 (by omega)) (lok_lines (fun y hy => hv y (by simp [hy])) (by omega))
theorem lok_print {c : CF} {l : List ST} (hc : CfOk c) (hv : ∀ x ∈ l, Val x) (hs : (l.map wtX).sum ≤ 1048576) : LOk (worldL c ++ 10 :: linesR l) ∧ (worldL c ++ 10 :: linesR l).length ≤ 67108864 := by
  refine ⟨.some (cutC_app (world_nl c)) (by rw [spl_world]; exact wdW_wc hc) (lok_lines hv hs), ?_⟩
  have h1 := worldL_len hc
  have h2 := lines_len hv hs
  rw [List.length_append, List.length_cons]
  omega
end Go.Proofs.YtihipcofjpnfbaaGreatDoor

/- Two scripts are the same. -/
set_option linter.unusedVariables false
set_option linter.unusedSimpArgs false
set_option maxRecDepth 100000
set_option maxHeartbeats 8000000
namespace Go.Proofs.YtihipcofjpnfbaaGreatDoor
open Go hiding Expr
open Go.RowKit Tr
deriving instance DecidableEq for CF
section
variable {w : World} {c d : CF} {o1 o2 : Option Addr} {l m : List SX} {n1 n2 c1 c2 : Nat}
theorem same_c (h1 : StepsAt w o1 l) (h2 : StepsAt w o2 m) (hl : StepsOk l) (hm : StepsOk m) (e1 : n1 = l.length) (e2 : n2 = m.length) (hsz : l.length ≤ 1048576) :
    Calls Tryz.prog 8 #[.agg ⟨cfv c⟩, .agg ⟨cfv d⟩, .slice o1 n1 c1, .slice o2 n2 c2] w fun e w' => e = .returned (.bool (decide (c = d ∧ l.map (·.x) = m.map (·.x)))) ∧ Fr [] w w' := by
  subst e1
  subst e2
  apply c8
  refine h_new (Has.init w) fun n16 u H => h_new H fun n17 u H => ?_
  refine s_blk (fun vs U => vs = [] ∧ c = d ∧ l.length = m.length ∧ Fr [] w U) ?_ ?_
  rotate_left
  · iterate 5 refine h_ldI H (b := n16) (by repeat (first | exact pick_head | apply pick_tail | apply pick_app)) rfl ?_
    iterate 5 refine h_ldI H (b := n17) (by repeat (first | exact pick_head | apply pick_tail | apply pick_app)) rfl ?_
    refine s_ite (fun g => s_ret ⟨?_, H.base⟩) (fun g => s_ite (fun g2 => s_ret ⟨?_, H.base⟩) (fun g2 => s_next ⟨rfl, rfl⟩ ?_))
    · have : ¬ (c = d ∧ l.map (·.x) = m.map (·.x)) := by
        rintro ⟨rfl, _⟩
        simp at g
      rw [decide_eq_false this]
    · have : ¬ (c = d ∧ l.map (·.x) = m.map (·.x)) := by
        rintro ⟨_, h⟩
        have := congrArg List.length h
        simp at this
        simp [this] at g2
      rw [decide_eq_false this]
    · simp only [if_true]
      refine ⟨trivial, ?_, by have g2 : (l.length : Int) = m.length := by simpa using g2
                              omega, H.base⟩
      cases c
      cases d
      simp only [CF.mk.injEq]
      simp at g
      obtain ⟨a1, a2, a3, a4, a5⟩ := g
      exact ⟨a1, a2, a3, a4, by omega⟩
  clear H
  rintro _ j U ⟨rfl, rfl, hlen, hF⟩
  refine s_loop (fun vs W => ∃ i : Nat, vs = [.int .i64 i] ∧ i ≤ l.length ∧ (l.map (·.x)).take i = (m.map (·.x)).take i ∧ Fr [] w W) (fun vs _ => l.length - (intOf (vs.getD 0 undef)).toNat) ⟨0, rfl, by omega, by simp, hF⟩ ?_
  clear hF
  rintro _ j W ⟨i, rfl, hi, ht, hF⟩
  refine s_asI (s_ite (fun g1 => ?_) (fun g1 => ?_))
  · have g1 : i < l.length := by
      have g1 : (i : Int) < l.length := by simpa using g1
      omega
    obtain ⟨p, hp⟩ : ∃ p, l[i]? = some p := ⟨_, List.getElem?_eq_getElem g1⟩
    obtain ⟨q, hq⟩ : ∃ q, m[i]? = some q := ⟨_, List.getElem?_eq_getElem (by omega)⟩
    have hpx : (l.map (·.x))[i]? = some p.x := by rw [List.getElem?_map, hp]; rfl
    have hqx : (m.map (·.x))[i]? = some q.x := by rw [List.getElem?_map, hq]; rfl
    have hpm := List.mem_of_getElem? hp
    have hqm := List.mem_of_getElem? hq
    refine s_drew fun u _ f0 => ?_
    have hF := hF.trans f0
    obtain ⟨ga, oa, rfl, _, hca⟩ := RowsAt.at (h1.rows.fr hF) (j := i) (r := sxr p) (by simp [hp])
    obtain ⟨gb, ob, rfl, _, hcb⟩ := RowsAt.at (h2.rows.fr hF) (j := i) (r := sxr q) (by simp [hq])
    refine s_req ⟨by omega, by omega⟩ (s_sm (s_loadI (hca 0 _ rfl) (s_loadI (hca 1 _ rfl) (s_loadI (hca 2 _ rfl) (s_loadI (hca 3 _ rfl) (s_loadI (hca 4 _ rfl) (s_loadS (hca 5 _ rfl) (s_loadS (hca 6 _ rfl) (s_loadS (hca 7 _ rfl) (s_loadS (hca 8 _ rfl) (s_loadS (hca 9 _ rfl) (s_loadI (hca 10 _ rfl) (s_loadI (hca 11 _ rfl) (s_loadI (hca 12 _ rfl) (s_loadI (hca 13 _ rfl) (s_loadI (hca 14 _ rfl) (s_loadI (hca 15 _ rfl) ?_)))))))))))))))))
    refine s_req ⟨by omega, by omega⟩ (s_sm (s_loadI (hcb 0 _ rfl) (s_loadI (hcb 1 _ rfl) (s_loadI (hcb 2 _ rfl) (s_loadI (hcb 3 _ rfl) (s_loadI (hcb 4 _ rfl) (s_loadS (hcb 5 _ rfl) (s_loadS (hcb 6 _ rfl) (s_loadS (hcb 7 _ rfl) (s_loadS (hcb 8 _ rfl) (s_loadS (hcb 9 _ rfl) (s_loadI (hcb 10 _ rfl) (s_loadI (hcb 11 _ rfl) (s_loadI (hcb 12 _ rfl) (s_loadI (hcb 13 _ rfl) (s_loadI (hcb 14 _ rfl) (s_loadI (hcb 15 _ rfl) ?_)))))))))))))))))
    refine s_call (same_step_c (x := p.x) (y := q.x) (v := p.v) (v' := q.v) (stFr (h1.at_ p hpm) hF) (stFr (h2.at_ q hqm) hF) (hl p hpm) (hm q hqm)) ?_
    rintro _ u3 ⟨rfl, f3⟩
    have hF := hF.trans f3
    refine ⟨_, rfl, s_asB (s_chk c_nil (s_ite (fun g2 => s_ret ⟨?_, hF⟩) (fun g2 => s_next ⟨rfl, rfl⟩ ?_)))⟩
    · have g2 : ¬ p.x = q.x := by simpa using g2
      have : ¬ (c = c ∧ l.map (·.x) = m.map (·.x)) := by
        rintro ⟨_, h⟩
        rw [h, hqx] at hpx
        exact g2 (Option.some.inj hpx).symm
      rw [decide_eq_false this]
    · have g2 : p.x = q.x := by simpa using g2
      simp (config := { decide := true }) only [if_true, if_false]
      exact ⟨⟨i + 1, by rw [w_succ (by omega)], by omega, take_same ht hpx hqx g2, hF⟩, by rw [w_succ (by omega)]; simp [intOf] <;> omega⟩
  · have g1 : i = l.length := by
      have g1 : ¬ (i : Int) < l.length := by simpa using g1
      omega
    subst g1
    rw [List.take_of_length_le (by rw [List.length_map]; omega), List.take_of_length_le (by rw [List.length_map]; omega)] at ht
    exact s_ret ⟨by rw [decide_eq_true ⟨rfl, ht⟩], hF⟩
end
end Go.Proofs.YtihipcofjpnfbaaGreatDoor

/- The law ScriptBack. -/
set_option linter.unusedVariables false
set_option linter.unusedSimpArgs false
set_option maxRecDepth 100000
set_option maxHeartbeats 8000000
namespace Go.Proofs.YtihipcofjpnfbaaGreatDoor
open Go hiding Expr
open Go.RowKit Tr
theorem u8_bytes (s : List UInt8) : ∀ c ∈ u8 s, IsByte c := by
  intro c hc
  unfold u8 at hc
  obtain ⟨b, _, rfl⟩ := List.mem_map.1 hc
  exact u8_byte b
theorem hexL_le {l : List Int} (h : l.length ≤ 1048576) : (hexL l).length ≤ 2097152 := by
  unfold hexL
  split
  · simp
  · rw [hexs_len]; omega
theorem lawBack_c {w : World} {c : CF} {o : Option Addr} {X : List SX} {n cap : Nat} {s : List UInt8} (hT : Tab w) (hE : ErrAt w) (hc : CfOk c) (hX : StepsAt w o X) (hXo : StepsOk X) (hn : n = X.length) (hlen : X.length ≤ 1048576)
    (hsum : ((X.map (·.x)).map wtX).sum ≤ 1048576) (hsz : s.length ≤ 1048576) : Calls Tryz.prog 4 #[.agg ⟨cfv c⟩, .slice o n cap, .string (S s)] w fun e w' => e = .returned (.bool true) ∧ Fr [] w w' := by
  subst hn
  apply c4
  refine h_new (Has.init w) fun n9 u H => ?_
  simp only [cfv] at H
  iterate 5 refine h_ldI H (b := n9) (by repeat (first | exact pick_head | apply pick_tail | apply pick_app)) rfl ?_
  refine s_call (print_c (c := c) (hT.fr H.base) hc (stepsFr hX H.base) hXo rfl hlen) ?_
  rintro _ u ⟨rfl, f⟩
  have H := H.fr0 f
  refine ⟨_, rfl, s_asU (s_req rfl (s_asT (s_asI ?_)))⟩
  refine s_blk (fun vs U => vs = [] ∧ Has w U [cl n9 24 [.int .i64 c.n, .int .i64 c.p, .int .i64 c.b, .int .i64 c.c, .int .u64 c.seed]]) ?_ ?_
  rotate_left
  · iterate 5 refine h_ldI H (b := n9) (by repeat (first | exact pick_head | apply pick_tail | apply pick_app)) rfl ?_
    refine s_call (rprint_c (c := c) (hT.fr H.base) hc (stepsFr hX H.base) hXo rfl hlen) ?_
    rintro _ u ⟨rfl, f⟩
    have H := H.fr0 f
    refine ⟨_, rfl, s_asU (s_req rfl (s_asT (s_asI (s_false (by simp) (s_call (live_c (hT.fr H.base)) ?_)))))⟩
    rintro _ u ⟨rfl, f⟩
    have H := H.fr0 f
    refine ⟨_, rfl, s_asB (s_false rfl (s_next ⟨rfl, rfl⟩ ?_))⟩
    simp only [if_true]
    exact ⟨trivial, H⟩
  clear H
  rintro _ j U ⟨rfl, H⟩
  refine s_blk (fun vs U => vs = [] ∧ ∃ m, Has w U m) ?_ ?_
  rotate_left
  · refine s_ite (fun g => ?_) (fun g => s_next ⟨rfl, rfl⟩ ?_)
    rotate_left
    · simp only [if_true]
      exact ⟨trivial, _, H⟩
    · have g : (printR c (X.map (·.x))).2 = 0 := by simpa using g
      obtain ⟨hl, hval, heq⟩ := printR_ok g
      have hv : ∀ x ∈ X.map (·.x), Val x := fun x hx => ⟨by
        obtain ⟨p, hp, rfl⟩ := List.mem_map.1 hx
        exact hXo p hp, hval x hx⟩
      obtain ⟨hlo, hsz2⟩ := lok_print hc hv hsum
      rw [heq]
      refine s_call2 (parse_c (hT.fr H.base) (errFr hE H.base) hsz2 hlo) ?_
      rintro e u2 ⟨d, l, k, er, o2, cap2, m2, hp, hd, hl2, hll, rfl, H2, hL⟩
      have hdet := hp.det (par_print hc hl hv)
      have e1 := congrArg PRes.c hdet
      have e2 := congrArg PRes.l hdet
      have e4 := congrArg PRes.e hdet
      simp only at e1 e2 e4
      subst e1 e4
      have H := H.join H2
      refine ⟨_, rfl, s_asU (s_req rfl (s_asA (s_req rfl ?_)))⟩
      iterate 5 refine s_asI ?_
      refine s_asS (s_asI (s_asI (h_new H fun n76 u H => ?_)))
      iterate 5 (refine h_st H (b := n76) pick_head (by first | (simp; done) | exact Nat.le_of_ble_eq_true rfl) rfl fun u H => ?_; simp only [List.set_cons_zero, List.set_cons_succ] at H)
      refine s_false rfl ?_
      iterate 5 refine h_ldI H (b := n9) (by repeat (first | exact pick_head | apply pick_tail | apply pick_app)) rfl ?_
      iterate 5 refine h_ldI H (b := n76) (by repeat (first | exact pick_head | apply pick_tail | apply pick_app)) rfl ?_
      refine s_call (same_c (c := d) (d := d) (stepsFr hX H.base) (hL w _ (H.sub (by repeat (first | exact sb_refl | exact sb_nil | refine sb_cons (by repeat (first | exact pick_head | apply pick_tail | apply pick_app)) ?_ | refine sb_app (by repeat (first | exact cut_head | exact cut_all | apply cut_tail | apply cut_app)) ?_ | exact sb_one (by repeat (first | exact cut_head | exact cut_all | apply cut_tail | apply cut_app)))))) hXo (fun p hp => (hl2 p hp).1) rfl rfl hlen) ?_
      rintro _ u ⟨rfl, f⟩
      have H := H.fr0 f
      rw [decide_eq_true (⟨rfl, e2.symm⟩ : d = d ∧ X.map (·.x) = l.map (·.x))]
      refine ⟨_, rfl, s_asB (s_false rfl (s_next ⟨rfl, rfl⟩ ?_))⟩
      simp only [if_true]
      exact ⟨trivial, _, H⟩
  clear H
  rintro _ j2 U ⟨rfl, m, H⟩
  refine s_call2 (parse_c (hT.fr H.base) (errFr hE H.base) (by omega) (LOk.short _ hsz (Nat.le_refl _))) ?_
  rintro e u2 ⟨d, l, k, er, o2, cap2, m2, hp, hd, hl2, hll, rfl, H2, hL⟩
  have H := H.join H2
  refine ⟨_, rfl, s_asU (s_req rfl (s_asA (s_req rfl ?_)))⟩
  iterate 5 refine s_asI ?_
  refine s_asS (s_asI (s_asI (h_new H fun n36 u H => ?_)))
  iterate 5 (refine h_st H (b := n36) pick_head (by first | (simp; done) | exact Nat.le_of_ble_eq_true rfl) rfl fun u H => ?_; simp only [List.set_cons_zero, List.set_cons_succ] at H)
  refine s_blk (fun vs U => vs = [] ∧ ∃ m, Has w U m) ?_ ?_
  rotate_left
  · refine s_ite (fun g => ?_) (fun g => s_next ⟨rfl, rfl⟩ ?_)
    rotate_left
    · simp only [if_true]
      exact ⟨trivial, _, H⟩
    · have g : er = 0 := by simpa using g
      subst g
      obtain ⟨hk, _, hb⟩ := par_back hp (Nat.le_refl _) rfl
      obtain ⟨_, hv, ht⟩ := hb rfl
      simp only at hk hv ht
      subst hk
      have hpr : printR d (l.map (·.x)) = (s, 0) := by rw [printR_val (by rw [List.length_map]; omega) (fun x hx => (hv x hx).2), ← ht]
      iterate 5 refine h_ldI H (b := n36) (by repeat (first | exact pick_head | apply pick_tail | apply pick_app)) rfl ?_
      refine s_call (print_c (c := d) (hT.fr H.base) hd (hL w _ (H.sub (by repeat (first | exact sb_refl | exact sb_nil | refine sb_cons (by repeat (first | exact pick_head | apply pick_tail | apply pick_app)) ?_ | refine sb_app (by repeat (first | exact cut_head | exact cut_all | apply cut_tail | apply cut_app)) ?_ | exact sb_one (by repeat (first | exact cut_head | exact cut_all | apply cut_tail | apply cut_app)))))) (fun p hp => (hl2 p hp).1) rfl (by omega)) ?_
      rintro _ u ⟨rfl, f⟩
      have H := H.fr0 f
      rw [hpr]
      refine ⟨_, rfl, s_asU (s_req rfl (s_asT (s_asI (s_false rfl (s_false (by simp) (s_false rfl (s_next ⟨rfl, rfl⟩ ?_)))))))⟩
      simp only [if_true]
      exact ⟨trivial, _, H⟩
  clear H H2 hL hp
  rintro _ j3 U ⟨rfl, m, H⟩
  refine s_toBytes (B := w.heap.size) H.base.size (by omega) fun o1 n1 cap1 u1 hb f1 => s_asS ?_
  have H := H.fr0 f1
  have hul : (u8 s).length = s.length := u8_len s
  refine s_call (hex_c hb.at (by rw [hul]; exact hb.len) (u8_bytes s) (by omega)) ?_
  rintro _ u ⟨rfl, f⟩
  have H := H.fr0 f
  refine ⟨_, rfl, s_asT (s_call (unhex_c (errFr hE H.base) (hexL_le (by omega))) ?_)⟩
  rintro _ u ⟨vc, cc, rfl, hoc, H2⟩
  obtain ⟨oc, capc, rfl⟩ := hoc.slice
  rw [unh_hexL (u8_bytes s)] at hoc ⊢
  have H := H.join H2
  refine ⟨_, rfl, s_asU (s_req rfl (s_asS (s_asB (s_true rfl ?_))))⟩
  refine s_str bytesT byteT strT (l := u8 s) (bytAt_own hoc H (by repeat (first | exact cut_head | exact cut_all | apply cut_tail | apply cut_app))) rfl ?_
  rw [str_u8]
  exact s_asT (s_ret ⟨by rw [beq_self_eq_true], H.base⟩)
end Go.Proofs.YtihipcofjpnfbaaGreatDoor

/- Steps and worlds that are handed in, opened. -/
set_option linter.unusedVariables false
set_option linter.unusedSimpArgs false
set_option maxRecDepth 100000
namespace Go.Proofs.YtihipcofjpnfbaaGreatDoor
open Go hiding Expr
open Go.RowKit Tr

abbrev lfI : DLeaf := .flat (.int .i64)
abbrev lfB : DLeaf := .flat (.int .u8)
abbrev lfK : List DLeaf := [.flat (.int .i32), lfI]
abbrev lfST : List DLeaf := [lfI, lfI, lfI, lfI, lfI, .lst [lfB] 134217727, .lst [lfI] 134217727, .lst lfK 134217727, .lst lfK 134217727, .lst lfK 134217727, lfI, lfI, lfI, lfB, lfI, lfI]
abbrev lfCF : List DLeaf := [lfI, lfI, lfI, lfI, .flat (.int .u64)]
theorem in64_wf {n : Int} (h : (Lit.int .i64 n).wf = true) : In64 n := by
  simp [Lit.wf, IntKind.min, IntKind.max, IntKind.signed, IntKind.bits] at h
  exact ⟨by omega, by omega⟩
theorem byte_wf {n : Int} (h : (Lit.int .u8 n).wf = true) : IsByte n := by
  simp [Lit.wf, IntKind.min, IntKind.max, IntKind.signed, IntKind.bits] at h
  exact ⟨by omega, by omega⟩
section
variable {w : World}
theorem bytesD_of (rows : List (List Value)) (h : ∀ r ∈ rows, FitsD w [lfB] r) : ∃ l : List Int, rows = l.map br ∧ ∀ c ∈ l, IsByte c := by
  induction rows with
  | nil => exact ⟨[], rfl, by simp⟩
  | cons r rows ih =>
    obtain ⟨l, rfl, hl⟩ := ih (fun r hr => h r (by simp [hr]))
    obtain ⟨a, _, rfl, w1, h1⟩ := (h r (by simp)).int
    obtain rfl := h1.nil
    refine ⟨a :: l, rfl, fun y hy => ?_⟩
    rcases List.mem_cons.1 hy with rfl | hy
    · exact byte_wf w1
    · exact hl y hy
theorem intsD_of (rows : List (List Value)) (h : ∀ r ∈ rows, FitsD w [lfI] r) : ∃ l : List Int, rows = l.map ir ∧ ∀ c ∈ l, In64 c := by
  induction rows with
  | nil => exact ⟨[], rfl, by simp⟩
  | cons r rows ih =>
    obtain ⟨l, rfl, hl⟩ := ih (fun r hr => h r (by simp [hr]))
    obtain ⟨a, _, rfl, w1, h1⟩ := (h r (by simp)).int
    obtain rfl := h1.nil
    refine ⟨a :: l, rfl, fun y hy => ?_⟩
    rcases List.mem_cons.1 hy with rfl | hy
    · exact in64_wf w1
    · exact hl y hy
theorem keysD_of (rows : List (List Value)) (h : ∀ r ∈ rows, FitsD w lfK r) : ∃ l : List K, rows = l.map kr ∧ ∀ k ∈ l, InK k := by
  induction rows with
  | nil => exact ⟨[], rfl, by simp⟩
  | cons r rows ih =>
    obtain ⟨l, rfl, hl⟩ := ih (fun r hr => h r (by simp [hr]))
    obtain ⟨a, _, rfl, w1, h1⟩ := (h r (by simp)).int
    obtain ⟨b, _, rfl, w2, h2⟩ := h1.int
    obtain rfl := h2.nil
    refine ⟨⟨a, b⟩ :: l, rfl, fun y hy => ?_⟩
    rcases List.mem_cons.1 hy with rfl | hy
    · simp [Lit.wf, IntKind.min, IntKind.max, IntKind.signed, IntKind.bits] at w1
      exact ⟨by simp only; omega, by simp only; omega, in64_wf w2⟩
    · exact hl y hy
theorem step_of {vs : List Value} (h : FitsD w lfST vs) : ∃ p : SX, vs = sxr p ∧ StAt w p.x p.v ∧ StOk p.x := by
  obtain ⟨kind, _, rfl, wk, h⟩ := h.int
  obtain ⟨at_, _, rfl, wa, h⟩ := h.int
  obtain ⟨client, _, rfl, wcl, h⟩ := h.int
  obtain ⟨s, _, rfl, ws, h⟩ := h.int
  obtain ⟨q, _, rfl, wq, h⟩ := h.int
  obtain ⟨oc, nc, cc, rc, _, rfl, hc1, _, hc2, hc3, hc4, h⟩ := h.lst
  obtain ⟨oa, na, ca, ra, _, rfl, ha1, _, ha2, ha3, ha4, h⟩ := h.lst
  obtain ⟨od, nd, cd, rd, _, rfl, hd1, _, hd2, hd3, hd4, h⟩ := h.lst
  obtain ⟨ow, nw, cw, rw', _, rfl, hw1, _, hw2, hw3, hw4, h⟩ := h.lst
  obtain ⟨ok, nk, ck, rk, _, rfl, hk1, _, hk2, hk3, hk4, h⟩ := h.lst
  obtain ⟨frm, _, rfl, wf, h⟩ := h.int
  obtain ⟨dst, _, rfl, wd, h⟩ := h.int
  obtain ⟨place, _, rfl, wp, h⟩ := h.int
  obtain ⟨wth, _, rfl, ww, h⟩ := h.int
  obtain ⟨keep, _, rfl, wkp, h⟩ := h.int
  obtain ⟨count, _, rfl, wct, h⟩ := h.int
  obtain rfl := h.nil
  obtain ⟨code, rfl, hcode⟩ := bytesD_of rc hc4
  obtain ⟨args, rfl, hargs⟩ := intsD_of ra ha4
  obtain ⟨rd, rfl, hrd⟩ := keysD_of rd hd4
  obtain ⟨wr, rfl, hwr⟩ := keysD_of rw' hw4
  obtain ⟨keys, rfl, hkeys⟩ := keysD_of rk hk4
  rw [List.length_map] at hc1 ha1 hd1 hw1 hk1
  subst hc1 ha1 hd1 hw1 hk1
  simp only [reachBytes] at hc2 ha2 hd2 hw2 hk2
  refine ⟨⟨⟨kind, at_, client, ⟨s, q, code, args, rd, wr⟩, keys, frm, dst, place, wth, keep, count⟩, ⟨⟨oc, cc, oa, ca, od, cd, ow, cw⟩, ok, ck⟩⟩, rfl, ⟨⟨hc3, ha3, hd3, hw3⟩, hk3⟩, ?_⟩
  exact ⟨in64_wf wk, in64_wf wa, in64_wf wcl, ⟨in64_wf ws, in64_wf wq, hcode, hargs, hrd, hwr, by simp only; omega, by simp only; omega, by simp only; omega, by simp only; omega⟩, hkeys, by simp only; omega, in64_wf wf, in64_wf wd, in64_wf wp, byte_wf ww, in64_wf wkp, in64_wf wct⟩
theorem steps_of (rows : List (List Value)) (h : ∀ r ∈ rows, FitsD w lfST r) : ∃ X : List SX, rows = X.map sxr ∧ (∀ p ∈ X, StAt w p.x p.v) ∧ StepsOk X := by
  induction rows with
  | nil => exact ⟨[], rfl, by simp, by intro p hp; cases hp⟩
  | cons r rows ih =>
    obtain ⟨X, rfl, h1, h2⟩ := ih (fun r hr => h r (by simp [hr]))
    obtain ⟨x, rfl, h3, h4⟩ := step_of (h r (by simp))
    refine ⟨x :: X, rfl, fun y hy => ?_, fun y hy => ?_⟩
    · rcases List.mem_cons.1 hy with rfl | hy
      · exact h3
      · exact h1 y hy
    · rcases List.mem_cons.1 hy with rfl | hy
      · exact h4
      · exact h2 y hy
theorem cf_of {vs : List Value} (h : FitsD w lfCF vs) : ∃ c : CF, vs = cfv c ∧ CfOk c := by
  obtain ⟨n, _, rfl, w1, h⟩ := h.int
  obtain ⟨p, _, rfl, w2, h⟩ := h.int
  obtain ⟨b, _, rfl, w3, h⟩ := h.int
  obtain ⟨c, _, rfl, w4, h⟩ := h.int
  obtain ⟨s, _, rfl, w5, h⟩ := h.int
  obtain rfl := h.nil
  simp [Lit.wf, IntKind.min, IntKind.max, IntKind.signed, IntKind.bits] at w5
  obtain ⟨k, rfl⟩ : ∃ k : Nat, s = k := ⟨s.toNat, by omega⟩
  exact ⟨⟨n, p, b, c, k⟩, rfl, in64_wf w1, in64_wf w2, in64_wf w3, in64_wf w4, by simp only; omega⟩
end
end Go.Proofs.YtihipcofjpnfbaaGreatDoor

/- Steps that are handed in, opened, with a bound on all their lists together. -/
set_option linter.unusedVariables false
set_option linter.unusedSimpArgs false
set_option maxRecDepth 100000
namespace Go.Proofs.YtihipcofjpnfbaaGreatDoor
open Go hiding Expr
open Go.RowKit Tr

section
variable {w : World}
theorem step_ofN {vs : List Value} {n : Nat} (h : FitsN w lfST vs n) : ∃ p : SX, vs = sxr p ∧ StAt w p.x p.v ∧ StOk p.x ∧ wtX p.x ≤ n := by
  obtain ⟨kind, _, b1, rfl, wk, z1, h⟩ := h.int
  obtain ⟨at_, _, b2, rfl, wa, z2, h⟩ := h.int
  obtain ⟨client, _, b3, rfl, wcl, z3, h⟩ := h.int
  obtain ⟨s, _, b4, rfl, ws, z4, h⟩ := h.int
  obtain ⟨q, _, b5, rfl, wq, z5, h⟩ := h.int
  obtain ⟨oc, nc, cc, rc, mc, _, b6, rfl, hc1, _, hc2, hc3, lc, hc4, z6, h⟩ := h.lst
  obtain ⟨oa, na, ca, ra, ma, _, b7, rfl, ha1, _, ha2, ha3, la, ha4, z7, h⟩ := h.lst
  obtain ⟨od, nd, cd, rd, md, _, b8, rfl, hd1, _, hd2, hd3, ld, hd4, z8, h⟩ := h.lst
  obtain ⟨ow, nw, cw, rw', mw, _, b9, rfl, hw1, _, hw2, hw3, lw, hw4, z9, h⟩ := h.lst
  obtain ⟨ok, nk, ck, rk, mk, _, b10, rfl, hk1, _, hk2, hk3, lk, hk4, z10, h⟩ := h.lst
  obtain ⟨frm, _, b11, rfl, wf, z11, h⟩ := h.int
  obtain ⟨dst, _, b12, rfl, wd, z12, h⟩ := h.int
  obtain ⟨place, _, b13, rfl, wp, z13, h⟩ := h.int
  obtain ⟨wth, _, b14, rfl, ww, z14, h⟩ := h.int
  obtain ⟨keep, _, b15, rfl, wkp, z15, h⟩ := h.int
  obtain ⟨count, _, b16, rfl, wct, z16, h⟩ := h.int
  obtain rfl := h.nil
  obtain ⟨hc4, sc⟩ := rowsN (by omega) hc4
  obtain ⟨ha4, sa⟩ := rowsN (by omega) ha4
  obtain ⟨hd4, sd⟩ := rowsN (by omega) hd4
  obtain ⟨hw4, sw⟩ := rowsN (by omega) hw4
  obtain ⟨hk4, sk⟩ := rowsN (by omega) hk4
  obtain ⟨code, rfl, hcode⟩ := bytesD_of rc hc4
  obtain ⟨args, rfl, hargs⟩ := intsD_of ra ha4
  obtain ⟨rd, rfl, hrd⟩ := keysD_of rd hd4
  obtain ⟨wr, rfl, hwr⟩ := keysD_of rw' hw4
  obtain ⟨keys, rfl, hkeys⟩ := keysD_of rk hk4
  rw [List.length_map] at hc1 ha1 hd1 hw1 hk1 sc sa sd sw sk
  simp only [List.length_cons, List.length_nil] at sc sa sd sw sk
  subst hc1 ha1 hd1 hw1 hk1
  simp only [reachBytes] at hc2 ha2 hd2 hw2 hk2
  refine ⟨⟨⟨kind, at_, client, ⟨s, q, code, args, rd, wr⟩, keys, frm, dst, place, wth, keep, count⟩, ⟨⟨oc, cc, oa, ca, od, cd, ow, cw⟩, ok, ck⟩⟩, rfl, ⟨⟨hc3, ha3, hd3, hw3⟩, hk3⟩, ?_, ?_⟩
  · exact ⟨in64_wf wk, in64_wf wa, in64_wf wcl, ⟨in64_wf ws, in64_wf wq, hcode, hargs, hrd, hwr, by simp only; omega, by simp only; omega, by simp only; omega, by simp only; omega⟩, hkeys, by simp only; omega, in64_wf wf, in64_wf wd, in64_wf wp, byte_wf ww, in64_wf wkp, in64_wf wct⟩
  · simp only [wtX, wtT]
    omega
theorem steps_ofN : ∀ (rows : List (List Value)) (ns : List Nat), ns.length = rows.length → (∀ (j : Nat) r k, rows[j]? = some r → ns[j]? = some k → FitsN w lfST r k) →
    ∃ X : List SX, rows = X.map sxr ∧ (∀ p ∈ X, StAt w p.x p.v) ∧ StepsOk X ∧ ((X.map (·.x)).map wtX).sum ≤ ns.sum
  | [], [], _, _ => ⟨[], rfl, by simp, (by intro p hp; cases hp), by simp⟩
  | r :: rows, k :: ns, hl, h => by
    obtain ⟨X, rfl, h1, h2, h3⟩ := steps_ofN rows ns (by simpa using hl) (fun j r k hr hk => h (j + 1) r k hr hk)
    obtain ⟨x, rfl, h4, h5, h6⟩ := step_ofN (h 0 r k rfl rfl)
    refine ⟨x :: X, rfl, fun y hy => ?_, fun y hy => ?_, ?_⟩
    · rcases List.mem_cons.1 hy with rfl | hy
      · exact h4
      · exact h1 y hy
    · rcases List.mem_cons.1 hy with rfl | hy
      · exact h5
      · exact h2 y hy
    · simp only [List.map_cons, List.sum_cons]
      omega
  | [], _ :: _, hl, _ => by simp at hl
  | _ :: _, [], hl, _ => by simp at hl
end
theorem bulkN_sum {H : Type} : ∀ l : List (DataW H), Rows.uptoBulkAll l = (l.map Rows.uptoBulk).sum
  | [] => by simp [Rows.uptoBulkAll]
  | d :: r => by simp only [Rows.uptoBulkAll, List.map_cons, List.sum_cons, bulkN_sum r]
theorem bulkN_1 {H : Type} (el sp : List (DataW H)) : (el.map Rows.uptoBulk).sum + 1 ≤ Rows.uptoBulk (.slice el sp) := by
  have h3 : Rows.uptoBulk (DataW.slice el sp) = Rows.uptoBulkAll el + Rows.uptoBulkAll sp + 1 := by simp [Rows.uptoBulk]
  rw [h3, bulkN_sum el]
  omega
theorem bulkN_3 {H : Type} (parts : List (DataW H)) : (parts.map Rows.uptoBulk).sum ≤ Rows.uptoBulk (.agg parts) := by
  have h3 : Rows.uptoBulk (DataW.agg parts) = Rows.uptoBulkAll parts + 1 := by simp [Rows.uptoBulk]
  rw [h3, bulkN_sum parts]
  omega
end Go.Proofs.YtihipcofjpnfbaaGreatDoor
