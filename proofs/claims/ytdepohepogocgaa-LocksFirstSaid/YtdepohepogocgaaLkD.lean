/- slices.DeleteFunc over waiters and over ids. -/
import Derived.Test.YtdepohepogocgaaLkR
set_option linter.unusedVariables false
set_option linter.unusedSimpArgs false
set_option maxRecDepth 100000
set_option maxHeartbeats 2000000
namespace Go.Proofs.Ytdepohepogocgaa
open Go hiding Expr
open Go.RowKit Tr

theorem del_first {α : Type} {l : List α} {f : α → Ix} {t : Ix} {k : Nat} (hno : ∀ x ∈ l.take k, f x ≠ t) (hat : ∀ x, l[k]? = some x → f x = t) : (l.take (k + 1)).filter (fun x => !decide (f x = t)) = l.take k := by
  rw [List.take_add_one, List.filter_append]
  have h1 : (l.take k).filter (fun x => !decide (f x = t)) = l.take k := by
    rw [List.filter_eq_self]
    intro x hx
    simpa using hno x hx
  rw [h1]
  cases h : l[k]? with
  | none => simp
  | some x => simp [hat x h]
theorem flat_take {k : Nat} {rows : List (List Value)} (hk : ∀ r ∈ rows, r.length = k) {i : Nat} : rows.flatten.take (i * k) = (rows.take i).flatten := by
  induction rows generalizing i with
  | nil => simp
  | cons a l ih =>
    cases i with
    | zero => simp
    | succ i =>
      have ha := hk a (by simp)
      rw [List.flatten_cons, List.take_succ_cons, List.flatten_cons, Nat.succ_mul, List.take_append, List.take_of_length_le (by omega), show i * k + k - a.length = i * k by omega, ih (fun r hr => hk r (by simp [hr]))]
theorem row_split {k : Nat} {rows : List (List Value)} {sp : List Value} (hk : ∀ r ∈ rows, r.length = k) {i : Nat} (hi : i < rows.length) :
    ∃ P S r0, rows.flatten ++ sp = P ++ r0 ++ S ∧ r0.length = k ∧ P.length = i * k ∧ ∀ r' : List Value, r'.length = r'.length → (rows.set i r').flatten ++ sp = P ++ r' ++ S := by
  induction rows generalizing i with
  | nil => simp at hi
  | cons a l ih =>
    have ha := hk a (by simp)
    cases i with
    | zero => exact ⟨[], l.flatten ++ sp, a, by simp, ha, by simp, fun r' _ => by simp⟩
    | succ i =>
      obtain ⟨P, S, r0, h1, h2, h3, h4⟩ := ih (fun r hr => hk r (by simp [hr])) (i := i) (by simpa using hi)
      refine ⟨a ++ P, S, r0, by rw [List.flatten_cons, List.append_assoc, h1]; simp, h2, by rw [List.length_append, ha, h3, Nat.succ_mul]; omega, fun r' h => ?_⟩
      rw [List.set_cons_succ, List.flatten_cons, List.append_assoc, h4 r' h]
      simp
theorem cutp {e : Nat × Obj} (a b : Hp) : Sb ([e] ++ a) (e :: (a ++ b)) := ⟨b, by simp⟩
section
variable {Q : Ending → World → Prop} {ρ : Lv} {w0 w : World} {g i : Nat} {ty : TypeId} {P S r0 : List Value} {m : Hp} {a b c d : Value} {x : T}
theorem put2 {k : Nat} (hk : k = i) (hP : P.length = i * 2) (hr : r0.length = 2) (H : Has w0 w (cl g ty (P ++ r0 ++ S) :: m)) {a b : Int} {ka kb : IntKind}
    (hx : ∀ u, Has w0 u (cl g ty (P ++ [.int ka a, .int kb b] ++ S) :: m) → x.sem Try.prog Q ρ u) :
    (T.st g (0 + (k : Int).toNat * 2) (.int ka a) (T.st g (0 + (k : Int).toNat * 2 + 1) (.int kb b) x)).sem Try.prog Q ρ w := by
  subst hk
  obtain ⟨p, q, rfl⟩ : ∃ p q, r0 = [p, q] := by
    match r0, hr with
    | [p, q], _ => exact ⟨p, q, rfl⟩
  refine h_st H pick_head (by simp; omega) rfl fun u H => h_st H pick_head (by simp; omega) rfl fun u H => hx u ?_
  simp only [Nat.zero_add, Int.toNat_natCast, List.append_assoc] at H ⊢
  rw [List.set_append_right _ _ (by omega), List.set_append_right _ _ (by omega), hP] at H
  simpa using H
theorem put4 {k : Nat} (hk : k = i) (hP : P.length = i * 4) (hr : r0.length = 4) (H : Has w0 w (cl g ty (P ++ r0 ++ S) :: m)) {a b : Int} {ka kb : IntKind} {c d : Bool}
    (hx : ∀ u, Has w0 u (cl g ty (P ++ [.int ka a, .int kb b, .bool c, .bool d] ++ S) :: m) → x.sem Try.prog Q ρ u) :
    (T.st g (0 + (k : Int).toNat * 4) (.int ka a) (T.st g (0 + (k : Int).toNat * 4 + 1) (.int kb b) (T.st g (0 + (k : Int).toNat * 4 + 2) (.bool c) (T.st g (0 + (k : Int).toNat * 4 + 3) (.bool d) x)))).sem Try.prog Q ρ w := by
  subst hk
  obtain ⟨p, q, r, s, rfl⟩ : ∃ p q r s, r0 = [p, q, r, s] := by
    match r0, hr with
    | [p, q, r, s], _ => exact ⟨p, q, r, s, rfl⟩
  refine h_st H pick_head (by simp; omega) rfl fun u H => h_st H pick_head (by simp; omega) rfl fun u H => h_st H pick_head (by simp; omega) rfl fun u H => h_st H pick_head (by simp; omega) rfl fun u H => hx u ?_
  simp only [Nat.zero_add, Int.toNat_natCast, List.append_assoc] at H ⊢
  rw [List.set_append_right _ _ (by omega), List.set_append_right _ _ (by omega), List.set_append_right _ _ (by omega), List.set_append_right _ _ (by omega), hP] at H
  simpa using H
end
section
variable {w : World}

theorem clW_c {x : Ix × Bool} {t : Ix} {r : Nat} {tr : TypeId} (hr : Cells w r tr (ir t)) : Calls Try.prog 38 #[.agg ⟨wr x⟩, .pointer (some ⟨r, 0, none⟩)] w fun e w' => e = .returned (.bool (decide (x.1 = t))) ∧ Fr [] w w' := by
  apply c38
  refine h_new (Has.init w) fun n6 u H => ?_
  have hr := H.base.cells hr (by simp)
  exact h_ldI H (by repeat (first | exact pick_head | apply pick_tail | apply pick_app)) rfl (h_ldI H (by repeat (first | exact pick_head | apply pick_tail | apply pick_app)) rfl (s_ldI hr rfl (s_ldI hr rfl (s_ret ⟨by rw [← eqI], H.base⟩))))
theorem ixW_c {o : Option Addr} {l : List (Ix × Bool)} {t : Ix} {n cap r : Nat} {tr : TypeId} (hl : RowsAt w o 4 (l.map wr)) (hn : n = l.length) (hmax : l.length ≤ 5864062014805) (hr : Cells w r tr (ir t)) :
    Calls Try.prog 64 #[.slice o n cap, .func (.func 38) #[] #[.pointer (some ⟨r, 0, none⟩)]] w fun e w' => ∃ z : Int, e = .returned (.int .i64 z) ∧ Fr [] w w' ∧
      ((z = -1 ∧ ∀ x ∈ l, x.1 ≠ t) ∨ ∃ i : Nat, i < l.length ∧ z = i ∧ (∀ x ∈ l.take i, x.1 ≠ t) ∧ ∀ x, l[i]? = some x → x.1 = t) := by
  subst hn
  apply c64
  refine s_loop (fun vs W => ∃ i : Nat, vs = [.int .i64 i] ∧ i ≤ l.length ∧ (∀ x ∈ l.take i, x.1 ≠ t) ∧ Has w W []) (fun vs _ => l.length - (intOf (vs.getD 0 undef)).toNat)
    ⟨0, rfl, by omega, by simp, Has.init w⟩ ?_
  rintro _ j W ⟨i, rfl, hil, hno, H⟩
  refine s_asI (s_ite (fun g1 => ?_) (fun g1 => ?_))
  · simp only [decide_eq_true_eq] at g1
    obtain ⟨x, hx⟩ : ∃ x, l[i]? = some x := ⟨_, List.getElem?_eq_getElem (by omega)⟩
    obtain ⟨g, off, he, _, hc⟩ := (RowsAt.fr hl H.base).at (j := i) (r := wr x) (by rw [List.getElem?_map, hx]; rfl)
    refine s_req ⟨by omega, g1⟩ ⟨g, off, he, (s_loadI (hc 0 _ rfl) (s_loadI (hc 1 _ rfl) (s_loadB (hc 2 _ rfl) (s_loadB (hc 3 _ rfl) (s_call (clW_c (x := x) (H.base.cells hr (by simp))) ?_)))))⟩
    rintro _ u ⟨rfl, f⟩
    have H := H.fr0 f
    refine ⟨_, rfl, s_asB (s_ite (fun g2 => s_ret ⟨i, rfl, H.base, .inr ⟨i, by omega, rfl, hno, fun y hy => ?_⟩⟩) (fun g2 => s_next (by first | exact ⟨rfl, rfl⟩ | trivial) ?_))⟩
    · rw [hx] at hy
      cases hy
      simpa using g2
    · simp (config := { decide := true }) only [if_true, if_false]
      refine ⟨⟨i + 1, by rw [w_succ (by omega)], by omega, fun y hy => ?_, H⟩, by rw [w_succ (by omega)]; simp [intOf] <;> omega⟩
      rw [List.take_add_one, hx, Option.toList_some] at hy
      rcases List.mem_append.1 hy with hy | hy
      · exact hno y hy
      · simp only [List.mem_singleton] at hy
        subst hy
        simpa using g2
  · simp only [decide_eq_false_iff_not] at g1
    rw [List.take_of_length_le (by omega)] at hno
    exact s_ret ⟨-1, rfl, H.base, .inl ⟨rfl, hno⟩⟩
theorem dfW_c {w0 : World} {m m' c : Hp} {o : Option Addr} {l : List (Ix × Bool)} {t : Ix} {n cap r : Nat} {tr : TypeId} (H : Has w0 w m) (hp : Cut c m m') (ho : OwnC 43 4 (.slice o n cap) n (l.map wr).flatten c) (hn : n = l.length) (hmax : l.length ≤ 5864062014805) (hr : ∀ u, Has w0 u m' → Cells u r tr (ir t)) :
    Calls Try.prog 36 #[.slice o n cap, .func (.func 38) #[] #[.pointer (some ⟨r, 0, none⟩)]] w fun e w' => ∃ o' c', e = .returned (.slice o' (l.filter (fun x => !decide (x.1 = t))).length cap) ∧
      OwnC 43 4 (.slice o' (l.filter (fun x => !decide (x.1 = t))).length cap) (l.filter (fun x => !decide (x.1 = t))).length ((l.filter (fun x => !decide (x.1 = t))).map wr).flatten c' ∧ Has w0 w' (c' ++ m') := by
  subst hn
  have hrows : RowsAt w o 4 (l.map wr) := rowsAt_own (wr4 l) (by decide) ho H hp
  have H := H.pullc hp
  apply c36
  refine s_call (ixW_c hrows rfl hmax (hr w H.right)) ?_
  rintro _ u ⟨z, rfl, f, hz⟩
  have H := H.fr0 f
  refine ⟨_, rfl, s_asI ?_⟩
  rcases hz with ⟨rfl, hno⟩ | ⟨k, hk, rfl, hno, hat⟩
  · have hf : l.filter (fun x => !decide (x.1 = t)) = l := by
      rw [List.filter_eq_self]
      intro x hx
      have := hno x hx
      simpa using this
    rw [hf]
    exact s_true rfl (s_ret ⟨o, c, rfl, ho, H⟩)
  · obtain ⟨g, cap', sp, he, rfl, h1, h2, h3⟩ := ho.pos (by omega)
    cases he
    refine s_false (by first | (simp; done) | (simp; omega)) ?_
    refine s_loop (fun vs W => ∃ (i j : Nat) (Y : List (Ix × Bool)), vs = [.int .i64 i, .int .i64 j] ∧ i < j ∧ j ≤ l.length ∧ Y.length = l.length ∧ Y.take i = (l.take j).filter (fun x => !decide (x.1 = t)) ∧ i = ((l.take j).filter (fun x => !decide (x.1 = t))).length ∧ Y.drop j = l.drop j ∧
      ∃ mm, Has w0 W (cl g 43 ((Y.map wr).flatten ++ sp) :: (m' ++ mm))) (fun vs _ => l.length - (intOf (vs.getD 1 undef)).toNat) ⟨k, k + 1, l, by rw [w_succ (by omega)], by omega, by omega, rfl, ?_, ?_, rfl, [], by rw [List.append_nil]; exact H⟩ ?_
    · rw [del_first hno hat]
    · rw [del_first hno hat, List.length_take]
      omega
    rintro _ jj W ⟨i, j, Y, rfl, hij, hjl, hYl, hYi, hil, hYj, mm, H⟩
    refine s_asI (s_asI (s_ite (fun g1 => ?_) (fun g1 => ?_)))
    · simp only [decide_eq_true_eq] at g1
      have hlt : j < l.length := by omega
      obtain ⟨x, hx⟩ : ∃ x, l[j]? = some x := ⟨_, List.getElem?_eq_getElem hlt⟩
      obtain ⟨y, hy⟩ : ∃ y, Y[i]? = some y := ⟨_, List.getElem?_eq_getElem (by omega)⟩
      have hYx : Y[j]? = some x := by
        have : (Y.drop j)[0]? = (l.drop j)[0]? := by rw [hYj]
        rw [List.getElem?_drop, List.getElem?_drop, Nat.add_zero] at this
        rw [this, hx]
      have hrY : RowsAt W (some ⟨g, 0, none⟩) 4 (Y.map wr) := rowsAt_cells (wr4 Y) (H.cells (by repeat (first | exact pick_head | apply pick_tail | apply pick_app)))
      obtain ⟨g', off, he, _, hc⟩ := hrY.at (j := j) (r := wr x) (by rw [List.getElem?_map, hYx]; rfl)
      cases he
      have hstep : (l.take (j + 1)).filter (fun x => !decide (x.1 = t)) = (l.take j).filter (fun x => !decide (x.1 = t)) ++ if x.1 = t then [] else [x] := by
        rw [List.take_add_one, hx, Option.toList_some, List.filter_append]
        congr 1
        by_cases hh : x.1 = t <;> simp [hh]
      have hYj' : Y.drop (j + 1) = l.drop (j + 1) := by
        have := congrArg (List.drop 1) hYj
        rwa [List.drop_drop, List.drop_drop] at this
      refine s_req ⟨by omega, g1⟩ ⟨g, 0, rfl, (s_loadI (hc 0 _ rfl) (s_loadI (hc 1 _ rfl) (s_loadB (hc 2 _ rfl) (s_loadB (hc 3 _ rfl) ?_))))⟩
      (refine h_new H fun n15 u H => ?_)
      iterate 4 refine h_st H (by repeat (first | exact pick_head | apply pick_tail | apply pick_app)) (by first | (simp; done) | exact Nat.le_of_ble_eq_true rfl) rfl fun u H => ?_
      refine h_ldI H (by repeat (first | exact pick_head | apply pick_tail | apply pick_app)) rfl ?_
      refine h_ldI H (by repeat (first | exact pick_head | apply pick_tail | apply pick_app)) rfl ?_
      refine h_ldB H (by repeat (first | exact pick_head | apply pick_tail | apply pick_app)) rfl ?_
      refine h_ldB H (by repeat (first | exact pick_head | apply pick_tail | apply pick_app)) rfl ?_
      have Hm : Has w0 u m' := H.sub (m2 := m') ⟨cl n15 43 (wr x) :: cl g 43 ((Y.map wr).flatten ++ sp) :: mm, by
        show (cl n15 43 (wr x) :: cl g 43 ((Y.map wr).flatten ++ sp) :: (m' ++ mm)).Perm _
        exact (List.perm_append_comm_assoc [cl n15 43 (wr x), cl g 43 ((Y.map wr).flatten ++ sp)] m' mm)⟩
      refine s_call (clW_c (x := x) (hr u Hm)) ?_
      rintro _ u ⟨rfl, f⟩
      have H := H.fr0 f
      refine ⟨_, rfl, s_asB (s_ite (fun g2 => ?_) (fun g2 => s_next (by first | exact ⟨rfl, rfl⟩ | trivial) ?_))⟩
      · have g2 : ¬ x.1 = t := by simpa using g2
        rw [if_neg g2] at hstep
        refine h_ldI H (by repeat (first | exact pick_head | apply pick_tail | apply pick_app)) rfl ?_
        refine h_ldI H (by repeat (first | exact pick_head | apply pick_tail | apply pick_app)) rfl ?_
        refine h_ldB H (by repeat (first | exact pick_head | apply pick_tail | apply pick_app)) rfl ?_
        refine h_ldB H (by repeat (first | exact pick_head | apply pick_tail | apply pick_app)) rfl ?_
        obtain ⟨P, S, r0, hP, hr0, hPl, hset⟩ := row_split (sp := sp) (wr4 Y) (i := i) (by rw [List.length_map]; omega)
        refine s_req ⟨by omega, by omega⟩ (s_sm ?_)
        have hYs : (((Y.set i x).map wr).flatten ++ sp) = P ++ wr x ++ S := by rw [List.map_set]; exact hset _ rfl
        have H' : Has w0 u (cl g 43 (P ++ r0 ++ S) :: (cl n15 43 (wr x) :: (m' ++ mm))) := by rw [← hP]; exact H.sub (by repeat (first | exact sb_refl | exact sb_nil | refine sb_cons (by repeat (first | exact pick_head | apply pick_tail | apply pick_app)) ?_ | refine sb_app (by repeat (first | exact cut_head | exact cut_all | apply cut_tail | apply cut_app)) ?_ | exact sb_one (by repeat (first | exact cut_head | exact cut_all | apply cut_tail | apply cut_app))))
        refine put4 (by omega) hPl hr0 H' fun u H => s_next (by first | exact ⟨rfl, rfl⟩ | trivial) ?_
        simp (config := { decide := true }) only [if_true, if_false]
        refine ⟨⟨i + 1, j + 1, Y.set i x, by rw [w_succ (by omega), w_succ (by omega)], by omega, by omega, by rw [List.length_set, hYl], ?_, ?_, ?_, mm ++ [cl n15 43 (wr x)], ?_⟩, by rw [w_succ (by omega), w_succ (by omega)]; simp [intOf] <;> omega⟩
        · rw [hstep, List.take_add_one, List.getElem?_set_self (by omega), Option.toList_some, List.take_set_of_le (by omega), hYi]
        · rw [hstep, List.length_append, ← hil]; rfl
        · rw [List.drop_set_of_lt (by omega), hYj']
        · rw [hYs]
          have H : Has w0 u (cl g 43 (P ++ wr x ++ S) :: (cl n15 43 (wr x) :: (m' ++ mm))) := H
          refine H.perm (List.Perm.cons _ ?_)
          rw [← List.append_assoc]
          exact List.perm_append_comm (l₁ := [cl n15 43 (wr x)])
      · have g2 : x.1 = t := by simpa using g2
        rw [if_pos g2, List.append_nil] at hstep
        simp (config := { decide := true }) only [if_true, if_false]
        refine ⟨⟨i, j + 1, Y, by rw [w_succ (by omega)], by omega, by omega, hYl, by rw [hstep]; exact hYi, by rw [hstep]; exact hil, hYj', mm ++ [cl n15 43 (wr x)], ?_⟩, by rw [w_succ (by omega)]; simp [intOf] <;> omega⟩
        have H : Has w0 u (cl n15 43 (wr x) :: cl g 43 ((Y.map wr).flatten ++ sp) :: (m' ++ mm)) := H
        refine H.perm ((List.Perm.swap _ _ _).trans (List.Perm.cons _ ?_))
        rw [← List.append_assoc]
        exact List.perm_append_comm (l₁ := [cl n15 43 (wr x)])
    · simp only [decide_eq_false_iff_not] at g1
      obtain rfl : j = l.length := by omega
      rw [List.take_length] at hYi hil
      have hfl : ((Y.map wr).flatten ++ sp).length = cap * 4 := by
        rw [List.length_append, flat_len (wr4 Y), List.length_map, hYl, ← h3, List.length_append, flat_len (wr4 l), List.length_map]
      have hb : sliceBase (some ⟨g, 0, none⟩ : Option Addr) (i : Int).toNat cap 4 = some ⟨g, i * 4, none⟩ := by
        unfold sliceBase
        rw [if_neg (by omega)]
        simp [add_plain]
      refine s_req ⟨by omega, by omega⟩ ?_
      rw [hb]
      refine s_clear (H.cells (by repeat (first | exact pick_head | apply pick_tail | apply pick_app))) elemW.under (z := .agg ⟨[.int .i64 0, .int .i64 0, .bool false, .bool false]⟩) (fun w => by rfl) (by intro u hu; simp [Value.cells] at hu; rcases hu with rfl | rfl | rfl | rfl <;> rfl) (by decide) rfl (by
        show i * 4 + (l.length - (i : Int).toNat) * 4 ≤ _
        rw [hfl]
        have : (l.length - (i : Int).toNat) = l.length - i := by omega
        rw [this]
        omega) ?_
      intro l' u hf hc hl' hsame
      have H := H.updc pick_head hf hc
      have hb0 : sliceBase (some ⟨g, 0, none⟩ : Option Addr) 0 cap 4 = some ⟨g, 0, none⟩ := sliceBase_zero _ _ _
      refine s_req ⟨by omega, by omega⟩ ?_
      rw [hb0]
      have htk : l'.take (i * 4) = ((l.filter (fun x => !decide (x.1 = t))).map wr).flatten := by
        rw [← hYi]
        have e1 : l'.take (i * 4) = ((Y.map wr).flatten ++ sp).take (i * 4) := by
          refine List.ext_getElem? fun q => ?_
          rw [List.getElem?_take, List.getElem?_take]
          split
          · exact hsame q (.inl (by omega))
          · rfl
        rw [e1, List.take_append_of_le_length (by rw [flat_len (wr4 Y), List.length_map]; omega), flat_take (wr4 Y), List.map_take]
      have hlen2 : (l.filter (fun x => !decide (x.1 = t))).length = i := hil.symm
      refine s_ret ⟨some ⟨g, 0, none⟩, [cl g 43 l'], by rw [hlen2]; simp, ⟨by rw [flat_len (wr4 _), List.length_map], .inr ⟨g, cap, l'.drop (i * 4), by rw [hlen2], ?_, by rw [hlen2]; omega, h2, ?_⟩⟩, H.sub (cutp m' mm)⟩
      · rw [← htk, List.take_append_drop]
      · rw [← htk, List.take_append_drop, hl', hfl]

theorem clR_c {x : Ix} {t : Ix} {r : Nat} {tr : TypeId} (hr : Cells w r tr (ir t)) : Calls Try.prog 40 #[.agg ⟨ir x⟩, .pointer (some ⟨r, 0, none⟩)] w fun e w' => e = .returned (.bool (decide (x = t))) ∧ Fr [] w w' := by
  apply c40
  refine h_new (Has.init w) fun n6 u H => ?_
  have hr := H.base.cells hr (by simp)
  exact h_ldI H (by repeat (first | exact pick_head | apply pick_tail | apply pick_app)) rfl (h_ldI H (by repeat (first | exact pick_head | apply pick_tail | apply pick_app)) rfl (s_ldI hr rfl (s_ldI hr rfl (s_ret ⟨by rw [← eqI], H.base⟩))))
theorem ixR_c {o : Option Addr} {l : List (Ix)} {t : Ix} {n cap r : Nat} {tr : TypeId} (hl : RowsAt w o 2 (l.map ir)) (hn : n = l.length) (hmax : l.length ≤ 5864062014805) (hr : Cells w r tr (ir t)) :
    Calls Try.prog 51 #[.slice o n cap, .func (.func 40) #[] #[.pointer (some ⟨r, 0, none⟩)]] w fun e w' => ∃ z : Int, e = .returned (.int .i64 z) ∧ Fr [] w w' ∧
      ((z = -1 ∧ ∀ x ∈ l, x ≠ t) ∨ ∃ i : Nat, i < l.length ∧ z = i ∧ (∀ x ∈ l.take i, x ≠ t) ∧ ∀ x, l[i]? = some x → x = t) := by
  subst hn
  apply c51b
  refine s_loop (fun vs W => ∃ i : Nat, vs = [.int .i64 i] ∧ i ≤ l.length ∧ (∀ x ∈ l.take i, x ≠ t) ∧ Has w W []) (fun vs _ => l.length - (intOf (vs.getD 0 undef)).toNat)
    ⟨0, rfl, by omega, by simp, Has.init w⟩ ?_
  rintro _ j W ⟨i, rfl, hil, hno, H⟩
  refine s_asI (s_ite (fun g1 => ?_) (fun g1 => ?_))
  · simp only [decide_eq_true_eq] at g1
    obtain ⟨x, hx⟩ : ∃ x, l[i]? = some x := ⟨_, List.getElem?_eq_getElem (by omega)⟩
    obtain ⟨g, off, he, _, hc⟩ := (RowsAt.fr hl H.base).at (j := i) (r := ir x) (by rw [List.getElem?_map, hx]; rfl)
    refine s_req ⟨by omega, g1⟩ ⟨g, off, he, (s_loadI (hc 0 _ rfl) (s_loadI (hc 1 _ rfl) (s_call (clR_c (x := x) (H.base.cells hr (by simp))) ?_)))⟩
    rintro _ u ⟨rfl, f⟩
    have H := H.fr0 f
    refine ⟨_, rfl, s_asB (s_ite (fun g2 => s_ret ⟨i, rfl, H.base, .inr ⟨i, by omega, rfl, hno, fun y hy => ?_⟩⟩) (fun g2 => s_next (by first | exact ⟨rfl, rfl⟩ | trivial) ?_))⟩
    · rw [hx] at hy
      cases hy
      simpa using g2
    · simp (config := { decide := true }) only [if_true, if_false]
      refine ⟨⟨i + 1, by rw [w_succ (by omega)], by omega, fun y hy => ?_, H⟩, by rw [w_succ (by omega)]; simp [intOf] <;> omega⟩
      rw [List.take_add_one, hx, Option.toList_some] at hy
      rcases List.mem_append.1 hy with hy | hy
      · exact hno y hy
      · simp only [List.mem_singleton] at hy
        subst hy
        simpa using g2
  · simp only [decide_eq_false_iff_not] at g1
    rw [List.take_of_length_le (by omega)] at hno
    exact s_ret ⟨-1, rfl, H.base, .inl ⟨rfl, hno⟩⟩
theorem dfR_c {w0 : World} {m m' c : Hp} {o : Option Addr} {l : List (Ix)} {t : Ix} {n cap r : Nat} {tr : TypeId} (H : Has w0 w m) (hp : Cut c m m') (ho : OwnC 27 2 (.slice o n cap) n (l.map ir).flatten c) (hn : n = l.length) (hmax : l.length ≤ 5864062014805) (hr : ∀ u, Has w0 u m' → Cells u r tr (ir t)) :
    Calls Try.prog 20 #[.slice o n cap, .func (.func 40) #[] #[.pointer (some ⟨r, 0, none⟩)]] w fun e w' => ∃ o' c', e = .returned (.slice o' (l.filter (fun x => !decide (x = t))).length cap) ∧
      OwnC 27 2 (.slice o' (l.filter (fun x => !decide (x = t))).length cap) (l.filter (fun x => !decide (x = t))).length ((l.filter (fun x => !decide (x = t))).map ir).flatten c' ∧ Has w0 w' (c' ++ m') := by
  subst hn
  have hrows : RowsAt w o 2 (l.map ir) := rowsAt_own (ir2 l) (by decide) ho H hp
  have H := H.pullc hp
  apply c20b
  refine s_call (ixR_c hrows rfl hmax (hr w H.right)) ?_
  rintro _ u ⟨z, rfl, f, hz⟩
  have H := H.fr0 f
  refine ⟨_, rfl, s_asI ?_⟩
  rcases hz with ⟨rfl, hno⟩ | ⟨k, hk, rfl, hno, hat⟩
  · have hf : l.filter (fun x => !decide (x = t)) = l := by
      rw [List.filter_eq_self]
      intro x hx
      have := hno x hx
      simpa using this
    rw [hf]
    exact s_true rfl (s_ret ⟨o, c, rfl, ho, H⟩)
  · obtain ⟨g, cap', sp, he, rfl, h1, h2, h3⟩ := ho.pos (by omega)
    cases he
    refine s_false (by first | (simp; done) | (simp; omega)) ?_
    refine s_loop (fun vs W => ∃ (i j : Nat) (Y : List (Ix)), vs = [.int .i64 i, .int .i64 j] ∧ i < j ∧ j ≤ l.length ∧ Y.length = l.length ∧ Y.take i = (l.take j).filter (fun x => !decide (x = t)) ∧ i = ((l.take j).filter (fun x => !decide (x = t))).length ∧ Y.drop j = l.drop j ∧
      ∃ mm, Has w0 W (cl g 27 ((Y.map ir).flatten ++ sp) :: (m' ++ mm))) (fun vs _ => l.length - (intOf (vs.getD 1 undef)).toNat) ⟨k, k + 1, l, by rw [w_succ (by omega)], by omega, by omega, rfl, ?_, ?_, rfl, [], by rw [List.append_nil]; exact H⟩ ?_
    · rw [del_first hno hat]
    · rw [del_first hno hat, List.length_take]
      omega
    rintro _ jj W ⟨i, j, Y, rfl, hij, hjl, hYl, hYi, hil, hYj, mm, H⟩
    refine s_asI (s_asI (s_ite (fun g1 => ?_) (fun g1 => ?_)))
    · simp only [decide_eq_true_eq] at g1
      have hlt : j < l.length := by omega
      obtain ⟨x, hx⟩ : ∃ x, l[j]? = some x := ⟨_, List.getElem?_eq_getElem hlt⟩
      obtain ⟨y, hy⟩ : ∃ y, Y[i]? = some y := ⟨_, List.getElem?_eq_getElem (by omega)⟩
      have hYx : Y[j]? = some x := by
        have : (Y.drop j)[0]? = (l.drop j)[0]? := by rw [hYj]
        rw [List.getElem?_drop, List.getElem?_drop, Nat.add_zero] at this
        rw [this, hx]
      have hrY : RowsAt W (some ⟨g, 0, none⟩) 2 (Y.map ir) := rowsAt_cells (ir2 Y) (H.cells (by repeat (first | exact pick_head | apply pick_tail | apply pick_app)))
      obtain ⟨g', off, he, _, hc⟩ := hrY.at (j := j) (r := ir x) (by rw [List.getElem?_map, hYx]; rfl)
      cases he
      have hstep : (l.take (j + 1)).filter (fun x => !decide (x = t)) = (l.take j).filter (fun x => !decide (x = t)) ++ if x = t then [] else [x] := by
        rw [List.take_add_one, hx, Option.toList_some, List.filter_append]
        congr 1
        by_cases hh : x = t <;> simp [hh]
      have hYj' : Y.drop (j + 1) = l.drop (j + 1) := by
        have := congrArg (List.drop 1) hYj
        rwa [List.drop_drop, List.drop_drop] at this
      refine s_req ⟨by omega, g1⟩ ⟨g, 0, rfl, (s_loadI (hc 0 _ rfl) (s_loadI (hc 1 _ rfl) ?_))⟩
      (refine h_new H fun n15 u H => ?_)
      iterate 2 refine h_st H (by repeat (first | exact pick_head | apply pick_tail | apply pick_app)) (by first | (simp; done) | exact Nat.le_of_ble_eq_true rfl) rfl fun u H => ?_
      refine h_ldI H (by repeat (first | exact pick_head | apply pick_tail | apply pick_app)) rfl ?_
      refine h_ldI H (by repeat (first | exact pick_head | apply pick_tail | apply pick_app)) rfl ?_
      have Hm : Has w0 u m' := H.sub (m2 := m') ⟨cl n15 27 (ir x) :: cl g 27 ((Y.map ir).flatten ++ sp) :: mm, by
        show (cl n15 27 (ir x) :: cl g 27 ((Y.map ir).flatten ++ sp) :: (m' ++ mm)).Perm _
        exact (List.perm_append_comm_assoc [cl n15 27 (ir x), cl g 27 ((Y.map ir).flatten ++ sp)] m' mm)⟩
      refine s_call (clR_c (x := x) (hr u Hm)) ?_
      rintro _ u ⟨rfl, f⟩
      have H := H.fr0 f
      refine ⟨_, rfl, s_asB (s_ite (fun g2 => ?_) (fun g2 => s_next (by first | exact ⟨rfl, rfl⟩ | trivial) ?_))⟩
      · have g2 : ¬ x = t := by simpa using g2
        rw [if_neg g2] at hstep
        refine h_ldI H (by repeat (first | exact pick_head | apply pick_tail | apply pick_app)) rfl ?_
        refine h_ldI H (by repeat (first | exact pick_head | apply pick_tail | apply pick_app)) rfl ?_
        obtain ⟨P, S, r0, hP, hr0, hPl, hset⟩ := row_split (sp := sp) (ir2 Y) (i := i) (by rw [List.length_map]; omega)
        refine s_req ⟨by omega, by omega⟩ (s_sm ?_)
        have hYs : (((Y.set i x).map ir).flatten ++ sp) = P ++ ir x ++ S := by rw [List.map_set]; exact hset _ rfl
        have H' : Has w0 u (cl g 27 (P ++ r0 ++ S) :: (cl n15 27 (ir x) :: (m' ++ mm))) := by rw [← hP]; exact H.sub (by repeat (first | exact sb_refl | exact sb_nil | refine sb_cons (by repeat (first | exact pick_head | apply pick_tail | apply pick_app)) ?_ | refine sb_app (by repeat (first | exact cut_head | exact cut_all | apply cut_tail | apply cut_app)) ?_ | exact sb_one (by repeat (first | exact cut_head | exact cut_all | apply cut_tail | apply cut_app))))
        refine put2 (by omega) hPl hr0 H' fun u H => s_next (by first | exact ⟨rfl, rfl⟩ | trivial) ?_
        simp (config := { decide := true }) only [if_true, if_false]
        refine ⟨⟨i + 1, j + 1, Y.set i x, by rw [w_succ (by omega), w_succ (by omega)], by omega, by omega, by rw [List.length_set, hYl], ?_, ?_, ?_, mm ++ [cl n15 27 (ir x)], ?_⟩, by rw [w_succ (by omega), w_succ (by omega)]; simp [intOf] <;> omega⟩
        · rw [hstep, List.take_add_one, List.getElem?_set_self (by omega), Option.toList_some, List.take_set_of_le (by omega), hYi]
        · rw [hstep, List.length_append, ← hil]; rfl
        · rw [List.drop_set_of_lt (by omega), hYj']
        · rw [hYs]
          have H : Has w0 u (cl g 27 (P ++ ir x ++ S) :: (cl n15 27 (ir x) :: (m' ++ mm))) := H
          refine H.perm (List.Perm.cons _ ?_)
          rw [← List.append_assoc]
          exact List.perm_append_comm (l₁ := [cl n15 27 (ir x)])
      · have g2 : x = t := by simpa using g2
        rw [if_pos g2, List.append_nil] at hstep
        simp (config := { decide := true }) only [if_true, if_false]
        refine ⟨⟨i, j + 1, Y, by rw [w_succ (by omega)], by omega, by omega, hYl, by rw [hstep]; exact hYi, by rw [hstep]; exact hil, hYj', mm ++ [cl n15 27 (ir x)], ?_⟩, by rw [w_succ (by omega)]; simp [intOf] <;> omega⟩
        have H : Has w0 u (cl n15 27 (ir x) :: cl g 27 ((Y.map ir).flatten ++ sp) :: (m' ++ mm)) := H
        refine H.perm ((List.Perm.swap _ _ _).trans (List.Perm.cons _ ?_))
        rw [← List.append_assoc]
        exact List.perm_append_comm (l₁ := [cl n15 27 (ir x)])
    · simp only [decide_eq_false_iff_not] at g1
      obtain rfl : j = l.length := by omega
      rw [List.take_length] at hYi hil
      have hfl : ((Y.map ir).flatten ++ sp).length = cap * 2 := by
        rw [List.length_append, flat_len (ir2 Y), List.length_map, hYl, ← h3, List.length_append, flat_len (ir2 l), List.length_map]
      have hb : sliceBase (some ⟨g, 0, none⟩ : Option Addr) (i : Int).toNat cap 2 = some ⟨g, i * 2, none⟩ := by
        unfold sliceBase
        rw [if_neg (by omega)]
        simp [add_plain]
      refine s_req ⟨by omega, by omega⟩ ?_
      rw [hb]
      refine s_clear (H.cells (by repeat (first | exact pick_head | apply pick_tail | apply pick_app))) elemI.under (z := .agg ⟨[.int .i64 0, .int .i64 0]⟩) (fun w => by rfl) (by intro u hu; simp [Value.cells] at hu; rcases hu with rfl | rfl <;> rfl) (by decide) rfl (by
        show i * 2 + (l.length - (i : Int).toNat) * 2 ≤ _
        rw [hfl]
        have : (l.length - (i : Int).toNat) = l.length - i := by omega
        rw [this]
        omega) ?_
      intro l' u hf hc hl' hsame
      have H := H.updc pick_head hf hc
      have hb0 : sliceBase (some ⟨g, 0, none⟩ : Option Addr) 0 cap 2 = some ⟨g, 0, none⟩ := sliceBase_zero _ _ _
      refine s_req ⟨by omega, by omega⟩ ?_
      rw [hb0]
      have htk : l'.take (i * 2) = ((l.filter (fun x => !decide (x = t))).map ir).flatten := by
        rw [← hYi]
        have e1 : l'.take (i * 2) = ((Y.map ir).flatten ++ sp).take (i * 2) := by
          refine List.ext_getElem? fun q => ?_
          rw [List.getElem?_take, List.getElem?_take]
          split
          · exact hsame q (.inl (by omega))
          · rfl
        rw [e1, List.take_append_of_le_length (by rw [flat_len (ir2 Y), List.length_map]; omega), flat_take (ir2 Y), List.map_take]
      have hlen2 : (l.filter (fun x => !decide (x = t))).length = i := hil.symm
      refine s_ret ⟨some ⟨g, 0, none⟩, [cl g 27 l'], by rw [hlen2]; simp, ⟨by rw [flat_len (ir2 _), List.length_map], .inr ⟨g, cap, l'.drop (i * 2), by rw [hlen2], ?_, by rw [hlen2]; omega, h2, ?_⟩⟩, H.sub (cutp m' mm)⟩
      · rw [← htk, List.take_append_drop]
      · rw [← htk, List.take_append_drop, hl', hfl]

theorem clF_c {x : Ix} {t : Ix} {r : Nat} {tr : TypeId} (hr : Cells w r tr (ir t)) : Calls Try.prog 21 #[.agg ⟨ir x⟩, .pointer (some ⟨r, 0, none⟩)] w fun e w' => e = .returned (.bool (decide (x = t))) ∧ Fr [] w w' := by
  apply c21
  refine h_new (Has.init w) fun n6 u H => ?_
  have hr := H.base.cells hr (by simp)
  exact h_ldI H (by repeat (first | exact pick_head | apply pick_tail | apply pick_app)) rfl (h_ldI H (by repeat (first | exact pick_head | apply pick_tail | apply pick_app)) rfl (s_ldI hr rfl (s_ldI hr rfl (s_ret ⟨by rw [← eqI], H.base⟩))))
theorem ixF_c {o : Option Addr} {l : List (Ix)} {t : Ix} {n cap r : Nat} {tr : TypeId} (hl : RowsAt w o 2 (l.map ir)) (hn : n = l.length) (hmax : l.length ≤ 5864062014805) (hr : Cells w r tr (ir t)) :
    Calls Try.prog 51 #[.slice o n cap, .func (.func 21) #[] #[.pointer (some ⟨r, 0, none⟩)]] w fun e w' => ∃ z : Int, e = .returned (.int .i64 z) ∧ Fr [] w w' ∧
      ((z = -1 ∧ ∀ x ∈ l, x ≠ t) ∨ ∃ i : Nat, i < l.length ∧ z = i ∧ (∀ x ∈ l.take i, x ≠ t) ∧ ∀ x, l[i]? = some x → x = t) := by
  subst hn
  apply c51
  refine s_loop (fun vs W => ∃ i : Nat, vs = [.int .i64 i] ∧ i ≤ l.length ∧ (∀ x ∈ l.take i, x ≠ t) ∧ Has w W []) (fun vs _ => l.length - (intOf (vs.getD 0 undef)).toNat)
    ⟨0, rfl, by omega, by simp, Has.init w⟩ ?_
  rintro _ j W ⟨i, rfl, hil, hno, H⟩
  refine s_asI (s_ite (fun g1 => ?_) (fun g1 => ?_))
  · simp only [decide_eq_true_eq] at g1
    obtain ⟨x, hx⟩ : ∃ x, l[i]? = some x := ⟨_, List.getElem?_eq_getElem (by omega)⟩
    obtain ⟨g, off, he, _, hc⟩ := (RowsAt.fr hl H.base).at (j := i) (r := ir x) (by rw [List.getElem?_map, hx]; rfl)
    refine s_req ⟨by omega, g1⟩ ⟨g, off, he, (s_loadI (hc 0 _ rfl) (s_loadI (hc 1 _ rfl) (s_call (clF_c (x := x) (H.base.cells hr (by simp))) ?_)))⟩
    rintro _ u ⟨rfl, f⟩
    have H := H.fr0 f
    refine ⟨_, rfl, s_asB (s_ite (fun g2 => s_ret ⟨i, rfl, H.base, .inr ⟨i, by omega, rfl, hno, fun y hy => ?_⟩⟩) (fun g2 => s_next (by first | exact ⟨rfl, rfl⟩ | trivial) ?_))⟩
    · rw [hx] at hy
      cases hy
      simpa using g2
    · simp (config := { decide := true }) only [if_true, if_false]
      refine ⟨⟨i + 1, by rw [w_succ (by omega)], by omega, fun y hy => ?_, H⟩, by rw [w_succ (by omega)]; simp [intOf] <;> omega⟩
      rw [List.take_add_one, hx, Option.toList_some] at hy
      rcases List.mem_append.1 hy with hy | hy
      · exact hno y hy
      · simp only [List.mem_singleton] at hy
        subst hy
        simpa using g2
  · simp only [decide_eq_false_iff_not] at g1
    rw [List.take_of_length_le (by omega)] at hno
    exact s_ret ⟨-1, rfl, H.base, .inl ⟨rfl, hno⟩⟩
theorem dfF_c {w0 : World} {m m' c : Hp} {o : Option Addr} {l : List (Ix)} {t : Ix} {n cap r : Nat} {tr : TypeId} (H : Has w0 w m) (hp : Cut c m m') (ho : OwnC 27 2 (.slice o n cap) n (l.map ir).flatten c) (hn : n = l.length) (hmax : l.length ≤ 5864062014805) (hr : ∀ u, Has w0 u m' → Cells u r tr (ir t)) :
    Calls Try.prog 20 #[.slice o n cap, .func (.func 21) #[] #[.pointer (some ⟨r, 0, none⟩)]] w fun e w' => ∃ o' c', e = .returned (.slice o' (l.filter (fun x => !decide (x = t))).length cap) ∧
      OwnC 27 2 (.slice o' (l.filter (fun x => !decide (x = t))).length cap) (l.filter (fun x => !decide (x = t))).length ((l.filter (fun x => !decide (x = t))).map ir).flatten c' ∧ Has w0 w' (c' ++ m') := by
  subst hn
  have hrows : RowsAt w o 2 (l.map ir) := rowsAt_own (ir2 l) (by decide) ho H hp
  have H := H.pullc hp
  apply c20
  refine s_call (ixF_c hrows rfl hmax (hr w H.right)) ?_
  rintro _ u ⟨z, rfl, f, hz⟩
  have H := H.fr0 f
  refine ⟨_, rfl, s_asI ?_⟩
  rcases hz with ⟨rfl, hno⟩ | ⟨k, hk, rfl, hno, hat⟩
  · have hf : l.filter (fun x => !decide (x = t)) = l := by
      rw [List.filter_eq_self]
      intro x hx
      have := hno x hx
      simpa using this
    rw [hf]
    exact s_true rfl (s_ret ⟨o, c, rfl, ho, H⟩)
  · obtain ⟨g, cap', sp, he, rfl, h1, h2, h3⟩ := ho.pos (by omega)
    cases he
    refine s_false (by first | (simp; done) | (simp; omega)) ?_
    refine s_loop (fun vs W => ∃ (i j : Nat) (Y : List (Ix)), vs = [.int .i64 i, .int .i64 j] ∧ i < j ∧ j ≤ l.length ∧ Y.length = l.length ∧ Y.take i = (l.take j).filter (fun x => !decide (x = t)) ∧ i = ((l.take j).filter (fun x => !decide (x = t))).length ∧ Y.drop j = l.drop j ∧
      ∃ mm, Has w0 W (cl g 27 ((Y.map ir).flatten ++ sp) :: (m' ++ mm))) (fun vs _ => l.length - (intOf (vs.getD 1 undef)).toNat) ⟨k, k + 1, l, by rw [w_succ (by omega)], by omega, by omega, rfl, ?_, ?_, rfl, [], by rw [List.append_nil]; exact H⟩ ?_
    · rw [del_first hno hat]
    · rw [del_first hno hat, List.length_take]
      omega
    rintro _ jj W ⟨i, j, Y, rfl, hij, hjl, hYl, hYi, hil, hYj, mm, H⟩
    refine s_asI (s_asI (s_ite (fun g1 => ?_) (fun g1 => ?_)))
    · simp only [decide_eq_true_eq] at g1
      have hlt : j < l.length := by omega
      obtain ⟨x, hx⟩ : ∃ x, l[j]? = some x := ⟨_, List.getElem?_eq_getElem hlt⟩
      obtain ⟨y, hy⟩ : ∃ y, Y[i]? = some y := ⟨_, List.getElem?_eq_getElem (by omega)⟩
      have hYx : Y[j]? = some x := by
        have : (Y.drop j)[0]? = (l.drop j)[0]? := by rw [hYj]
        rw [List.getElem?_drop, List.getElem?_drop, Nat.add_zero] at this
        rw [this, hx]
      have hrY : RowsAt W (some ⟨g, 0, none⟩) 2 (Y.map ir) := rowsAt_cells (ir2 Y) (H.cells (by repeat (first | exact pick_head | apply pick_tail | apply pick_app)))
      obtain ⟨g', off, he, _, hc⟩ := hrY.at (j := j) (r := ir x) (by rw [List.getElem?_map, hYx]; rfl)
      cases he
      have hstep : (l.take (j + 1)).filter (fun x => !decide (x = t)) = (l.take j).filter (fun x => !decide (x = t)) ++ if x = t then [] else [x] := by
        rw [List.take_add_one, hx, Option.toList_some, List.filter_append]
        congr 1
        by_cases hh : x = t <;> simp [hh]
      have hYj' : Y.drop (j + 1) = l.drop (j + 1) := by
        have := congrArg (List.drop 1) hYj
        rwa [List.drop_drop, List.drop_drop] at this
      refine s_req ⟨by omega, g1⟩ ⟨g, 0, rfl, (s_loadI (hc 0 _ rfl) (s_loadI (hc 1 _ rfl) ?_))⟩
      (refine h_new H fun n15 u H => ?_)
      iterate 2 refine h_st H (by repeat (first | exact pick_head | apply pick_tail | apply pick_app)) (by first | (simp; done) | exact Nat.le_of_ble_eq_true rfl) rfl fun u H => ?_
      refine h_ldI H (by repeat (first | exact pick_head | apply pick_tail | apply pick_app)) rfl ?_
      refine h_ldI H (by repeat (first | exact pick_head | apply pick_tail | apply pick_app)) rfl ?_
      have Hm : Has w0 u m' := H.sub (m2 := m') ⟨cl n15 27 (ir x) :: cl g 27 ((Y.map ir).flatten ++ sp) :: mm, by
        show (cl n15 27 (ir x) :: cl g 27 ((Y.map ir).flatten ++ sp) :: (m' ++ mm)).Perm _
        exact (List.perm_append_comm_assoc [cl n15 27 (ir x), cl g 27 ((Y.map ir).flatten ++ sp)] m' mm)⟩
      refine s_call (clF_c (x := x) (hr u Hm)) ?_
      rintro _ u ⟨rfl, f⟩
      have H := H.fr0 f
      refine ⟨_, rfl, s_asB (s_ite (fun g2 => ?_) (fun g2 => s_next (by first | exact ⟨rfl, rfl⟩ | trivial) ?_))⟩
      · have g2 : ¬ x = t := by simpa using g2
        rw [if_neg g2] at hstep
        refine h_ldI H (by repeat (first | exact pick_head | apply pick_tail | apply pick_app)) rfl ?_
        refine h_ldI H (by repeat (first | exact pick_head | apply pick_tail | apply pick_app)) rfl ?_
        obtain ⟨P, S, r0, hP, hr0, hPl, hset⟩ := row_split (sp := sp) (ir2 Y) (i := i) (by rw [List.length_map]; omega)
        refine s_req ⟨by omega, by omega⟩ (s_sm ?_)
        have hYs : (((Y.set i x).map ir).flatten ++ sp) = P ++ ir x ++ S := by rw [List.map_set]; exact hset _ rfl
        have H' : Has w0 u (cl g 27 (P ++ r0 ++ S) :: (cl n15 27 (ir x) :: (m' ++ mm))) := by rw [← hP]; exact H.sub (by repeat (first | exact sb_refl | exact sb_nil | refine sb_cons (by repeat (first | exact pick_head | apply pick_tail | apply pick_app)) ?_ | refine sb_app (by repeat (first | exact cut_head | exact cut_all | apply cut_tail | apply cut_app)) ?_ | exact sb_one (by repeat (first | exact cut_head | exact cut_all | apply cut_tail | apply cut_app))))
        refine put2 (by omega) hPl hr0 H' fun u H => s_next (by first | exact ⟨rfl, rfl⟩ | trivial) ?_
        simp (config := { decide := true }) only [if_true, if_false]
        refine ⟨⟨i + 1, j + 1, Y.set i x, by rw [w_succ (by omega), w_succ (by omega)], by omega, by omega, by rw [List.length_set, hYl], ?_, ?_, ?_, mm ++ [cl n15 27 (ir x)], ?_⟩, by rw [w_succ (by omega), w_succ (by omega)]; simp [intOf] <;> omega⟩
        · rw [hstep, List.take_add_one, List.getElem?_set_self (by omega), Option.toList_some, List.take_set_of_le (by omega), hYi]
        · rw [hstep, List.length_append, ← hil]; rfl
        · rw [List.drop_set_of_lt (by omega), hYj']
        · rw [hYs]
          have H : Has w0 u (cl g 27 (P ++ ir x ++ S) :: (cl n15 27 (ir x) :: (m' ++ mm))) := H
          refine H.perm (List.Perm.cons _ ?_)
          rw [← List.append_assoc]
          exact List.perm_append_comm (l₁ := [cl n15 27 (ir x)])
      · have g2 : x = t := by simpa using g2
        rw [if_pos g2, List.append_nil] at hstep
        simp (config := { decide := true }) only [if_true, if_false]
        refine ⟨⟨i, j + 1, Y, by rw [w_succ (by omega)], by omega, by omega, hYl, by rw [hstep]; exact hYi, by rw [hstep]; exact hil, hYj', mm ++ [cl n15 27 (ir x)], ?_⟩, by rw [w_succ (by omega)]; simp [intOf] <;> omega⟩
        have H : Has w0 u (cl n15 27 (ir x) :: cl g 27 ((Y.map ir).flatten ++ sp) :: (m' ++ mm)) := H
        refine H.perm ((List.Perm.swap _ _ _).trans (List.Perm.cons _ ?_))
        rw [← List.append_assoc]
        exact List.perm_append_comm (l₁ := [cl n15 27 (ir x)])
    · simp only [decide_eq_false_iff_not] at g1
      obtain rfl : j = l.length := by omega
      rw [List.take_length] at hYi hil
      have hfl : ((Y.map ir).flatten ++ sp).length = cap * 2 := by
        rw [List.length_append, flat_len (ir2 Y), List.length_map, hYl, ← h3, List.length_append, flat_len (ir2 l), List.length_map]
      have hb : sliceBase (some ⟨g, 0, none⟩ : Option Addr) (i : Int).toNat cap 2 = some ⟨g, i * 2, none⟩ := by
        unfold sliceBase
        rw [if_neg (by omega)]
        simp [add_plain]
      refine s_req ⟨by omega, by omega⟩ ?_
      rw [hb]
      refine s_clear (H.cells (by repeat (first | exact pick_head | apply pick_tail | apply pick_app))) elemI.under (z := .agg ⟨[.int .i64 0, .int .i64 0]⟩) (fun w => by rfl) (by intro u hu; simp [Value.cells] at hu; rcases hu with rfl | rfl <;> rfl) (by decide) rfl (by
        show i * 2 + (l.length - (i : Int).toNat) * 2 ≤ _
        rw [hfl]
        have : (l.length - (i : Int).toNat) = l.length - i := by omega
        rw [this]
        omega) ?_
      intro l' u hf hc hl' hsame
      have H := H.updc pick_head hf hc
      have hb0 : sliceBase (some ⟨g, 0, none⟩ : Option Addr) 0 cap 2 = some ⟨g, 0, none⟩ := sliceBase_zero _ _ _
      refine s_req ⟨by omega, by omega⟩ ?_
      rw [hb0]
      have htk : l'.take (i * 2) = ((l.filter (fun x => !decide (x = t))).map ir).flatten := by
        rw [← hYi]
        have e1 : l'.take (i * 2) = ((Y.map ir).flatten ++ sp).take (i * 2) := by
          refine List.ext_getElem? fun q => ?_
          rw [List.getElem?_take, List.getElem?_take]
          split
          · exact hsame q (.inl (by omega))
          · rfl
        rw [e1, List.take_append_of_le_length (by rw [flat_len (ir2 Y), List.length_map]; omega), flat_take (ir2 Y), List.map_take]
      have hlen2 : (l.filter (fun x => !decide (x = t))).length = i := hil.symm
      refine s_ret ⟨some ⟨g, 0, none⟩, [cl g 27 l'], by rw [hlen2]; simp, ⟨by rw [flat_len (ir2 _), List.length_map], .inr ⟨g, cap, l'.drop (i * 2), by rw [hlen2], ?_, by rw [hlen2]; omega, h2, ?_⟩⟩, H.sub (cutp m' mm)⟩
      · rw [← htk, List.take_append_drop]
      · rw [← htk, List.take_append_drop, hl', hfl]

end
end Go.Proofs.Ytdepohepogocgaa
