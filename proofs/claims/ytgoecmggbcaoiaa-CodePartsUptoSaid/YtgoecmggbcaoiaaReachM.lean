/- What a run could come to: the program's search. -/
import Derived.Test.YtgoecmggbcaoiaaRDecM
import Derived.Test.YtgoecmggbcaoiaaReachP
set_option linter.unusedVariables false
set_option linter.unusedSimpArgs false
set_option maxRecDepth 100000
set_option maxHeartbeats 4000000
namespace Go.Proofs.Ytgoecmggbcaoiaa
open Go hiding Expr
open Go.RowKit Tr

theorem elemN : Elem Try.prog 42 3 (.int .i64 0) 1 8 := ⟨by kernel_rfl, by kernel_rfl, rfl, by decide⟩
theorem elemB : Elem Try.prog 74 4 (.bool false) 1 1 := ⟨by kernel_rfl, by kernel_rfl, rfl, by decide⟩
theorem keyed3 : Maps.Keyed Try.prog 3 := Maps.int_keyed Try.underlying3
theorem keyI3 {a : Int} (h : inI a) : ∃ l, keyOf Try.prog 3 (kI a) = some l := by
  obtain ⟨h1, h2⟩ := h
  exact ⟨_, Maps.keyOf_int_mk Try.underlying3 (by simp [Lit.wf, IntKind.min, IntKind.max, IntKind.signed, IntKind.bits]; omega)⟩
def natI (l : List Nat) : List Int := l.map (fun n : Nat => (n : Int))
theorem natI_append (a b : List Nat) : natI (a ++ b) = natI a ++ natI b := by simp [natI]

section
variable {w w' w0 : World} {m m' c : Hp} {bs : List Int} {o o2 : Option Addr} {cap cap2 n n2 : Nat} {at_ : Int} {l : List Ins} {x : Ins}

/-- The last one taken off a list of one's own. -/
theorem own_pop {e : TypeId} {xs : List Value} {y : Value} (ho : OwnC e 1 (.slice o (n + 1) cap) (n + 1) (xs ++ [y]) c) : OwnC e 1 (.slice (sliceBase o 0 cap 1) n cap) n xs c := by
  rw [sb_zero]
  refine ⟨by have := ho.1; simp at this; omega, ?_⟩
  rcases ho.2 with ⟨_, h, _⟩ | ⟨g, cap', sp, hv, rfl, h1, h2, h3⟩
  · omega
  · cases hv
    exact .inr ⟨g, cap, y :: sp, rfl, by simp, by omega, h2, by simpa using h3⟩

/-- append of one number. -/
theorem h_num {Q : Ending → World → Prop} {ρ : Lv} {k : Value → T} {L : List Int} {r : Nat} {y : Int} {m1 : Hp} (H : Has w0 w m) (hp : Cut c m m') (ho : OwnC 3 1 (.slice o L.length cap) L.length (ints L) c) (hr : Pick (cl r 3 [.int .i64 y]) m m1) (hl : (L.length + 1) * 8 ≤ 140737488355328)
    (hk : ∀ o' cap' c' w', OwnC 3 1 (.slice o' (L ++ [y]).length cap') (L ++ [y]).length (ints (L ++ [y])) c' → Has w0 w' (c' ++ m') → (k (.slice o' (L ++ [y]).length cap')).sem Try.prog Q ρ w') :
    (T.run (biV .append #[42, 42] 42 #[.slice o L.length cap, .slice (some ⟨r, 0, none⟩) 1 1]) k).sem Try.prog Q ρ w :=
  h_app1 elemN H hp ho hr rfl (by simp [Value.oneCell']) (by omega) (by omega) fun v' c' w' ho' H => by
    obtain ⟨o', cap', rfl⟩ := ho'.slice
    have hlen : (L ++ [y]).length = L.length + 1 := by simp
    have := hk o' cap' c' w'
    rw [hlen, ints_append, show ints [y] = [.int .i64 y] by rfl] at this
    exact this ho' H

def isF : Value → Bool
  | .bool false => true
  | _ => false
def unseenN (W : World) (ns : Nat) : Nat := match W.heap[ns]? with
  | some (.cells a _ _) => (a.toList.filter isF).length
  | _ => 0
def sliceLen : Value → Nat
  | .slice _ n _ => n
  | _ => 0
theorem unseen_eq {ns : Nat} {ty : TypeId} {seen : List Bool} (h : Cells w ns ty (seen.map Value.bool)) : unseenN w ns = (seen.filter (fun b => !b)).length := by
  unfold unseenN
  rw [show w.heap[ns]? = _ from h]
  simp only
  clear h
  induction seen with
  | nil => rfl
  | cons b r ih =>
    cases b
    · rw [List.map_cons, List.filter_cons_of_pos (by rfl), List.length_cons, ih]
      simp
    · rw [List.map_cons, List.filter_cons_of_neg (by simp [isF]), ih]
      simp

/-- A stack of numbers of one's own. -/
def Stk (w0 : World) (rest : Hp) (L : List Nat) (vs : List Value) (W : World) : Prop := ∃ o cap ct, vs = [.slice o (natI L).length cap] ∧ OwnC 3 1 (.slice o (natI L).length cap) (natI L).length (ints (natI L)) ct ∧ Has w0 W (ct ++ rest)
theorem natI_len (L : List Nat) : (natI L).length = L.length := by simp [natI]
theorem unseen_set : ∀ {seen : List Bool} {i : Nat}, seen[i]? = some false → ((seen.set i true).filter (fun b => !b)).length + 1 = (seen.filter (fun b => !b)).length
  | [], i, h => by simp at h
  | b :: r, 0, h => by
    simp at h
    subst h
    simp
  | b :: r, i + 1, h => by
    have := unseen_set (seen := r) (i := i) (by simpa using h)
    cases b <;> simp <;> omega
theorem jump_has {l : List Ins} (h : l.any (badJ l) = false) (hx : x ∈ l) (hj : jumpP x.op = true) : ∃ (k : Nat) (y : Ins), l[k]? = some y ∧ y.at_ = x.imm := by
  have h1 : badJ l x = false := by
    rw [List.any_eq_false] at h
    simpa using h x hx
  unfold badJ at h1
  rw [hj] at h1
  have h2 : beginsP l x.imm = true := by simpa using h1
  unfold beginsP at h2
  rw [List.any_eq_true] at h2
  obtain ⟨y, hy, he⟩ := h2
  obtain ⟨k, hk⟩ := List.mem_iff_getElem?.1 hy
  exact ⟨k, y, hk, by simpa using he⟩
theorem dec_facts (hu : ∀ x ∈ bs, 0 ≤ x ∧ x ≤ 255) (he : (decP bs).2 = 0) : Rises (decP bs).1 ∧ (decP bs).1.any (badJ (decP bs).1) = false ∧ (∀ x ∈ (decP bs).1, inI x.at_ ∧ inI x.imm) ∧ (decP bs).1.length ≤ 512 ∧ bs.length ≤ 512 ∧ (walkP bs).2 = 0 ∧ (decP bs).1 = (walkP bs).1 := by
  unfold decP at he ⊢
  split at he
  · simp at he
  · rename_i h1
    split at he
    · rename_i h2
      exact absurd he h2
    · rename_i h2
      split at he
      · simp at he
      · rename_i h3
        rw [if_neg h1, if_neg h2, if_neg h3]
        refine ⟨walk_rise (by omega), by simpa using h3, fun x hx => ?_, ?_, by omega, by simpa using h2, rfl⟩
        · have h4 := walk_mem (bs := bs) (at_ := 0) (by omega) x hx
          have h5 := imm_rng (bs := bs) (at_ := x.at_) hu
          rw [← h4.2.2.2] at h5
          unfold inI
          omega
        · have := walk_len (bs := bs) (at_ := 0) (by omega) (by omega)
          show (walkA bs 0).1.length ≤ 512
          omega
theorem dec_bad (he : (decP bs).2 ≠ 0) : (decP bs).1 = [] := by
  unfold decP at he ⊢
  repeat' split
  all_goals first | rfl | skip
  rename_i h1 h2 h3
  rw [if_neg h1, if_neg h2, if_neg h3] at he
  exact absurd rfl he

theorem outP_snoc {l : List Ins} {seen : List Bool} {i : Nat} {x : Ins} {b : Bool} (hx : l[i]? = some x) (hb : seen[i]? = some b) : outP (l.take (i + 1)) (seen.take (i + 1)) = outP (l.take i) (seen.take i) ++ (if b = true then [x.at_] else []) := by
  unfold outP
  rw [take_succ' hx, take_succ' hb, List.zip_append (by
    have h1 := (List.getElem?_eq_some_iff.1 hx).1
    have h2 := (List.getElem?_eq_some_iff.1 hb).1
    simp; omega), List.filter_append, List.map_append]
  cases b <;> simp

theorem reach_c (H : Has w0 w m) (hb : ∀ u, Has w0 u m → BytAt u o bs) (hu : ∀ x ∈ bs, 0 ≤ x ∧ x ≤ 255) (hc : bs.length ≤ cap) (hn : n = bs.length) (hl : bs.length ≤ 140737488355328) : Calls Try.prog 18 #[.slice o n cap] w fun e w' =>
    ∃ v c out, e = .returned v ∧ IsReach bs out ∧ OwnC 3 1 v out.length (ints out) c ∧ Has w0 w' (c ++ m) := by
  subst hn
  apply c18
  (refine s_call (dec_c H hb hu hc rfl hl) ?_; rintro _ u ⟨v, c, rfl, ho, H⟩; refine ⟨_, rfl, ?_⟩)
  obtain ⟨ol, capl, rfl⟩ := ho.slice
  refine s_asU (s_req rfl (s_asS (s_asI (h_blk (fun _ => (decP bs).2 = 0 ∧ (decP bs).1.length ≠ 0) H ?_ ?_))))
  · refine s_ite (fun g => s_ret ⟨_, [], [], rfl, ?_, OwnC.nil, H.sub (by repeat (first | exact sb_refl | exact sb_nil | refine sb_cons (by repeat (first | exact pick_head | apply pick_tail | apply pick_app)) ?_ | refine sb_app (by repeat (first | exact cut_head | exact cut_all | apply cut_tail | apply cut_app)) ?_ | exact sb_one (by repeat (first | exact cut_head | exact cut_all | apply cut_tail | apply cut_app))))⟩) (fun g => s_ite (fun g1 => s_ret ⟨_, [], [], rfl, ?_, OwnC.nil, H.sub (by repeat (first | exact sb_refl | exact sb_nil | refine sb_cons (by repeat (first | exact pick_head | apply pick_tail | apply pick_app)) ?_ | refine sb_app (by repeat (first | exact cut_head | exact cut_all | apply cut_tail | apply cut_app)) ?_ | exact sb_one (by repeat (first | exact cut_head | exact cut_all | apply cut_tail | apply cut_app))))⟩) (fun g1 => s_next ⟨rfl, rfl⟩ ?_))
    · unfold IsReach
      rw [if_pos (.inl (by simpa using g))]
    · unfold IsReach
      have : (decP bs).1.length = 0 := by
        have : ((decP bs).1.length : Int) = 0 := by simpa only [beq_iff_eq] using g1
        omega
      rw [if_pos (.inr this)]
    · simp only [if_true]
      refine ⟨H, by simpa using g, ?_⟩
      have : ((decP bs).1.length : Int) ≠ 0 := by simpa only [beq_eq_false_iff_ne] using g1
      omega
  clear H
  rintro _ _ W H ⟨hok, hne⟩
  obtain ⟨hris, hj, hrng, hlen, hbl, hw0, hwe⟩ := dec_facts hu hok
  have hIs : ∀ out, (∃ seen : List Bool, seen.length = (decP bs).1.length ∧ (∀ i, seen[i]? = some true ↔ Re (decP bs).1 i) ∧ out = outP (decP bs).1 seen) → IsReach bs out := fun out h => by
    unfold IsReach
    rw [if_neg (by omega)]
    exact h
  generalize (decP bs).1 = l at *
  have hpos : 0 < l.length := by omega
  refine h_newMap H fun n11 u H => ?_
  refine s_loop (fun vs W => ∃ (i : Nat) (D : List (Int × Int)) (ob : Obj), vs = [.int .i64 i] ∧ i ≤ l.length ∧ MapO Try.prog 3 kI kI ob D ∧ (∀ (k : Nat) x, k < i → l[k]? = some x → getAt D x.at_ = some (k : Int)) ∧
      Has w0 W ((n11, ob) :: (c ++ m)))
    (fun vs _ => l.length - (intOf (vs.getD 0 undef)).toNat) ⟨0, [], _, rfl, by omega, MapO.new, by intro k x h; omega, H⟩ ?_
  clear H
  rintro _ j W ⟨i, D, ob, rfl, hi, hM, hD, H⟩
  refine s_asI (s_ite (fun g1 => ?_) (fun g1 => ?_))
  · simp only [decide_eq_true_eq] at g1
    obtain ⟨x, hx⟩ : ∃ x, l[i]? = some x := ⟨_, List.getElem?_eq_getElem (by omega)⟩
    obtain ⟨gg, off, rfl, p0, p1, p2, p3, p4⟩ := (insAt_own ho H (by repeat (first | exact cut_head | exact cut_all | apply cut_tail | apply cut_app))).get hx
    refine s_req ⟨by omega, by omega⟩ (s_sm (s_loadI p0 (s_loadI p1 (s_loadI p2 (s_loadI p3 (s_loadI p4 ?_))))))
    (refine h_new H fun n27 u H => ?_)
    iterate 5 refine h_st H (by repeat (first | exact pick_head | apply pick_tail | apply pick_app)) (by first | (simp; done) | exact Nat.le_of_ble_eq_true rfl) rfl fun u H => ?_
    obtain ⟨lk, hkey⟩ := keyI3 (hrng x (List.mem_of_getElem? hx)).1
    refine h_ldI H (by repeat (first | exact pick_head | apply pick_tail | apply pick_app)) rfl (h_put (a := x.at_) (v := (i : Int)) (kf := kI) (vf := kI) H (b := n11) (o := ob) (by repeat (first | exact pick_head | apply pick_tail | apply pick_app)) hM keyed3 Try.underlying73 (kI_inj _ D) hkey fun o' u hM' H => s_next ⟨rfl, rfl⟩ ?_)
    rw [w_succ (by omega)]
    simp only [if_true]
    refine ⟨⟨i + 1, _, o', rfl, by omega, hM', fun k y hk hy => ?_, H.sub (by repeat (first | exact sb_refl | exact sb_nil | refine sb_cons (by repeat (first | exact pick_head | apply pick_tail | apply pick_app)) ?_ | refine sb_app (by repeat (first | exact cut_head | exact cut_all | apply cut_tail | apply cut_app)) ?_ | exact sb_one (by repeat (first | exact cut_head | exact cut_all | apply cut_tail | apply cut_app))))⟩, by simp [intOf]; omega⟩
    rw [getAt_put]
    by_cases h : x.at_ = y.at_
    · rw [if_pos h, rises_inj hris hx hy h]
    · rw [if_neg h]
      refine hD k y ?_ hy
      rcases Nat.lt_or_ge k i with h' | h'
      · exact h'
      · have : k = i := by omega
        subst this
        rw [hx] at hy
        cases hy
        exact absurd rfl h
  simp only [decide_eq_false_iff_not] at g1
  have hil : i = l.length := by omega
  subst hil
  refine h_make elemB H (by omega) (by simp; omega) (by simp; omega) fun ns u H => ?_
  have H : Has w0 u (cl ns 4 ((List.replicate l.length false).map Value.bool) :: (n11, ob) :: (c ++ m)) := by
    rw [made_one _ _ rfl] at H
    simpa using H
  refine s_asS ?_
  (refine h_new H fun n29 u H => ?_)
  refine s_loop (fun vs W => ∃ (todo : List Nat) (seen : List Bool), DInv l seen todo ∧ todo.length + 3 * (seen.filter (fun b => !b)).length ≤ 3 * l.length + 1 ∧ Stk w0 (cl ns 4 (seen.map Value.bool) :: (n11, ob) :: (c ++ m)) todo vs W)
    (fun vs W => sliceLen (vs.headD undef) + 3 * unseenN W ns) ?_ ?_
  · exact ⟨[0], List.replicate l.length false, DInv.init hpos, by simp; omega, _, _, [cl n29 3 [.int .i64 0]], rfl, ⟨rfl, .inr ⟨n29, 1, [], rfl, rfl, Nat.le_refl _, by decide, rfl⟩⟩, H⟩
  clear H
  rintro _ j W ⟨todo, seen, hI, hmu, ot, capt, ct, rfl, hot, H⟩
  have hmes : unseenN W ns = (seen.filter (fun b => !b)).length := unseen_eq (H.cells (by repeat (first | exact pick_head | apply pick_tail | apply pick_app)))
  rw [natI_len] at hot ⊢
  refine s_asS (s_ite (fun g2 => ?_) (fun g2 => ?_))
  · simp only [decide_eq_true_eq] at g2
    obtain ⟨t, p, rfl⟩ : ∃ t p, todo = t ++ [p] := ⟨todo.dropLast, todo.getLast (by intro h; subst h; simp at g2), (List.dropLast_concat_getLast _).symm⟩
    have hlen1 : (t ++ [p]).length = t.length + 1 := by simp
    have hat : ValsAt W ot (natI (t ++ [p])) := valsAt_own (n := (t ++ [p]).length) hot H (by repeat (first | exact cut_head | exact cut_all | apply cut_tail | apply cut_app))
    rw [hlen1] at hot g2 hmu ⊢
    rw [show (((t.length + 1 : Nat) : Int) - 1) = ((t.length : Nat) : Int) by omega, wrapI (n := (t.length : Int)) (by omega) (by omega)]
    obtain ⟨gg, off, rfl, pp⟩ := hat.get (i := t.length) (x := (p : Int)) (by simp [natI])
    refine s_req ⟨by omega, by omega⟩ (s_sm (s_loadI pp (s_req ⟨by omega, ?_⟩ ?_)))
    · rcases hot.2 with ⟨h, _⟩ | ⟨g', cap', sp, hv, _, h1, _⟩
      · cases h
      · cases hv
        omega
    have hot1 : OwnC 3 1 (.slice (sliceBase (some ⟨gg, off, none⟩) 0 capt 1) t.length capt) t.length (ints (natI t)) ct := by
      refine own_pop (y := .int .i64 p) ?_
      rw [natI_append, ints_append] at hot
      exact hot
    rw [show ((t.length : Int)).toNat = t.length by omega]
    have hp1 := hI.ht p (by simp)
    have hsl := hI.len
    rw [← natI_len t] at hot1 ⊢
    generalize hob : sliceBase (some ⟨gg, off, none⟩) 0 capt 1 = ob1 at *
    refine h_blk (fun _ => p < l.length ∧ seen[p]? = some false) H ?_ ?_
    · refine s_ite (fun g3 => s_next ⟨rfl, rfl⟩ ?_) (fun g3 => s_req ?_ (s_sm ?_))
      · simp only [decide_eq_true_eq] at g3
        simp (config := { decide := true }) only [if_true, if_false]
        refine ⟨⟨t, seen, hI.skip hpos (.inl (by omega)), by omega, _, _, ct, rfl, hot1, H⟩, ?_⟩
        simp [sliceLen, natI_len]
      · simp only [decide_eq_false_iff_not] at g3
        exact ⟨by omega, by omega⟩
      · simp only [decide_eq_false_iff_not] at g3
        have hpl : p < l.length := by omega
        obtain ⟨b, hbp⟩ : ∃ b, seen[p]? = some b := ⟨_, List.getElem?_eq_getElem (by omega)⟩
        refine h_ldB H (by repeat (first | exact pick_head | apply pick_tail | apply pick_app)) (n := b) ?_ (s_ite (fun g4 => s_next ⟨rfl, rfl⟩ ?_) (fun g4 => s_next ⟨rfl, rfl⟩ ?_))
        · rw [show 0 + (p : Int).toNat * 1 = p by omega, List.getElem?_map, hbp]
          rfl
        · subst g4
          simp (config := { decide := true }) only [if_true, if_false]
          refine ⟨⟨t, seen, hI.skip hpos (.inr hbp), by omega, _, _, ct, rfl, hot1, H⟩, ?_⟩
          simp [sliceLen, natI_len]
        · subst g4
          simp (config := { decide := true }) only [if_true, if_false]
          exact ⟨H, hpl, hbp⟩
    clear H
    rintro _ _ W2 H ⟨hpl, hbp⟩
    obtain ⟨x, hx⟩ : ∃ x, l[p]? = some x := ⟨_, List.getElem?_eq_getElem hpl⟩
    have hus := unseen_set hbp
    refine s_req ⟨by omega, by omega⟩ (s_sm ?_)
    rw [show 0 + (p : Int).toNat * 1 = p by omega]
    refine h_st H (by repeat (first | exact pick_head | apply pick_tail | apply pick_app)) (by simp; omega) rfl fun u H => ?_
    rw [show (seen.map Value.bool).set p (Value.bool true) = (seen.set p true).map Value.bool by rw [List.map_set]] at H
    obtain ⟨gg3, off3, rfl, p0, p1, p2, p3, p4⟩ := (insAt_own ho H (by repeat (first | exact cut_head | exact cut_all | apply cut_tail | apply cut_app))).get hx
    refine s_req ⟨by omega, by omega⟩ (s_sm (s_loadI p0 (s_loadI p1 (s_loadI p2 (s_loadI p3 (s_loadI p4 ?_))))))
    (refine h_new H fun n49 u H => ?_)
    iterate 5 refine h_st H (by repeat (first | exact pick_head | apply pick_tail | apply pick_app)) (by first | (simp; done) | exact Nat.le_of_ble_eq_true rfl) rfl fun u H => ?_
    have H : Has w0 u (ct ++ (cl n49 40 (insR x) :: cl ns 4 ((seen.set p true).map Value.bool) :: (n11, ob) :: (c ++ m))) := H.sub (by repeat (first | exact sb_refl | exact sb_nil | refine sb_cons (by repeat (first | exact pick_head | apply pick_tail | apply pick_app)) ?_ | refine sb_app (by repeat (first | exact cut_head | exact cut_all | apply cut_tail | apply cut_app)) ?_ | exact sb_one (by repeat (first | exact cut_head | exact cut_all | apply cut_tail | apply cut_app))))
    refine s_blk (Stk w0 (cl n49 40 (insR x) :: cl ns 4 ((seen.set p true).map Value.bool) :: (n11, ob) :: (c ++ m)) (t ++ (if goesP x.op = true then [p + 1] else []))) ?_ ?_
    rotate_left
    · refine h_ldI H (by repeat (first | exact pick_head | apply pick_tail | apply pick_app)) rfl (s_ite (fun g3 => h_ldI H (by repeat (first | exact pick_head | apply pick_tail | apply pick_app)) rfl (s_ite (fun g4 => h_ldI H (by repeat (first | exact pick_head | apply pick_tail | apply pick_app)) rfl (s_ite (fun g5 => ?_) (fun g5 => s_next ⟨rfl, rfl⟩ ?_))) (fun g4 => s_next ⟨rfl, rfl⟩ ?_))) (fun g3 => s_next ⟨rfl, rfl⟩ ?_))
      · (refine h_new H fun n73 u H => ?_)
        rw [w_succ (i := p) (by omega)] at H
        refine h_num (m' := cl n73 3 [.int .i64 ((p + 1 : Nat) : Int)] :: cl n49 40 (insR x) :: cl ns 4 ((seen.set p true).map Value.bool) :: (n11, ob) :: (c ++ m)) H (by repeat (first | exact cut_head | exact cut_all | apply cut_tail | apply cut_app)) hot1 (by repeat (first | exact pick_head | apply pick_tail | apply pick_app)) (by rw [natI_len]; omega) fun o' cap' c' u ho' H => s_asS (s_next ⟨rfl, rfl⟩ ?_)
        simp only [if_true]
        have hg : goesP x.op = true := by unfold goesP; rw [g3, g4, g5]; rfl
        rw [if_pos hg]
        refine ⟨o', cap', c', ?_, ?_, H.sub (by repeat (first | exact sb_refl | exact sb_nil | refine sb_cons (by repeat (first | exact pick_head | apply pick_tail | apply pick_app)) ?_ | refine sb_app (by repeat (first | exact cut_head | exact cut_all | apply cut_tail | apply cut_app)) ?_ | exact sb_one (by repeat (first | exact cut_head | exact cut_all | apply cut_tail | apply cut_app))))⟩
        · rw [natI_append]; rfl
        · rw [natI_append]; exact ho'
      · simp only [if_true]
        have hg : goesP x.op = false := by unfold goesP; rw [g3, g4, g5]; rfl
        rw [hg, if_neg (by simp : ¬ (false = true)), List.append_nil]
        exact ⟨_, _, ct, rfl, hot1, H⟩
      · simp only [if_true]
        have hg : goesP x.op = false := by unfold goesP; rw [g3, g4]; rfl
        rw [hg, if_neg (by simp : ¬ (false = true)), List.append_nil]
        exact ⟨_, _, ct, rfl, hot1, H⟩
      · simp only [if_true]
        have hg : goesP x.op = false := by unfold goesP; rw [g3]; rfl
        rw [hg, if_neg (by simp : ¬ (false = true)), List.append_nil]
        exact ⟨_, _, ct, rfl, hot1, H⟩
    clear H
    rintro _ _ W3 ⟨o4, cap4, ct4, rfl, hot4, H⟩
    have hT : (t ++ (if goesP x.op = true then [p + 1] else [])).length ≤ t.length + 1 := by rw [List.length_append]; split <;> simp
    refine s_asS ?_
    iterate 5 refine h_ldI H (by repeat (first | exact pick_head | apply pick_tail | apply pick_app)) rfl ?_
    (refine s_call (jumps_c (x := x) H) ?_; rintro _ u ⟨rfl, H⟩; refine ⟨_, rfl, ?_⟩)
    refine s_asB (s_ite (fun g3 => h_ldI H (by repeat (first | exact pick_head | apply pick_tail | apply pick_app)) rfl ?_) (fun g3 => s_next ⟨rfl, rfl⟩ ?_))
    · obtain ⟨k, y, hk, hy⟩ := jump_has hj (List.mem_of_getElem? hx) g3
      obtain ⟨lk, hkey⟩ := keyI3 (hrng x (List.mem_of_getElem? hx)).2
      have hkl := (List.getElem?_eq_some_iff.1 hk).1
      have hg := hD k y hkl hk
      rw [hy] at hg
      refine h_look1 (a := x.imm) (kf := kI) (vf := kI) H (b := n11) (o := ob) (by repeat (first | exact pick_head | apply pick_tail | apply pick_app)) hM keyed3 Try.underlying73 (z := .int .i64 0) rfl (kI_inj _ D) hkey ?_
      rw [hg]
      refine s_asI ?_
      (refine h_new H fun n65 u H => ?_)
      refine h_num (m' := cl n65 3 [.int .i64 (k : Int)] :: cl n49 40 (insR x) :: cl ns 4 ((seen.set p true).map Value.bool) :: (n11, ob) :: (c ++ m)) H (by repeat (first | exact cut_head | exact cut_all | apply cut_tail | apply cut_app)) hot4 (by repeat (first | exact pick_head | apply pick_tail | apply pick_app)) (by rw [natI_len]; omega) fun o' cap' c' u ho' H => s_asS (s_next ⟨rfl, rfl⟩ ?_)
      simp (config := { decide := true }) only [if_true, if_false]
      have hcat : natI (t ++ (if goesP x.op = true then [p + 1] else [])) ++ [(k : Int)] = natI (t ++ (if goesP x.op = true then [p + 1] else []) ++ [k]) := by rw [natI_append _ [k]]; rfl
      rw [hcat] at ho' ⊢
      have H : Has w0 u (c' ++ (cl ns 4 ((seen.set p true).map Value.bool) :: (n11, ob) :: (c ++ m))) := H.sub (by repeat (first | exact sb_refl | exact sb_nil | refine sb_cons (by repeat (first | exact pick_head | apply pick_tail | apply pick_app)) ?_ | refine sb_app (by repeat (first | exact cut_head | exact cut_all | apply cut_tail | apply cut_app)) ?_ | exact sb_one (by repeat (first | exact cut_head | exact cut_all | apply cut_tail | apply cut_app))))
      refine ⟨⟨_, seen.set p true, hI.visit hris hx (B := [k]) (fun _ => ⟨y, k, rfl, hk, hy⟩) (fun h => by rw [h] at g3; cases g3), by simp only [List.length_append, List.length_singleton] at hT ⊢; omega, o', cap', c', rfl, ho', H⟩, ?_⟩
      rw [unseen_eq (H.cells (by repeat (first | exact pick_head | apply pick_tail | apply pick_app))), hmes]
      simp only [List.headD_cons, sliceLen, natI_len, List.length_append, List.length_singleton] at hT ⊢
      omega
    · simp (config := { decide := true }) only [if_true, if_false]
      have H : Has w0 u (ct4 ++ (cl ns 4 ((seen.set p true).map Value.bool) :: (n11, ob) :: (c ++ m))) := H.sub (by repeat (first | exact sb_refl | exact sb_nil | refine sb_cons (by repeat (first | exact pick_head | apply pick_tail | apply pick_app)) ?_ | refine sb_app (by repeat (first | exact cut_head | exact cut_all | apply cut_tail | apply cut_app)) ?_ | exact sb_one (by repeat (first | exact cut_head | exact cut_all | apply cut_tail | apply cut_app))))
      have hv := hI.visit hris hx (B := []) (fun h => by rw [h] at g3; cases g3) (fun _ => rfl)
      rw [List.append_nil] at hv
      refine ⟨⟨_, seen.set p true, hv, by omega, o4, cap4, ct4, rfl, hot4, H⟩, ?_⟩
      rw [unseen_eq (H.cells (by repeat (first | exact pick_head | apply pick_tail | apply pick_app))), hmes]
      simp only [List.headD_cons, sliceLen, natI_len] at hT ⊢
      omega
  · simp only [decide_eq_false_iff_not] at g2
    have ht0 : todo = [] := List.eq_nil_of_length_eq_zero (by omega)
    subst ht0
    have hfin := hI.fin hpos
    have hsl := hI.len
    refine s_loop (fun vs W => ∃ (i : Nat) (v : Value) (cv : Hp), vs = [v, .int .i64 i] ∧ i ≤ l.length ∧ OwnC 3 1 v (outP (l.take i) (seen.take i)).length (ints (outP (l.take i) (seen.take i))) cv ∧
        Has w0 W (cv ++ (cl ns 4 (seen.map Value.bool) :: (n11, ob) :: (c ++ m))))
      (fun vs _ => l.length - (intOf (vs.getD 1 undef)).toNat) ⟨0, _, [], rfl, by omega, OwnC.nil, H.sub (by repeat (first | exact sb_refl | exact sb_nil | refine sb_cons (by repeat (first | exact pick_head | apply pick_tail | apply pick_app)) ?_ | refine sb_app (by repeat (first | exact cut_head | exact cut_all | apply cut_tail | apply cut_app)) ?_ | exact sb_one (by repeat (first | exact cut_head | exact cut_all | apply cut_tail | apply cut_app))))⟩ ?_
    clear H
    rintro _ j W ⟨i, v, cv, rfl, hi, hov, H⟩
    obtain ⟨ov, capv, rfl⟩ := hov.slice
    refine s_asS (s_asI (s_ite (fun g3 => ?_) (fun g3 => ?_)))
    · simp only [decide_eq_true_eq] at g3
      obtain ⟨x, hx⟩ : ∃ x, l[i]? = some x := ⟨_, List.getElem?_eq_getElem (by omega)⟩
      obtain ⟨b, hbp⟩ : ∃ b, seen[i]? = some b := ⟨_, List.getElem?_eq_getElem (by omega)⟩
      have hol : (outP (l.take i) (seen.take i)).length ≤ i := by
        unfold outP
        rw [List.length_map]
        refine Nat.le_trans (List.length_filter_le _ _) ?_
        rw [List.length_zip, List.length_take, List.length_take]
        omega
      have hsn := outP_snoc hx hbp
      obtain ⟨gg, off, rfl, p0, p1, p2, p3, p4⟩ := (insAt_own ho H (by repeat (first | exact cut_head | exact cut_all | apply cut_tail | apply cut_app))).get hx
      refine s_req ⟨by omega, by omega⟩ (s_sm (s_loadI p0 (s_loadI p1 (s_loadI p2 (s_loadI p3 (s_loadI p4 ?_))))))
      (refine h_new H fun n94 u H => ?_)
      iterate 5 refine h_st H (by repeat (first | exact pick_head | apply pick_tail | apply pick_app)) (by first | (simp; done) | exact Nat.le_of_ble_eq_true rfl) rfl fun u H => ?_
      have H : Has w0 u (cl n94 40 (insR x) :: (cv ++ (cl ns 4 (seen.map Value.bool) :: (n11, ob) :: (c ++ m)))) := H
      refine s_req ⟨by omega, by omega⟩ (s_sm (h_ldB H (by repeat (first | exact pick_head | apply pick_tail | apply pick_app)) (n := b) ?_ (s_ite (fun g4 => ?_) (fun g4 => s_next ⟨rfl, rfl⟩ ?_))))
      · rw [show 0 + (i : Int).toNat * 1 = i by omega, List.getElem?_map, hbp]
        rfl
      · subst g4
        rw [if_pos rfl] at hsn
        refine h_ldI H (by repeat (first | exact pick_head | apply pick_tail | apply pick_app)) rfl ?_
        (refine h_new H fun n99 u H => ?_)
        refine h_num (m' := cl n99 3 [.int .i64 x.at_] :: cl n94 40 (insR x) :: cl ns 4 (seen.map Value.bool) :: (n11, ob) :: (c ++ m)) H (by repeat (first | exact cut_head | exact cut_all | apply cut_tail | apply cut_app)) hov (by repeat (first | exact pick_head | apply pick_tail | apply pick_app)) (by omega) fun o' cap' c' u ho' H => s_asS (s_next ⟨rfl, rfl⟩ ?_)
        rw [w_succ (by omega)]
        simp only [if_true]
        rw [← hsn] at ho' ⊢
        exact ⟨⟨i + 1, _, c', rfl, by omega, ho', H.sub (by repeat (first | exact sb_refl | exact sb_nil | refine sb_cons (by repeat (first | exact pick_head | apply pick_tail | apply pick_app)) ?_ | refine sb_app (by repeat (first | exact cut_head | exact cut_all | apply cut_tail | apply cut_app)) ?_ | exact sb_one (by repeat (first | exact cut_head | exact cut_all | apply cut_tail | apply cut_app))))⟩, by simp [intOf]; omega⟩
      · subst g4
        rw [if_neg (by simp), List.append_nil] at hsn
        rw [w_succ (by omega)]
        simp only [if_true]
        rw [← hsn] at hov ⊢
        exact ⟨⟨i + 1, _, cv, rfl, by omega, hov, H.sub (by repeat (first | exact sb_refl | exact sb_nil | refine sb_cons (by repeat (first | exact pick_head | apply pick_tail | apply pick_app)) ?_ | refine sb_app (by repeat (first | exact cut_head | exact cut_all | apply cut_tail | apply cut_app)) ?_ | exact sb_one (by repeat (first | exact cut_head | exact cut_all | apply cut_tail | apply cut_app))))⟩, by simp [intOf]; omega⟩
    · simp only [decide_eq_false_iff_not] at g3
      have hil : i = l.length := by omega
      subst hil
      rw [List.take_length, List.take_of_length_le (by omega)] at hov ⊢
      exact s_ret ⟨_, cv, _, rfl, hIs _ ⟨seen, hsl, hfin, rfl⟩, hov, H.sub (by repeat (first | exact sb_refl | exact sb_nil | refine sb_cons (by repeat (first | exact pick_head | apply pick_tail | apply pick_app)) ?_ | refine sb_app (by repeat (first | exact cut_head | exact cut_all | apply cut_tail | apply cut_app)) ?_ | exact sb_one (by repeat (first | exact cut_head | exact cut_all | apply cut_tail | apply cut_app))))⟩
end
end Go.Proofs.Ytgoecmggbcaoiaa
