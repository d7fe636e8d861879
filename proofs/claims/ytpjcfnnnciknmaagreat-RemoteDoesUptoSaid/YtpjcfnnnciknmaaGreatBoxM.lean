/- A box in memory: what is needed, what has come; Missing, Ready. -/
import Derived.Test.YtpjcfnnnciknmaaGreatMerge
import Derived.Test.YtpjcfnnnciknmaaGreatSortI
import Derived.Test.YtpjcfnnnciknmaaGreatMapF
set_option linter.unusedVariables false
set_option linter.unusedSimpArgs false
set_option maxRecDepth 100000
set_option maxHeartbeats 4000000
namespace Go.Proofs.YtpjcfnnnciknmaaGreat
open Go hiding Expr
open Go.RowKit Tr

structure Ix where
  s : Int
  p : Int
deriving DecidableEq
def ixr (t : Ix) : List Value := [.int .i64 t.s, .int .i64 t.p]
theorem Ix.ext' {a b : Ix} (h1 : a.s = b.s) (h2 : a.p = b.p) : a = b := by cases a; cases b; simp_all
def InI (t : Ix) : Prop := -9223372036854775808 ≤ t.s ∧ t.s ≤ 9223372036854775807 ∧ -9223372036854775808 ≤ t.p ∧ t.p ≤ 9223372036854775807
abbrev Fx := Ix × Int
def fxr (f : Fx) : List Value := [.int .i64 f.1.s, .int .i64 f.1.p, .int .i64 f.2]

/-! ### Ids, and an id with a partition, as keys of a map -/
theorem keyedI : Maps.Keyed Tryz.prog 32 := Maps.Keyed.of_law (deep_law (m := 2) (by omega) (by kernel_rfl) (by kernel_rfl) (by kernel_rfl))
abbrev kfI (t : Ix) : Value := .agg ⟨ixr t⟩
theorem kfI_inj {a b : Ix} (h : kfI a = kfI b) : a = b := by
  simp [kfI, ixr] at h
  exact Ix.ext' h.1 h.2
theorem keyOfI {t : Ix} (h : InI t) : ∃ l, keyOf Tryz.prog 32 (kfI t) = some l := by
  obtain ⟨h1, h2, h3, h4⟩ := h
  have wa : (Lit.int .i64 t.s).wf = true := by simp [Lit.wf, IntKind.min, IntKind.max, IntKind.signed, IntKind.bits]; omega
  have wb : (Lit.int .i64 t.p).wf = true := by simp [Lit.wf, IntKind.min, IntKind.max, IntKind.signed, IntKind.bits]; omega
  have hkt : Tryz.prog.keyType 32 = true := by kernel_rfl
  have hsz : Tryz.prog.cellsOf 32 = 2 := by kernel_rfl
  obtain ⟨m, hm⟩ := types_pos
  unfold keyOf
  simp only [Tryz.underlying32]
  rw [if_pos (by simp [hkt, Value.formed, Tryz.underlying32, hsz, ixr]), hm]
  unfold Program.keyLits
  simp only [Tryz.underlying32, Value.cells]
  have e1 : Tryz.prog.cellsOf 3 = 1 := by kernel_rfl
  have e2 : Tryz.prog.cellsOf 2 = 1 := by kernel_rfl
  have c2 : (⟨ixr t⟩ : Array Value).toList.length = 2 := rfl
  simp [hsz, c2, ixr, Program.keyLits, Tryz.underlying3, Tryz.underlying2, wa, wb, e1, e2, List.mapM_cons]
theorem keyedF : Maps.Keyed Tryz.prog 72 := Maps.Keyed.of_law (deep_law (m := 3) (by omega) (by kernel_rfl) (by kernel_rfl) (by kernel_rfl))
abbrev kfF (f : Fx) : Value := .agg ⟨fxr f⟩
theorem kfF_inj {a b : Fx} (h : kfF a = kfF b) : a = b := by
  simp [kfF, fxr] at h
  exact Prod.ext (Ix.ext' h.1 h.2.1) h.2.2
def InF (f : Fx) : Prop := InI f.1 ∧ -9223372036854775808 ≤ f.2 ∧ f.2 ≤ 9223372036854775807
theorem keyOfF {f : Fx} (h : InF f) : ∃ l, keyOf Tryz.prog 72 (kfF f) = some l := by
  obtain ⟨⟨h1, h2, h3, h4⟩, h5, h6⟩ := h
  have wa : (Lit.int .i64 f.1.s).wf = true := by simp [Lit.wf, IntKind.min, IntKind.max, IntKind.signed, IntKind.bits]; omega
  have wb : (Lit.int .i64 f.1.p).wf = true := by simp [Lit.wf, IntKind.min, IntKind.max, IntKind.signed, IntKind.bits]; omega
  have wc : (Lit.int .i64 f.2).wf = true := by simp [Lit.wf, IntKind.min, IntKind.max, IntKind.signed, IntKind.bits]; omega
  have hkt : Tryz.prog.keyType 72 = true := by kernel_rfl
  have hsz : Tryz.prog.cellsOf 72 = 3 := by kernel_rfl
  have hsi : Tryz.prog.cellsOf 32 = 2 := by kernel_rfl
  obtain ⟨m, hm⟩ : ∃ m, Tryz.prog.types.size = m + 1 + 1 := ⟨Tryz.prog.types.size - 2, by have : 1 < Tryz.prog.types.size := of_decide_eq_true (by kernel_rfl); omega⟩
  unfold keyOf
  simp only [Tryz.underlying72]
  rw [if_pos (by simp [hkt, Value.formed, Tryz.underlying72, hsz, fxr]), hm]
  unfold Program.keyLits
  simp only [Tryz.underlying72, Value.cells]
  have e1 : Tryz.prog.cellsOf 3 = 1 := by kernel_rfl
  have e2 : Tryz.prog.cellsOf 2 = 1 := by kernel_rfl
  have c2 : (⟨fxr f⟩ : Array Value).toList.length = 3 := rfl
  simp [hsz, hsi, c2, fxr, Program.keyLits, Tryz.underlying32, Tryz.underlying3, Tryz.underlying2, wa, wb, wc, e1, e2, List.mapM_cons]
  rw [if_pos (by
    intro i hi
    match i, hi with
    | 0, _ => simp
    | 1, _ => simp)]
  exact ⟨_, rfl⟩

/-! ### Boxes -/
structure BX where
  parts : Int
  needs : Ix → Option (List Int)
  came : Fx → Option (List PR)
def OwnN (l : List Int) (s : SP) (c : Hp) : Prop := s.n = l.length ∧ OwnC 3 1 (vS s) l.length (ints l) c
def OwnP (l : List PR) (s : SP) (c : Hp) : Prop := s.n = l.length ∧ OwnC 53 3 (vS s) l.length (encP l) c
abbrev MN' (o : Obj) (c : Hp) (F : Ix → Option (List Int)) : Prop := MF Tryz.prog 32 kfI vS OwnN o c F
abbrev MC' (o : Obj) (c : Hp) (F : Fx → Option (List PR)) : Prop := MF Tryz.prog 72 kfF vS OwnP o c F
theorem mapN : Tryz.prog.underlying 41 = some (.map 32 33) := by kernel_rfl
theorem mapC : Tryz.prog.underlying 42 = some (.map 72 34) := by kernel_rfl
theorem zeroN (w : World) : (zeroValue 33).run Tryz.prog w = .ok (vS ⟨none, 0, 0⟩) w := by rfl
theorem zeroC (w : World) : (zeroValue 34).run Tryz.prog w = .ok (vS ⟨none, 0, 0⟩) w := by rfl
structure BxOk (X : BX) : Prop where
  p0 : 1 ≤ X.parts
  p1 : X.parts ≤ 8
  needs : ∀ t l, X.needs t = some l → l.Pairwise (· < ·) ∧ ∀ n ∈ l, 0 ≤ n ∧ n < X.parts
  came : ∀ k l, X.came k = some l → (∀ p ∈ l, InK p.k) ∧ Rising (l.map (fun p : PR => p.k))
def remC (X : BX) (bn bc : Nat) : List Value := [.int .i64 X.parts, .map (some bn), .map (some bc)]
def BoxAt (p : Nat) (X : BX) (c : Hp) : Prop := ∃ (bn bc : Nat) (on oc : Obj) (cn cc : Hp),
  c = cl p 44 (remC X bn bc) :: (bn, on) :: (bc, oc) :: (cn ++ cc) ∧ MN' on cn X.needs ∧ MC' oc cc X.came ∧ BxOk X
theorem rising_bound : ∀ {l : List Int} {a b : Int}, l.Pairwise (· < ·) → (∀ n ∈ l, a ≤ n ∧ n < b) → a ≤ b → (l.length : Int) ≤ b - a
  | [], a, b, _, _, hab => by simp; omega
  | x :: r, a, b, hp, h, hab => by
    obtain ⟨h1, h2⟩ := List.pairwise_cons.1 hp
    have hx := h x (by simp)
    have := rising_bound (l := r) (a := x + 1) (b := b) h2 (fun n hn => ⟨by have := h1 n hn; omega, (h n (by simp [hn])).2⟩) (by omega)
    simp only [List.length_cons]
    omega
theorem BxOk.len {X : BX} (h : BxOk X) {t : Ix} {l : List Int} (hl : X.needs t = some l) : l.length ≤ 8 := by
  obtain ⟨h1, h2⟩ := h.needs t l hl
  have := rising_bound h1 h2 (by have := h.p0; omega)
  have := h.p1
  omega

/-- A world of which nothing is told: so all that stands in w is 'since'. -/
abbrev Em (w : World) : World := { w with heap := #[] }
theorem Tr.Has.em {w0 w : World} {m : Hp} (H : Has w0 w m) : Has (Em w) w m :=
  ⟨⟨rfl, rfl, rfl, by simp, fun k hk => by simp at hk⟩, H.at_, fun p _ => by simp, H.nodup⟩
def BoxW (w : World) (p : Nat) (X : BX) : Prop := ∃ c, BoxAt p X c ∧ Has (Em w) w c
theorem boxFr {w w' : World} {p : Nat} {X : BX} (h : BoxW w p X) (hf : Fr [] w w') : BoxW w' p X := by
  obtain ⟨c, h1, h2⟩ := h
  exact ⟨c, h1, (h2.fr0 hf).em⟩
theorem boxW_of {w0 w : World} {m m' c : Hp} {p : Nat} {X : BX} (H : Has w0 w m) (hp : Cut c m m') (h : BoxAt p X c) : BoxW w p X :=
  ⟨c, h, (H.pullc hp).left.em⟩

theorem open_n {F : Ix → Option (List Int)} {t : Ix} {on : Obj} {cn m m' : Hp} {w0 w : World} (h : MN' on cn F) (H : Has w0 w m) (hp : Cut cn m m') :
    ∃ (s : Option SP) (c2 : Hp), MX Tryz.prog 32 kfI vS OwnN on c2 F t s ∧ ((s.map vS).getD (vS ⟨none, 0, 0⟩)) = vS (s.getD ⟨none, 0, 0⟩) ∧ s.isSome = (F t).isSome ∧ (s.getD ⟨none, 0, 0⟩).n = ((F t).getD []).length ∧
      ValsAt w (s.getD ⟨none, 0, 0⟩).o ((F t).getD []) := by
  cases hq : F t with
  | none => exact ⟨none, cn, h.openN hq, rfl, rfl, rfl, .inl rfl⟩
  | some q =>
    obtain ⟨s, c1, c2, h1, ⟨h2, h3⟩, h4⟩ := h.openS (a := t) hq
    refine ⟨some s, c2, h4, rfl, rfl, h2, ?_⟩
    have H2 := (H.pullc hp).left
    refine rowsAt_own (ir1 _) (by decide) (e := 3) (n := s.n) (cap := s.c) (c := c1) ?_ H2 h1
    rw [← h2] at h3
    exact h3
theorem open_c {F : Fx → Option (List PR)} {t : Fx} {oc : Obj} {cc m m' : Hp} {w0 w : World} (h : MC' oc cc F) (H : Has w0 w m) (hp : Cut cc m m') :
    ∃ (s : Option SP) (c2 : Hp), MX Tryz.prog 72 kfF vS OwnP oc c2 F t s ∧ ((s.map vS).getD (vS ⟨none, 0, 0⟩)) = vS (s.getD ⟨none, 0, 0⟩) ∧ s.isSome = (F t).isSome ∧ (s.getD ⟨none, 0, 0⟩).n = ((F t).getD []).length ∧
      PairsAt w (s.getD ⟨none, 0, 0⟩).o ((F t).getD []) := by
  cases hq : F t with
  | none => exact ⟨none, cc, h.openN hq, rfl, rfl, rfl, .inl rfl⟩
  | some q =>
    obtain ⟨s, c1, c2, h1, ⟨h2, h3⟩, h4⟩ := h.openS (a := t) hq
    refine ⟨some s, c2, h4, rfl, rfl, h2, ?_⟩
    have H2 := (H.pullc hp).left
    refine rowsAt_own (pr3 _) (by decide) (e := 53) (n := s.n) (cap := s.c) (c := c1) ?_ H2 h1
    rw [← h2] at h3
    exact h3

section
variable {w : World} {p : Nat} {X : BX}
theorem none_c (h : BoxW w p X) : Calls Tryz.prog 27 #[.pointer (some ⟨p, 0, none⟩)] w fun e w' => e = .returned (.bool false) ∧ w = w' := by
  obtain ⟨c, ⟨bn, bc, on, oc, cn, cc, rfl, hn, hc, hok⟩, H⟩ := h
  apply c27
  exact h_ldM H (by repeat (first | exact pick_head | apply pick_tail | apply pick_app)) rfl (s_ret ⟨rfl, rfl⟩)
theorem rpart_c (h : BoxW w p X) {n : Int} : Calls Tryz.prog 28 #[.pointer (some ⟨p, 0, none⟩), .int .i64 n] w fun e w' => e = .returned (.bool (decide (0 ≤ n ∧ n < X.parts))) ∧ w = w' := by
  obtain ⟨c, ⟨bn, bc, on, oc, cn, cc, rfl, hn, hc, hok⟩, H⟩ := h
  apply c28
  refine s_ite (fun g => ?_) (fun g => ?_)
  · simp only [decide_eq_true_eq] at g
    refine h_ldI H (by repeat (first | exact pick_head | apply pick_tail | apply pick_app)) rfl (s_ret ⟨?_, rfl⟩)
    have : 0 ≤ n := by omega
    simp [this]
  · simp only [decide_eq_false_iff_not] at g
    refine s_ret ⟨?_, rfl⟩
    have : ¬ 0 ≤ n := by omega
    simp [this]

def missL (X : BX) (t : Ix) : List Int := ((X.needs t).getD []).filter (fun n => !(X.came (t, n)).isSome)
theorem missTake (X : BX) (t : Ix) {l : List Int} {i : Nat} {x : Int} (hx : l[i]? = some x) : (l.take (i + 1)).filter (fun n => !(X.came (t, n)).isSome) = (l.take i).filter (fun n => !(X.came (t, n)).isSome) ++ (if (X.came (t, x)).isSome then [] else [x]) := by
  rw [List.take_add_one, hx, Option.toList_some, List.filter_append]
  cases h : X.came (t, x) <;> simp [h]
theorem elemN : Elem Tryz.prog 33 3 (.int .i64 0) 1 8 := ⟨by kernel_rfl, by kernel_rfl, rfl, by decide⟩
theorem ir_one' (l : List Int) : ∀ r ∈ l.map ir, ∀ u ∈ r, u.oneCell' = true := ir_one l
theorem missing_c (h : BoxW w p X) {t : Ix} (ht : InI t) : Calls Tryz.prog 23 #[.pointer (some ⟨p, 0, none⟩), .agg ⟨ixr t⟩] w fun e w' =>
    ∃ v c, e = .returned v ∧ OwnC 3 1 v (missL X t).length (ints (missL X t)) c ∧ Has w w' c := by
  have hB := h
  obtain ⟨c, ⟨bn, bc, on, oc, cn, cc, rfl, hn, hc, hok⟩, HL0⟩ := h
  obtain ⟨ln, hln⟩ := keyOfI ht
  obtain ⟨s, c2, hx, e1, e2, e3, e4⟩ := open_n (t := t) hn HL0 (by repeat (first | exact cut_head | exact cut_all | apply cut_tail | apply cut_app))
  apply c23
  refine h_new (Has.init w) fun n4 u H => s_call (none_c (boxFr hB H.base)) ?_
  rintro _ _ ⟨rfl, rfl⟩
  refine ⟨_, rfl, s_asB (s_false rfl (h_drew H fun u H => ?_))⟩
  have HL := HL0.fr0 H.base
  refine h_ldM HL (by repeat (first | exact pick_head | apply pick_tail | apply pick_app)) rfl (h_ldI H (by repeat (first | exact pick_head | apply pick_tail | apply pick_app)) rfl (h_ldI H (by repeat (first | exact pick_head | apply pick_tail | apply pick_app)) rfl ?_))
  refine f_look1 HL (bk := bn) (o := on) (a := t) (kf := kfI) (by repeat (first | exact pick_head | apply pick_tail | apply pick_app)) hx keyedI mapN (zeroN u) (fun x => kfI_inj) hln ?_
  rw [e1]
  have hl8 : ((X.needs t).getD []).length ≤ 8 := by
    cases hq : X.needs t with
    | none => simp
    | some l => exact hok.len hq
  generalize hL : (X.needs t).getD [] = L at e3 e4 hl8
  have hin : ∀ n ∈ L, 0 ≤ n ∧ n < X.parts := by
    intro n hn'
    rw [← hL] at hn'
    cases hq : X.needs t with
    | none => rw [hq] at hn'; simp at hn'
    | some l => rw [hq] at hn'; exact (hok.needs t l hq).2 n hn'
  have hm : missL X t = L.filter (fun n => !(X.came (t, n)).isSome) := by rw [missL, hL]
  rw [hm]
  unfold vS
  refine s_asS (s_chk c_nil ?_)
  refine s_loop (fun vs W => ∃ (i : Nat) (v : Value) (c : Hp), vs = [v, .int .i64 i] ∧ i ≤ L.length ∧ OwnC 3 1 v ((L.take i).filter (fun n => !(X.came (t, n)).isSome)).length (ints ((L.take i).filter (fun n => !(X.came (t, n)).isSome))) c ∧ Has w W (c ++ [cl n4 32 (ixr t)])) (fun vs _ => L.length - (intOf (vs.getD 1 undef)).toNat)
    ⟨0, _, [], rfl, by omega, OwnC.nil, H.sub (by repeat (first | exact sb_refl | exact sb_nil | refine sb_cons (by repeat (first | exact pick_head | apply pick_tail | apply pick_app)) ?_ | refine sb_app (by repeat (first | exact cut_head | exact cut_all | apply cut_tail | apply cut_app)) ?_ | exact sb_one (by repeat (first | exact cut_head | exact cut_all | apply cut_tail | apply cut_app))))⟩ ?_
  clear H HL hx
  rintro _ j W ⟨i, v, c, rfl, hi, ho, H⟩
  obtain ⟨ov, cv, rfl⟩ := ho.slice
  have hfl : ((L.take i).filter (fun n => !(X.came (t, n)).isSome)).length ≤ 8 := Nat.le_trans (List.length_filter_le ..) (by rw [List.length_take]; omega)
  refine s_asS (s_asI (s_ite (fun g1 => ?_) (fun g1 => ?_)))
  · simp only [decide_eq_true_eq] at g1
    have hlt : i < L.length := by omega
    obtain ⟨x, hx⟩ : ∃ x, L[i]? = some x := ⟨_, List.getElem?_eq_getElem hlt⟩
    have hxin := hin x (List.mem_of_getElem? hx)
    have hp1 := hok.p1
    obtain ⟨g2, off, he, q1⟩ := (e4.fr0 H.base).get hx
    refine s_req ⟨by omega, by omega⟩ ⟨g2, off, he, s_loadI q1 (h_drew H fun u H => ?_)⟩
    obtain ⟨s', c2', hx', f1, f2, _, _⟩ := open_c (t := (t, x)) hc HL0 (by repeat (first | exact cut_head | exact cut_all | apply cut_tail | apply cut_app))
    have HL := HL0.fr0 H.base
    obtain ⟨lf, hlf⟩ := keyOfF (f := (t, x)) ⟨ht, by simp only; omega, by simp only; omega⟩
    refine h_ldM HL (by repeat (first | exact pick_head | apply pick_tail | apply pick_app)) rfl (h_ldI H (b := n4) (by repeat (first | exact pick_head | apply pick_tail | apply pick_app)) rfl (h_ldI H (b := n4) (by repeat (first | exact pick_head | apply pick_tail | apply pick_app)) rfl ?_))
    refine f_look2 HL (bk := bc) (o := oc) (a := (t, x)) (kf := kfF) (by repeat (first | exact pick_head | apply pick_tail | apply pick_app)) hx' keyedF mapC (zeroC u) (fun x => kfF_inj) hlf ?_
    rw [f1, f2]
    unfold vS
    refine s_asU (s_req rfl (s_asS (s_asB (s_chk (hc_cons H (b := n4) (by repeat (first | exact pick_head | apply pick_tail | apply pick_app)) rfl (hc_cons H (b := n4) (by repeat (first | exact pick_head | apply pick_tail | apply pick_app)) rfl c_nil)) ?_))))
    have htk := missTake X t hx
    cases hcm : (X.came (t, x)).isSome with
    | false =>
      rw [hcm, if_neg (by simp)] at htk
      refine s_true rfl ?_
      (refine h_new H fun n32 u H => ?_)
      refine h_app1 elemN H (by repeat (first | exact cut_head | exact cut_all | apply cut_tail | apply cut_app)) ho (by repeat (first | exact pick_head | apply pick_tail | apply pick_app)) rfl (by intro u hu; simp at hu; subst hu; rfl) (by omega) (by omega) ?_
      intro v' c' u ho' H
      obtain ⟨o', cap', rfl⟩ := ho'.slice
      refine s_asS (s_next (by first | exact ⟨rfl, rfl⟩ | trivial) ?_)
      simp (config := { decide := true }) only [if_true, if_false]
      refine ⟨⟨i + 1, _, c', by rw [w_succ (by omega)], by omega, ?_, H.sub (by repeat (first | exact sb_refl | exact sb_nil | refine sb_cons (by repeat (first | exact pick_head | apply pick_tail | apply pick_app)) ?_ | refine sb_app (by repeat (first | exact cut_head | exact cut_all | apply cut_tail | apply cut_app)) ?_ | exact sb_one (by repeat (first | exact cut_head | exact cut_all | apply cut_tail | apply cut_app))))⟩, by rw [w_succ (by omega)]; simp [intOf] <;> omega⟩
      rw [htk, ints_append, List.length_append]
      exact ho'
    | true =>
      rw [hcm, if_pos rfl, List.append_nil] at htk
      refine s_false rfl (s_next (by first | exact ⟨rfl, rfl⟩ | trivial) ?_)
      simp (config := { decide := true }) only [if_true, if_false]
      refine ⟨⟨i + 1, _, c, by rw [w_succ (by omega)], by omega, ?_, H.sub (by repeat (first | exact sb_refl | exact sb_nil | refine sb_cons (by repeat (first | exact pick_head | apply pick_tail | apply pick_app)) ?_ | refine sb_app (by repeat (first | exact cut_head | exact cut_all | apply cut_tail | apply cut_app)) ?_ | exact sb_one (by repeat (first | exact cut_head | exact cut_all | apply cut_tail | apply cut_app))))⟩, by rw [w_succ (by omega)]; simp [intOf] <;> omega⟩
      rw [htk]
      exact ho
  · simp only [decide_eq_false_iff_not] at g1
    have htl : L.take i = L := List.take_of_length_le (by omega)
    rw [htl] at ho ⊢
    exact s_ret ⟨_, c, rfl, ho, H.sub (by repeat (first | exact sb_refl | exact sb_nil | refine sb_cons (by repeat (first | exact pick_head | apply pick_tail | apply pick_app)) ?_ | refine sb_app (by repeat (first | exact cut_head | exact cut_all | apply cut_tail | apply cut_app)) ?_ | exact sb_one (by repeat (first | exact cut_head | exact cut_all | apply cut_tail | apply cut_app))))⟩

/-- All has come that was named. -/
def readyB (X : BX) (t : Ix) : Bool := (X.needs t).isSome && decide (missL X t = [])
theorem ready_c (h : BoxW w p X) {t : Ix} (ht : InI t) : Calls Tryz.prog 20 #[.pointer (some ⟨p, 0, none⟩), .agg ⟨ixr t⟩] w fun e w' => e = .returned (.bool (readyB X t)) ∧ Fr [] w w' := by
  have hB := h
  obtain ⟨c, ⟨bn, bc, on, oc, cn, cc, rfl, hn, hc, hok⟩, HL0⟩ := h
  obtain ⟨ln, hln⟩ := keyOfI ht
  obtain ⟨s, c2, hx, e1, e2, e3, e4⟩ := open_n (t := t) hn HL0 (by repeat (first | exact cut_head | exact cut_all | apply cut_tail | apply cut_app))
  apply c20
  refine h_new (Has.init w) fun n4 u H => s_call (none_c (boxFr hB H.base)) ?_
  rintro _ _ ⟨rfl, rfl⟩
  refine ⟨_, rfl, s_asB (s_false rfl (h_drew H fun u H => ?_))⟩
  have HL := HL0.fr0 H.base
  refine h_ldM HL (by repeat (first | exact pick_head | apply pick_tail | apply pick_app)) rfl (h_ldI H (b := n4) (by repeat (first | exact pick_head | apply pick_tail | apply pick_app)) rfl (h_ldI H (b := n4) (by repeat (first | exact pick_head | apply pick_tail | apply pick_app)) rfl ?_))
  refine f_look2 HL (bk := bn) (o := on) (a := t) (kf := kfI) (by repeat (first | exact pick_head | apply pick_tail | apply pick_app)) hx keyedI mapN (zeroN u) (fun x => kfI_inj) hln ?_
  rw [e1, e2]
  unfold vS
  refine s_asU (s_req rfl (s_asS (s_asB (s_chk c_nil (s_ite (fun g => ?_) (fun g => ?_))))))
  · refine h_ldI H (b := n4) (by repeat (first | exact pick_head | apply pick_tail | apply pick_app)) rfl (h_ldI H (b := n4) (by repeat (first | exact pick_head | apply pick_tail | apply pick_app)) rfl (s_call (missing_c (boxFr hB H.base) ht) ?_))
    rintro _ u2 ⟨v, c, rfl, ho, H2⟩
    obtain ⟨o2, cap2, rfl⟩ := ho.slice
    refine ⟨_, rfl, s_asS (s_ret ⟨?_, H.base.trans H2.base⟩)⟩
    unfold readyB
    rw [g]
    have : (((missL X t).length : Int) == 0) = decide (missL X t = []) := by
      rw [Bool.eq_iff_iff, beq_iff_eq, decide_eq_true_iff]
      constructor
      · intro h; exact List.eq_nil_of_length_eq_zero (by omega)
      · intro h; rw [h]; rfl
    rw [this]
    rfl
  · refine s_ret ⟨?_, H.base⟩
    unfold readyB
    rw [g]
    rfl
end
end Go.Proofs.YtpjcfnnnciknmaaGreat
