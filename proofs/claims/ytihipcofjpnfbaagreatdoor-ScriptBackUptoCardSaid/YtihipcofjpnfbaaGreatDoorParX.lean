/- A script's first line: the world. -/
import Derived.Test.YtihipcofjpnfbaaGreatDoorCX
import Derived.Test.YtihipcofjpnfbaaGreatDoorWrdB
import Derived.Test.YtihipcofjpnfbaaGreatDoorRPrint
set_option linter.unusedVariables false
set_option linter.unusedSimpArgs false
set_option maxRecDepth 100000
set_option maxHeartbeats 4000000
namespace Go.Proofs.YtihipcofjpnfbaaGreatDoor
open Go hiding Expr
open Go.RowKit Tr
section
variable {w : World}
theorem puint_c (hE : ErrAt w) {s : List UInt8} (hsz : s.length ≤ 2097152) : Calls Tryz.prog 30 #[.string (S s), .int .i64 10, .int .i64 64] w fun e w' => ∃ n : Nat, Fr [] w w' ∧
    ((e = .returned (.tuple #[.int .u64 n, .nilIface]) ∧ n < 18446744073709551616 ∧ Lib.parseUintB 64 s = .ok n) ∨ (∃ t p, e = .returned (.tuple #[.int .u64 n, .iface t p]) ∧ ∀ v, Lib.parseUintB 64 s ≠ .ok v)) := by
  have hs : (S s).size = s.length := S_size s
  have hl : (S s).data.toList = s := S_list s
  obtain ⟨⟨te, pe, h1⟩, ⟨te2, pe2, h2⟩, _⟩ := hE
  rcases hp : Lib.parseUintB 64 s with v | _ | _
  · have hb : v < 18446744073709551616 := by
      have := Lib.parseUintB_le hp
      have e : (2 : Nat) ^ 64 = 18446744073709551616 := by decide
      omega
    refine (Tryz.strconv_ParseUint_10_at64_ok (S s) (by omega) v (by rw [hl]; exact hp) w).mono ?_
    rintro e u ⟨rfl, hw⟩
    exact ⟨v, Tr.Fr.bytes (hw.imp_right fun h => ⟨_, h⟩), .inl ⟨rfl, hb, rfl⟩⟩
  · refine (Tryz.strconv_ParseUint_10_at64_syntax (S s) (by omega) (by rw [hl, hp]; exact ⟨fun v hv => (by cases hv), fun hv => (by cases hv)⟩) _ w h1 (.inr ⟨te, pe, rfl⟩)).mono ?_
    rintro e u ⟨N, rfl, _, _, hb⟩
    exact ⟨0, Fr.of_below hb, .inr ⟨_, _, rfl, fun v hv => by cases hv⟩⟩
  · refine (Tryz.strconv_ParseUint_10_at64_range (S s) (by omega) (by rw [hl]; exact hp) _ w h2 (.inr ⟨te2, pe2, rfl⟩)).mono ?_
    rintro e u ⟨N, rfl, _, _, hb⟩
    exact ⟨18446744073709551615, Fr.of_below hb, .inr ⟨_, _, rfl, fun v hv => by cases hv⟩⟩
end
def wdW (c : CF) : List W := [[119, 111, 114, 108, 100], dI c.n, dI c.p, dI c.b, dI c.c, dU c.seed]
def cf0 : CF := ⟨0, 0, 0, 0, 0⟩
section
variable {w0 w w' : World} {p : Nat} {ws : List W} {b x x' c : Hp}
variable (hT : Tab w0) (hE : ErrAt w0)
include hT hE
theorem worldW_c (h : Wd w0 w p ws b x) : Calls Tryz.prog 17 #[.pointer (some ⟨p, 0, none⟩)] w fun e w' =>
    (∃ y r, ws = wdW y ++ r ∧ CfOk y ∧ e = .returned (.agg ⟨cfv y⟩) ∧ Wd w0 w' p r b x) ∨ ((∀ y r, CfOk y → ws ≠ wdW y ++ r) ∧ e = panW ∧ Wp w0 w' p b x) := by
  have hwb := h.wb
  apply c17
  obtain ⟨vw, H, hk⟩ := h.turn
  refine h_new H fun n2 u H => ?_
  have h : Wd w0 u p ws b (cl n2 24 (cfv cf0) :: x) := hk (x' := cl n2 24 (cfv cf0) :: x) (H.sub (by repeat (first | exact sb_refl | exact sb_nil | refine sb_cons (by repeat (first | exact pick_head | apply pick_tail | apply pick_app)) ?_ | refine sb_app (by repeat (first | exact cut_head | exact cut_all | apply cut_tail | apply cut_app)) ?_ | exact sb_one (by repeat (first | exact cut_head | exact cut_all | apply cut_tail | apply cut_app)))))
  have hsub : ∀ {U ws'}, Wd w0 U p ws' b (cl n2 24 (cfv cf0) :: x) → Wp w0 U p b x := fun h => (h.sub (by repeat (first | exact sb_refl | exact sb_nil | refine sb_cons (by repeat (first | exact pick_head | apply pick_tail | apply pick_app)) ?_ | refine sb_app (by repeat (first | exact cut_head | exact cut_all | apply cut_tail | apply cut_app)) ?_ | exact sb_one (by repeat (first | exact cut_head | exact cut_all | apply cut_tail | apply cut_app))))).wp
  have hsubp : ∀ {U}, Wp w0 U p b (cl n2 24 (cfv cf0) :: x) → Wp w0 U p b x := fun ⟨_, h⟩ => hsub h
  clear H hk
  refine s_call2p (is_c h) ?_
  rintro e u (⟨r1, rfl, rfl, h⟩ | ⟨hno, rfl, hp⟩)
  rotate_left
  · exact .inr ⟨_, rfl, s_pan (.inr ⟨fun y r hy hw => hno _ hw, rfl, hsubp hp⟩)⟩
  refine .inl ⟨_, rfl, s_call2p (int_c hT hE h) ?_⟩
  rintro e u (⟨a1, r2, rfl, ha1, rfl, h⟩ | ⟨hno, rfl, hp⟩)
  rotate_left
  · exact .inr ⟨_, rfl, s_pan (.inr ⟨fun y r hy hw => hno y.n _ hy.hn (List.cons.inj hw).2, rfl, hsubp hp⟩)⟩
  refine .inl ⟨_, rfl, s_asI (s_call2p (int_c hT hE h) ?_)⟩
  rintro e u (⟨a2, r3, rfl, ha2, rfl, h⟩ | ⟨hno, rfl, hp⟩)
  rotate_left
  · exact .inr ⟨_, rfl, s_pan (.inr ⟨fun y r hy hw => hno y.p _ hy.hp (List.cons.inj (List.cons.inj hw).2).2, rfl, hsubp hp⟩)⟩
  refine .inl ⟨_, rfl, s_asI (s_call2p (int_c hT hE h) ?_)⟩
  rintro e u (⟨a3, r4, rfl, ha3, rfl, h⟩ | ⟨hno, rfl, hp⟩)
  rotate_left
  · exact .inr ⟨_, rfl, s_pan (.inr ⟨fun y r hy hw => hno y.b _ hy.hb (List.cons.inj (List.cons.inj (List.cons.inj hw).2).2).2, rfl, hsubp hp⟩)⟩
  refine .inl ⟨_, rfl, s_asI (s_call2p (int_c hT hE h) ?_)⟩
  rintro e u (⟨a4, r5, rfl, ha4, rfl, h⟩ | ⟨hno, rfl, hp⟩)
  rotate_left
  · exact .inr ⟨_, rfl, s_pan (.inr ⟨fun y r hy hw => hno y.c _ hy.hc (List.cons.inj (List.cons.inj (List.cons.inj (List.cons.inj hw).2).2).2).2, rfl, hsubp hp⟩)⟩
  refine .inl ⟨_, rfl, s_asI ?_⟩
  have key : ∀ (y : CF) (r : List W), CfOk y → [119, 111, 114, 108, 100] :: dI a1 :: dI a2 :: dI a3 :: dI a4 :: r5 = wdW y ++ r → r5 = dU y.seed :: r := by
    intro y r hy hw
    simp only [wdW, List.cons_append, List.nil_append, List.cons.injEq] at hw
    exact hw.2.2.2.2.2
  obtain ⟨vw, H, hk⟩ := h.turn
  refine h_new H fun n12 u H => ?_
  iterate 5 (refine h_st H (b := n12) pick_head (by first | (simp; done) | exact Nat.le_of_ble_eq_true rfl) rfl fun u H => ?_; simp only [List.set_cons_zero, List.set_cons_succ] at H)
  have h : Wd w0 u p r5 b (cl n12 24 (cfv ⟨a1, a2, a3, a4, 0⟩) :: cl n2 24 (cfv cf0) :: x) := hk (x' := cl n12 24 (cfv ⟨a1, a2, a3, a4, 0⟩) :: cl n2 24 (cfv cf0) :: x) (H.sub (by repeat (first | exact sb_refl | exact sb_nil | refine sb_cons (by repeat (first | exact pick_head | apply pick_tail | apply pick_app)) ?_ | refine sb_app (by repeat (first | exact cut_head | exact cut_all | apply cut_tail | apply cut_app)) ?_ | exact sb_one (by repeat (first | exact cut_head | exact cut_all | apply cut_tail | apply cut_app)))))
  have hsub : ∀ {U ws'}, Wd w0 U p ws' b (cl n12 24 (cfv ⟨a1, a2, a3, a4, 0⟩) :: cl n2 24 (cfv cf0) :: x) → Wp w0 U p b x := fun h => (h.sub (by repeat (first | exact sb_refl | exact sb_nil | refine sb_cons (by repeat (first | exact pick_head | apply pick_tail | apply pick_app)) ?_ | refine sb_app (by repeat (first | exact cut_head | exact cut_all | apply cut_tail | apply cut_app)) ?_ | exact sb_one (by repeat (first | exact cut_head | exact cut_all | apply cut_tail | apply cut_app))))).wp
  have hsubp : ∀ {U}, Wp w0 U p b (cl n12 24 (cfv ⟨a1, a2, a3, a4, 0⟩) :: cl n2 24 (cfv cf0) :: x) → Wp w0 U p b x := fun ⟨_, h⟩ => hsub h
  clear H hk
  have hwb5 := h.wb
  refine s_call2p (next_c h) ?_
  rintro e u (⟨rfl, rfl, hp⟩ | ⟨s, r, rfl, rfl, h⟩)
  · exact .inr ⟨_, rfl, s_pan (.inr ⟨fun y r hy hw => (by cases key y r hy hw), rfl, hsubp hp⟩)⟩
  refine .inl ⟨_, rfl, s_asT (s_call (puint_c (errFr hE h.base) (hwb5.2 s (by simp))) ?_)⟩
  rintro e u ⟨n, f, (⟨rfl, hn, hok⟩ | ⟨t, p2, rfl, hno⟩)⟩
  · have h := h.fr0 f
    refine ⟨_, rfl, s_asU (s_req rfl (s_asI (s_blk (fun vs W => vs = [] ∧ s = dU n ∧ Wd w0 W p r b (cl n12 24 (cfv ⟨a1, a2, a3, a4, 0⟩) :: cl n2 24 (cfv cf0) :: x)) ?_ ?_)))⟩
    · clear h
      rintro _ j U ⟨rfl, rfl, h'⟩
      obtain ⟨vw, H, hk⟩ := h'.turn
      simp only [cfv, cf0, List.cons_append] at H
      refine h_st H (b := n12) (by repeat (first | exact pick_head | apply pick_tail | apply pick_app)) (by simp) rfl fun u H => ?_
      simp only [List.set_cons_zero, List.set_cons_succ] at H
      iterate 5 refine h_ldI H (b := n12) (by repeat (first | exact pick_head | apply pick_tail | apply pick_app)) rfl ?_
      iterate 5 (refine h_st H (b := n2) (by repeat (first | exact pick_head | apply pick_tail | apply pick_app)) (by first | (simp; done) | exact Nat.le_of_ble_eq_true rfl) rfl fun u H => ?_; simp only [List.set_cons_zero, List.set_cons_succ] at H)
      iterate 5 refine h_ldI H (b := n2) (by repeat (first | exact pick_head | apply pick_tail | apply pick_app)) rfl ?_
      refine s_ret (.inl ⟨⟨a1, a2, a3, a4, n⟩, r, rfl, ⟨ha1, ha2, ha3, ha4, hn⟩, rfl, hk (x' := x) ?_⟩)
      exact H.sub (by repeat (first | exact sb_refl | exact sb_nil | refine sb_cons (by repeat (first | exact pick_head | apply pick_tail | apply pick_app)) ?_ | refine sb_app (by repeat (first | exact cut_head | exact cut_all | apply cut_tail | apply cut_app)) ?_ | exact sb_one (by repeat (first | exact cut_head | exact cut_all | apply cut_tail | apply cut_app))))
    · refine s_req (.inl rfl) (s_false rfl (s_call (fuint_c (hT.fr h.base) hn) ?_))
      rintro _ u ⟨rfl, f⟩
      have h := h.fr0 f
      refine ⟨_, rfl, s_asT (s_ite (fun g => s_pan (.inr ⟨fun y r' hy hr => ?_, rfl, hsub h⟩)) (fun g => s_next ⟨rfl, rfl⟩ ?_))⟩
      · have e1 : s = dU y.seed := (List.cons.inj (key y r' hy hr)).1
        rw [e1, parseU_dU hy.hs] at hok
        cases hok
        rw [S_toList, S_toList, e1] at g
        simp at g
      · rw [S_toList, S_toList] at g
        have : dU n = s := by simpa using g
        simp only [if_true]
        exact ⟨trivial, this.symm, h⟩
  · have h := h.fr0 f
    refine ⟨_, rfl, s_asU (s_req rfl (s_asI (s_blk (fun vs W => False) (fun vs j W hf => absurd hf id) ?_)))⟩
    refine s_req (.inr ⟨_, _, rfl⟩) (s_true rfl (s_pan (.inr ⟨fun y r' hy hr => ?_, rfl, hsub h⟩)))
    have e1 : s = dU y.seed := (List.cons.inj (key y r' hy hr)).1
    exact hno y.seed (by rw [e1]; exact parseU_dU hy.hs)
end
end Go.Proofs.YtihipcofjpnfbaaGreatDoor

/- Lines whose words are not too long; plain. -/
set_option linter.unusedVariables false
set_option linter.unusedSimpArgs false
namespace Go.Proofs.YtihipcofjpnfbaaGreatDoor
open Go hiding Expr
open Go.RowKit Tr

/-- Every line of a text has words that are not too many and not too long. -/
inductive LOk : List UInt8 → Prop
  | none {t : List UInt8} : cutC 10 t = none → LOk t
  | some {t s r : List UInt8} : cutC 10 t = some (s, r) → WC (spl s) → LOk r → LOk t
theorem LOk.short (n : Nat) : ∀ {t : List UInt8}, t.length ≤ n → n ≤ 1048576 → LOk t := by
  induction n with
  | zero =>
    intro t ht _
    have : t = [] := List.eq_nil_of_length_eq_zero (by omega)
    subst this
    exact .none rfl
  | succ n ih =>
    intro t ht hn
    cases h : cutC 10 t with
    | none => exact .none h
    | some q =>
      obtain ⟨s, r⟩ := q
      have hl : s.length + r.length + 1 = t.length := by rw [(cutC_some h).1]; simp; omega
      exact .some h ⟨by have := spl_len s; omega, fun x hx => by have := spl_sum s x hx; omega⟩ (ih (by omega) (by omega))
end Go.Proofs.YtihipcofjpnfbaaGreatDoor

/- What a script says, plain. -/
set_option linter.unusedVariables false
set_option linter.unusedSimpArgs false
set_option maxRecDepth 100000
set_option maxHeartbeats 4000000
namespace Go.Proofs.YtihipcofjpnfbaaGreatDoor
open Go hiding Expr
open Go.RowKit Tr

structure PRes where
  c : CF
  l : List ST
  k : Int
  e : Int
/-- Par i t c l r: before line i, with the text t left and c and l read, the whole answer is r. -/
inductive Par : Nat → List UInt8 → CF → List ST → PRes → Prop
  | done {i : Nat} {c : CF} {l : List ST} : i ≠ 1 → Par i [] c l ⟨c, l, 0, 0⟩
  | long {i : Nat} {t : List UInt8} {c : CF} {l : List ST} : i ≠ 1 → t ≠ [] → 16385 < i → Par i t c l ⟨cf0, [], i, 3⟩
  | raw {i : Nat} {t : List UInt8} {c : CF} {l : List ST} : (i = 1 ∨ t ≠ []) → i ≤ 16385 → cutC 10 t = none → Par i t c l ⟨cf0, [], i, 270⟩
  | badW {t s r : List UInt8} {c : CF} {l : List ST} : cutC 10 t = some (s, r) → (∀ y, CfOk y → spl s ≠ wdW y) → Par 1 t c l ⟨cf0, [], 1, 270⟩
  | badS {i : Nat} {t s r : List UInt8} {c : CF} {l : List ST} : i ≠ 1 → i ≤ 16385 → cutC 10 t = some (s, r) → (∀ y, Val y → spl s ≠ stW y) → Par i t c l ⟨cf0, [], i, 270⟩
  | world {t s r : List UInt8} {c y : CF} {l : List ST} {res : PRes} : cutC 10 t = some (s, r) → CfOk y → spl s = wdW y → Par 2 r y [] res → Par 1 t c l res
  | step {i : Nat} {t s r : List UInt8} {c : CF} {y : ST} {l : List ST} {res : PRes} : i ≠ 1 → i ≤ 16385 → cutC 10 t = some (s, r) → Val y → spl s = stW y → Par (i + 1) r c (l ++ [y]) res → Par i t c l res
theorem wdW_inj {a b : CF} (h : wdW a = wdW b) : a = b := by
  simp only [wdW, List.cons.injEq, and_true, true_and] at h
  obtain ⟨h1, h2, h3, h4, h5⟩ := h
  cases a
  cases b
  simp only [CF.mk.injEq]
  exact ⟨dI_inj h1, dI_inj h2, dI_inj h3, dI_inj h4, dU_inj h5⟩
theorem stW_inj {a b : ST} (ha : Val a) (hb : Val b) (h : stW a = stW b) : a = b :=
  (step_inj ha.1 hb.1 ha.2 hb.2).1 (by rw [ha.line, hb.line, h])
theorem stW_pre {a b : ST} {r : List W} (ha : Val a) (hb : Val b) (h : stW a = stW b ++ r) : r = [] := by
  have hk : a.kind = b.kind := by
    rw [ha.words, hb.words, List.cons_append] at h
    have h1 := (List.cons.inj h).1
    rw [← kindOf_of ha.kind.1 ha.kind.2, ← kindOf_of hb.kind.1 hb.kind.2, h1]
  rw [ha.words, hb.words, List.cons_append, hk] at h
  have h2 := (List.cons.inj h).2
  have hf := (fields_ok hb.kind.1 hb.kind.2).1
  have := flat_words (gs := []) (r := []) (rest := r) hb.1.tx ha.1.tx hf (by rw [List.append_nil, List.append_nil]; exact h2)
  simpa using this
theorem Par.det {i : Nat} {t : List UInt8} {c : CF} {l : List ST} {x : PRes} (h : Par i t c l x) : ∀ {y : PRes}, Par i t c l y → x = y := by
  induction h with
  | done hi =>
    intro y h
    cases h with
    | done => rfl
    | long _ h => exact absurd rfl h
    | raw h => exact (h.elim (fun h => absurd h hi) (fun h => absurd rfl h))
    | badW => exact absurd rfl hi
    | badS _ _ h => cases h
    | world => exact absurd rfl hi
    | step _ _ h => cases h
  | long hi ht hl =>
    intro y h
    cases h with
    | done => exact absurd rfl ht
    | long => rfl
    | raw _ h => omega
    | badW => exact absurd rfl hi
    | badS _ h => omega
    | world => exact absurd rfl hi
    | step _ h => omega
  | raw hi hl hc =>
    intro y h
    cases h with
    | done h => exact (hi.elim (fun h1 => absurd h1 h) (fun h1 => absurd rfl h1))
    | long _ _ h => omega
    | raw => rfl
    | badW => rfl
    | badS => rfl
    | world h => rw [hc] at h; cases h
    | step _ _ h => rw [hc] at h; cases h
  | badW hc hb =>
    intro y h
    cases h with
    | done h => exact absurd rfl h
    | long h => exact absurd rfl h
    | raw _ _ h => rfl
    | badW => rfl
    | badS => rfl
    | world h h2 h3 => rw [hc] at h; cases h; exact absurd h3 (hb _ h2)
    | step h => exact absurd rfl h
  | badS hi hl hc hb =>
    intro y h
    cases h with
    | done h => cases hc
    | long _ _ h => omega
    | raw _ _ h => rfl
    | badW => rfl
    | badS => rfl
    | world => exact absurd rfl hi
    | step _ _ h h2 h3 => rw [hc] at h; cases h; exact absurd h3 (hb _ h2)
  | world hc hy hs hn ih =>
    intro y h
    cases h with
    | done h => exact absurd rfl h
    | long h => exact absurd rfl h
    | raw _ _ h => rw [hc] at h; cases h
    | badW h h2 => rw [hc] at h; cases h; exact absurd hs (h2 _ hy)
    | badS h => exact absurd rfl h
    | world h h2 h3 h4 =>
      rw [hc] at h
      cases h
      rw [hs] at h3
      have := wdW_inj h3
      subst this
      exact ih h4
    | step h => exact absurd rfl h
  | step hi hl hc hy hs hn ih =>
    intro y h
    cases h with
    | done h => cases hc
    | long _ _ h => omega
    | raw _ _ h => rw [hc] at h; cases h
    | badW => exact absurd rfl hi
    | badS _ _ h h2 => rw [hc] at h; cases h; exact absurd hs (h2 _ hy)
    | world => exact absurd rfl hi
    | step _ _ h h2 h3 h4 =>
      rw [hc] at h
      cases h
      rw [hs] at h3
      have := stW_inj hy h2 h3
      subst this
      exact ih h4
end Go.Proofs.YtihipcofjpnfbaaGreatDoor

/- A script's reading, by the program. -/
set_option linter.unusedVariables false
set_option linter.unusedSimpArgs false
set_option maxRecDepth 100000
set_option maxHeartbeats 4000000
namespace Go.Proofs.YtihipcofjpnfbaaGreatDoor
open Go hiding Expr
open Go.RowKit Tr

theorem s_dcall {P : Program} {Q : Ending → World → Prop} {ρ : Lv} {w : World} {f : FuncId} {args : List Value} {md : Option Value} {x y : T} {R : Ending → FrameMode → World → Prop} (h : CallsDIn (FF none) 0 P f ⟨args⟩ (modeOf md) w R)
    (hk : ∀ e u w', R e u w' → ∃ v, e = .returned v ∧ settle u = .returning ∧ x.sem P Q ρ w') : (T.dcall f args md x y).sem P Q ρ w :=
  CallsDIn.mono h fun e u w' hR => by
    obtain ⟨v, h1, h2, h3⟩ := hk e u w' hR
    exact ⟨v, h1, .inl ⟨h2, h3⟩⟩
theorem elemSX : Elem Tryz.prog 25 56 (.agg ⟨zST⟩) 16 208 := ⟨by kernel_rfl, by kernel_rfl, rfl, by decide⟩
def encS (l : List SX) : List Value := (l.map sxr).flatten
theorem encS_app (a b : List SX) : encS (a ++ b) = encS a ++ encS b := by simp [encS]
theorem stv_one (y : ST) (v : SV27) : ∀ u ∈ stv y v, u.oneCell' = true := by
  intro u hu
  simp [stv, txv] at hu
  rcases hu with rfl | rfl | rfl | rfl | rfl | rfl | rfl | rfl | rfl | rfl | rfl | rfl | rfl | rfl | rfl | rfl <;> rfl
/-- All steps' lists lie in c. -/
def HeldL (c : Hp) (l : List SX) : Prop := ∀ w0 u, Has w0 u c → ∀ p ∈ l, StAt u p.x p.v
theorem HeldL.nil {c : Hp} : HeldL c [] := fun _ _ _ p hp => by cases hp
theorem HeldL.add {c c2 : Hp} {l : List SX} {y : ST} {v : SV27} (h : HeldL c l) (h2 : HeldS c2 y v) : HeldL (c2 ++ c) (l ++ [⟨y, v⟩]) := by
  intro w0 u H p hp
  rcases List.mem_append.1 hp with hp | hp
  · exact h w0 u H.right p hp
  · simp only [List.mem_singleton] at hp
    subst hp
    exact h2 w0 u H.left
theorem HeldL.more {c c2 : Hp} {l : List SX} (h : HeldL c l) : HeldL (c2 ++ c) l := fun w0 u H p hp => h w0 u H.right p hp
def LST (m : Hp) (o : Option Addr) (l : List SX) : Prop := ∀ w0 u, Has w0 u m → StepsAt u o l
def ParR (w : World) (s : List UInt8) (e : Ending) (w' : World) : Prop :=
  ∃ (c : CF) (l : List SX) (k er : Int) (o : Option Addr) (cap : Nat) (m : Hp), Par 1 s cf0 [] ⟨c, l.map (·.x), k, er⟩ ∧ CfOk c ∧ (∀ p ∈ l, Val p.x) ∧ l.length ≤ 16384 ∧
    e = .returned (.tuple #[.agg ⟨cfv c⟩, .slice o l.length cap, .int .i64 k, .int .i64 er]) ∧ Has w w' m ∧ LST m o l
theorem cf0_ok : CfOk cf0 := ⟨by constructor <;> decide, by constructor <;> decide, by constructor <;> decide, by constructor <;> decide, by decide⟩
section
variable {w w' w0 : World} {m : Hp} {n1 n2 n3 : Nat} {s t : List UInt8} {v1 v2 v3 v4 v5 lv ev : Value} {ρ : Lv} {i : Nat} {y : T}
theorem h_drew_wd {Q : Ending → World → Prop} {p : Nat} {ws : List W} {b x : Hp} {k : T} (h : Wd w0 w p ws b x) (hk : ∀ w', Wd w0 w' p ws b x → k.sem Tryz.prog Q ρ w') : (T.drew k).sem Tryz.prog Q ρ w := by
  obtain ⟨o, n, cap, h1, H⟩ := h
  exact h_drew H fun u H => hk u ⟨o, n, cap, h1, H⟩
def failK (n1 n2 n3 : Nat) (i : Int) : T :=
  T.ldI .i64 n1 0 fun a => T.ldI .i64 n1 1 fun b => T.ldI .i64 n1 2 fun c => T.ldI .i64 n1 3 fun d => T.ldI .u64 n1 4 fun e => T.ldS n2 0 fun o n k => T.ldI .i64 n3 0 fun f =>
    T.ret (.tuple #[.agg #[.int .i64 a, .int .i64 b, .int .i64 c, .int .i64 d, .int .u64 e], .slice o n k, .int .i64 i, .int .i64 f])
theorem fail_c (H : Has w w' (cl n1 24 [v1, v2, v3, v4, v5] :: cl n2 25 [lv] :: cl n3 26 [ev] :: m)) (hp : Par 1 s cf0 [] ⟨cf0, [], i, 270⟩) :
    (T.dcall 13 [.pointer (some ⟨n1, 0, none⟩), .pointer (some ⟨n2, 0, none⟩), .pointer (some ⟨n3, 0, none⟩)] (some (.iface 44 (.agg ⟨[]⟩))) (failK n1 n2 n3 i) y).sem Tryz.prog (ParR w s) ρ w' := by
  refine s_dcall (p1_pan H) ?_
  rintro _ uu u ⟨rfl, hs, H⟩
  simp only [cfZ] at H
  refine ⟨_, rfl, hs, ?_⟩
  unfold failK
  iterate 5 refine h_ldI H (b := n1) (by repeat (first | exact pick_head | apply pick_tail | apply pick_app)) rfl ?_
  refine h_ldS H (b := n2) (by repeat (first | exact pick_head | apply pick_tail | apply pick_app)) rfl (h_ldI H (b := n3) (by repeat (first | exact pick_head | apply pick_tail | apply pick_app)) rfl (s_ret ?_))
  exact ⟨cf0, [], i, 270, none, 0, [], hp, cf0_ok, by simp, by simp, rfl, H.sub ⟨_, List.Perm.refl _⟩, fun w0 u H => ⟨.inl rfl, by simp⟩⟩
variable (hT : Tab w) (hE : ErrAt w)
include hT hE
theorem parse_c (hsz : s.length ≤ 67108864) (hlo : LOk s) : Calls Tryz.prog 5 #[.string (S s)] w (ParR w s) := by
  apply c5
  refine h_new (Has.init w) fun n1 u H => h_new H fun n2 u H => h_new H fun n3 u H => ?_
  refine s_loop (fun vs U => ∃ (i : Nat) (t : List UInt8) (c : CF) (l : List SX) (v : Value) (cs y : Hp), vs = [.string (S t), .int .i64 i] ∧ 1 ≤ i ∧ i ≤ 16386 ∧ t.length ≤ 67108864 ∧ LOk t ∧ (∀ res, Par i t c (l.map (·.x)) res → Par 1 s cf0 [] res) ∧
      (i = 1 ∨ l.length + 2 = i) ∧ (i = 1 → l = []) ∧ CfOk c ∧ (∀ p ∈ l, Val p.x) ∧ OwnC 56 16 v l.length (encS l) cs ∧ HeldL y l ∧ Has w U (cl n1 24 (cfv c) :: cl n2 25 [v] :: cl n3 26 [.int .i64 0] :: (cs ++ y)))
    (fun vs _ => 16387 - (intOf (vs.getD 1 undef)).toNat) ⟨1, s, cf0, [], .slice none 0 0, [], [], rfl, by omega, by omega, hsz, hlo, fun res h => h, .inl rfl, fun _ => rfl, cf0_ok, by simp, OwnC.nil, HeldL.nil, H.sub (by repeat (first | exact sb_refl | exact sb_nil | refine sb_cons (by repeat (first | exact pick_head | apply pick_tail | apply pick_app)) ?_ | refine sb_app (by repeat (first | exact cut_head | exact cut_all | apply cut_tail | apply cut_app)) ?_ | exact sb_one (by repeat (first | exact cut_head | exact cut_all | apply cut_tail | apply cut_app))))⟩ ?_
  clear H
  rintro _ j W ⟨i, t, c, l, v, cs, y, rfl, hi1, hi2, ht, htl, hpar, hil, hi0, hc, hl, ho, hh, H⟩
  refine s_asT (s_asI (s_blk (fun vs U => vs = [] ∧ (i = 1 ∨ t ≠ []) ∧ U = W) ?_ ?_))
  rotate_left
  · refine s_ite (fun g => s_next ⟨rfl, rfl⟩ ?_) (fun g => s_ite (fun g2 => s_next ⟨rfl, rfl⟩ ?_) (fun g2 => ?_))
    · have g : (i : Int) = 1 := by simpa using g
      simp only [if_true]
      exact ⟨trivial, .inl (by omega), trivial⟩
    · rw [S_toList, show ByteArray.toList ⟨⟨[]⟩⟩ = [] from S_toList []] at g2
      simp only [if_true]
      exact ⟨trivial, .inr (fun h => by subst h; cases g2), trivial⟩
    · rw [S_toList, show ByteArray.toList ⟨⟨[]⟩⟩ = [] from S_toList []] at g2
      have g : i ≠ 1 := by
        intro h
        subst h
        cases g
      have ht0 : t = [] := by
        cases t with
        | nil => rfl
        | cons a r => cases g2
      subst ht0
      obtain ⟨o, cap, rfl⟩ := ho.slice
      simp only [cfv] at H
      refine h_drew H fun u H => ?_
      iterate 5 refine h_ldI H (b := n1) (by repeat (first | exact pick_head | apply pick_tail | apply pick_app)) rfl ?_
      refine h_ldS H (b := n2) (by repeat (first | exact pick_head | apply pick_tail | apply pick_app)) rfl ?_
      iterate 5 (refine h_st H (b := n1) (by repeat (first | exact pick_head | apply pick_tail | apply pick_app)) (by first | (simp; done) | exact Nat.le_of_ble_eq_true rfl) rfl fun u H => ?_; simp only [List.set_cons_zero, List.set_cons_succ] at H)
      refine s_chk (by repeat (first | exact c_nil | refine hc_cons H (b := n2) (by repeat (first | exact pick_head | apply pick_tail | apply pick_app)) rfl ?_)) ?_
      refine h_st H (b := n2) (by repeat (first | exact pick_head | apply pick_tail | apply pick_app)) (by simp) rfl fun u H => s_chk c_nil ?_
      simp only [List.set_cons_zero] at H
      refine h_st H (b := n3) (by repeat (first | exact pick_head | apply pick_tail | apply pick_app)) (by simp) rfl fun u H => s_chk c_nil ?_
      simp only [List.set_cons_zero] at H
      refine s_dcall p1_ret ?_
      rintro _ uu u' ⟨rfl, hs, rfl⟩
      refine ⟨_, rfl, hs, ?_⟩
      iterate 5 refine h_ldI H (b := n1) (by repeat (first | exact pick_head | apply pick_tail | apply pick_app)) rfl ?_
      refine h_ldS H (b := n2) (by repeat (first | exact pick_head | apply pick_tail | apply pick_app)) rfl (h_ldI H (b := n3) (by repeat (first | exact pick_head | apply pick_tail | apply pick_app)) rfl (s_ret ?_))
      exact ⟨c, l, 0, 0, o, cap, cs ++ y, hpar _ (.done g), hc, hl, by omega, rfl, H.sub (by repeat (first | exact sb_refl | exact sb_nil | refine sb_cons (by repeat (first | exact pick_head | apply pick_tail | apply pick_app)) ?_ | refine sb_app (by repeat (first | exact cut_head | exact cut_all | apply cut_tail | apply cut_app)) ?_ | exact sb_one (by repeat (first | exact cut_head | exact cut_all | apply cut_tail | apply cut_app)))), fun w0 u H => ⟨rowsAt_own (sxr16 l) (by decide) ho H (by repeat (first | exact cut_head | exact cut_all | apply cut_tail | apply cut_app)), fun p hp => hh w0 u H.right p hp⟩⟩
  rintro _ j2 U ⟨rfl, hit, rfl⟩
  refine s_ite (fun g => ?_) (fun g => ?_)
  · have g : 16385 < (i : Int) := by simpa using g
    have hi : i = 16386 := by omega
    simp only [cfv] at H
    iterate 5 (refine h_st H (b := n1) (by repeat (first | exact pick_head | apply pick_tail | apply pick_app)) (by first | (simp; done) | exact Nat.le_of_ble_eq_true rfl) rfl fun u H => ?_; simp only [List.set_cons_zero, List.set_cons_succ] at H)
    refine h_st H (b := n2) (by repeat (first | exact pick_head | apply pick_tail | apply pick_app)) (by simp) rfl fun u H => ?_
    simp only [List.set_cons_zero] at H
    refine h_st H (b := n3) (by repeat (first | exact pick_head | apply pick_tail | apply pick_app)) (by simp) rfl fun u H => ?_
    simp only [List.set_cons_zero] at H
    refine s_dcall p1_ret ?_
    rintro _ uu u' ⟨rfl, hs, rfl⟩
    refine ⟨_, rfl, hs, ?_⟩
    iterate 5 refine h_ldI H (b := n1) (by repeat (first | exact pick_head | apply pick_tail | apply pick_app)) rfl ?_
    refine h_ldS H (b := n2) (by repeat (first | exact pick_head | apply pick_tail | apply pick_app)) rfl (h_ldI H (b := n3) (by repeat (first | exact pick_head | apply pick_tail | apply pick_app)) rfl (s_ret ?_))
    exact ⟨cf0, [], i, 3, none, 0, [], hpar _ (.long (by omega) (hit.resolve_left (by omega)) (by omega)), cf0_ok, by simp, by simp, rfl, H.sub ⟨_, List.Perm.refl _⟩, fun w0 u H => ⟨.inl rfl, by simp⟩⟩
  have g : i ≤ 16385 := by
    have g : ¬ (16385 < (i : Int)) := by simpa using g
    omega
  refine s_call2 (cut_c (errFr hE H.base) ht) ?_
  rintro e u ⟨f, (⟨a, r, hcut, rfl⟩ | ⟨hcut, rfl⟩)⟩
  rotate_left
  · have H := H.fr0 f
    refine ⟨_, rfl, s_asU (s_req rfl (s_asT (s_asT (s_asB (s_blk (fun _ _ => False) (fun _ _ _ h => h.elim) (s_true rfl ?_))))))⟩
    exact fail_c H (hpar _ (.raw hit g hcut))
  have hcs := cutC_some hcut
  have hlok : WC (spl a) ∧ LOk r := by
    cases htl with
    | none h => rw [hcut] at h; cases h
    | some h h1 h2 => rw [hcut] at h; cases h; exact ⟨h1, h2⟩
  have hla : a.length + r.length + 1 = t.length := by rw [hcs.1]; simp; omega
  have H := H.fr0 f
  refine ⟨_, rfl, s_asU (s_req rfl (s_asT (s_asT (s_asB (s_blk (fun vs U => vs = [] ∧ Has w U (cl n1 24 (cfv c) :: cl n2 25 [v] :: cl n3 26 [.int .i64 0] :: (cs ++ y))) ?_ ?_)))))⟩
  rotate_left
  · exact s_false rfl (s_next ⟨rfl, rfl⟩ (by simp only [if_true]; exact ⟨trivial, H⟩))
  clear H
  rintro _ j3 U ⟨rfl, H⟩
  refine s_call2 (split_c (errFr hE H.base) (by omega)) ?_
  rintro e u ⟨g1, rfl, Hg⟩
  have H := H.join Hg
  refine ⟨_, rfl, s_asS ?_⟩
  refine h_new H fun n39 u H => h_st H pick_head (by simp) rfl fun u H => ?_
  simp only [List.set_cons_zero] at H
  have hwb : WC (spl a) := hlok.1
  have hwd : Wd w u n39 (spl a) [cl g1 9 (strs (spl a))] (cl n1 24 (cfv c) :: cl n2 25 [v] :: cl n3 26 [.int .i64 0] :: (cs ++ y)) :=
    ⟨some ⟨g1, 0, none⟩, (spl a).length, (spl a).length, ⟨rfl, Nat.le_refl _, hwb, fun u hu => rowsAt_cells (sp := []) (sr1 _) (by rw [List.append_nil]; exact hu.cells pick_head)⟩, H.sub (by repeat (first | exact sb_refl | exact sb_nil | refine sb_cons (by repeat (first | exact pick_head | apply pick_tail | apply pick_app)) ?_ | refine sb_app (by repeat (first | exact cut_head | exact cut_all | apply cut_tail | apply cut_app)) ?_ | exact sb_one (by repeat (first | exact cut_head | exact cut_all | apply cut_tail | apply cut_app))))⟩
  clear H Hg
  refine s_blk (fun vs U => vs = [] ∧ ∃ (c' : CF) (l' : List SX) (v' : Value) (cs' y' : Hp) (r' : List W), CfOk c' ∧ (∀ p ∈ l', Val p.x) ∧ l'.length + 2 = i + 1 ∧ OwnC 56 16 v' l'.length (encS l') cs' ∧ HeldL y' l' ∧
    (r' = [] → ∀ res, Par (i + 1) r c' (l'.map (·.x)) res → Par i t c (l.map (·.x)) res) ∧ (r' ≠ [] → Par i t c (l.map (·.x)) ⟨cf0, [], i, 270⟩) ∧
    Wd w U n39 r' [cl g1 9 (strs (spl a))] (cl n1 24 (cfv c') :: cl n2 25 [v'] :: cl n3 26 [.int .i64 0] :: (cs' ++ y'))) ?_ ?_
  · clear hwd
    rintro _ j4 U ⟨rfl, c', l', v', cs', y', r', hc', hl', hil', ho', hh', hgood, hbad, hwd⟩
    obtain ⟨o, n, cap, ⟨hn, _⟩, H⟩ := hwd
    simp only [List.cons_append, List.append_assoc] at H
    refine h_ldS H (b := n39) pick_head rfl (s_ite (fun g3 => ?_) (fun g3 => s_next ⟨rfl, rfl⟩ ?_))
    · have g3 : 0 < (n : Int) := by simpa using g3
      exact fail_c (m := cs' ++ y') (H.sub (by repeat (first | exact sb_refl | exact sb_nil | refine sb_cons (by repeat (first | exact pick_head | apply pick_tail | apply pick_app)) ?_ | refine sb_app (by repeat (first | exact cut_head | exact cut_all | apply cut_tail | apply cut_app)) ?_ | exact sb_one (by repeat (first | exact cut_head | exact cut_all | apply cut_tail | apply cut_app))))) (hpar _ (hbad (fun h => by subst h; simp at hn; omega)))
    · have g3 : ¬ (0 < (n : Int)) := by simpa using g3
      have hr' : r' = [] := List.eq_nil_of_length_eq_zero (by omega)
      simp (config := { decide := true }) only [if_true, if_false]
      refine ⟨⟨i + 1, r, c', l', v', cs', y', by rw [w_succ (by omega)], by omega, by omega, by omega, hlok.2, fun res hres => hpar _ (hgood hr' res hres), .inr hil', fun h => by omega, hc', hl', ho', hh', H.sub (by repeat (first | exact sb_refl | exact sb_nil | refine sb_cons (by repeat (first | exact pick_head | apply pick_tail | apply pick_app)) ?_ | refine sb_app (by repeat (first | exact cut_head | exact cut_all | apply cut_tail | apply cut_app)) ?_ | exact sb_one (by repeat (first | exact cut_head | exact cut_all | apply cut_tail | apply cut_app))))⟩, ?_⟩
      rw [w_succ (by omega)]
      simp [intOf]
      omega
  · refine s_ite (fun g2 => ?_) (fun g2 => ?_)
    · have hi : i = 1 := by
        have g2 : (i : Int) = 1 := by simpa using g2
        omega
      subst hi
      have hl0 := hi0 rfl
      subst hl0
      refine s_call2p (worldW_c hT hE hwd) ?_
      rintro e u (⟨cy, r', hw, hcy, rfl, hwd⟩ | ⟨hno, rfl, ⟨ws', hwd⟩⟩)
      · refine .inl ⟨_, rfl, s_asA (s_req rfl ?_)⟩
        iterate 5 refine s_asI ?_
        obtain ⟨vw, H, hk⟩ := hwd.turn
        simp only [cfv, List.cons_append, List.append_assoc] at H
        iterate 5 (refine h_st H (b := n1) (by repeat (first | exact pick_head | apply pick_tail | apply pick_app)) (by first | (simp; done) | exact Nat.le_of_ble_eq_true rfl) rfl fun u H => ?_; simp only [List.set_cons_zero, List.set_cons_succ] at H)
        refine s_next ⟨rfl, rfl⟩ ?_
        simp only [if_true]
        refine ⟨trivial, cy, [], v, cs, y, r', hcy, by simp, by simp, ho, hh, ?_, ?_, hk (by simp only [List.cons_append, List.append_assoc]; exact H.sub (by repeat (first | exact sb_refl | exact sb_nil | refine sb_cons (by repeat (first | exact pick_head | apply pick_tail | apply pick_app)) ?_ | refine sb_app (by repeat (first | exact cut_head | exact cut_all | apply cut_tail | apply cut_app)) ?_ | exact sb_one (by repeat (first | exact cut_head | exact cut_all | apply cut_tail | apply cut_app)))))⟩
        · rintro rfl res hres
          exact .world hcut hcy (by rw [hw, List.append_nil]) hres
        · intro hr'
          refine .badW hcut fun y2 hy2 h2 => hr' ?_
          rw [hw] at h2
          have := congrArg List.length h2
          simp [wdW] at this
          exact this
      · refine .inr ⟨_, rfl, ?_⟩
        obtain ⟨vw, H⟩ := hwd.has
        simp only [List.cons_append, List.append_assoc] at H
        exact fail_c (i := 1) (m := cs ++ y) (H.sub (by repeat (first | exact sb_refl | exact sb_nil | refine sb_cons (by repeat (first | exact pick_head | apply pick_tail | apply pick_app)) ?_ | refine sb_app (by repeat (first | exact cut_head | exact cut_all | apply cut_tail | apply cut_app)) ?_ | exact sb_one (by repeat (first | exact cut_head | exact cut_all | apply cut_tail | apply cut_app))))) (hpar _ (.badW hcut fun y2 hy2 h2 => hno y2 [] hy2 (by rw [h2, List.append_nil])))
    · have hi : i ≠ 1 := by
        have g2 : ¬ ((i : Int) = 1) := by simpa using g2
        omega
      have hil := hil.resolve_left hi
      obtain ⟨o, cap, rfl⟩ := ho.slice
      refine h_drew_wd hwd fun u hwd => ?_
      obtain ⟨vw, H, hk⟩ := hwd.turn
      simp only [List.cons_append, List.append_assoc] at H
      refine h_ldS H (b := n2) (by repeat (first | exact pick_head | apply pick_tail | apply pick_app)) rfl ?_
      refine s_call2p (stepW_c hT hE hwd) ?_
      clear H hk
      rintro e u (⟨z, vz, r', cz, hw, hz, rfl, hhz, hwd⟩ | ⟨hno, rfl, q, ⟨ws', hwd⟩⟩)
      · refine .inl ⟨_, rfl, s_asA (s_req rfl ?_)⟩
        iterate 5 refine s_asI ?_
        iterate 5 refine s_asS ?_
        iterate 6 refine s_asI ?_
        obtain ⟨vw, H, hk⟩ := hwd.turn
        simp only [List.cons_append, List.append_assoc] at H
        refine s_chk (by repeat (first | exact c_nil | refine hc_cons H (b := n2) (by repeat (first | exact pick_head | apply pick_tail | apply pick_app)) rfl ?_)) ?_
        refine h_new H fun n102 u H => ?_
        have H : Has w u (cl n102 56 (stv z vz) :: (cl n39 46 [vw] :: (cz ++ (cl n1 24 (cfv c) :: cl n2 25 [.slice o l.length cap] :: cl n3 26 [.int .i64 0] :: (cs ++ (y ++ [cl g1 9 (strs (spl a))])))))) := H
        refine s_chk (by repeat (first | exact c_nil | refine hc_cons H (b := n2) (by repeat (first | exact pick_head | apply pick_tail | apply pick_app)) rfl ?_)) ?_
        refine h_app1 elemSX H (c := cs) (by repeat (first | exact cut_head | exact cut_all | apply cut_tail | apply cut_app)) ho (r := n102) (by repeat (first | exact pick_head | apply pick_tail | apply pick_app)) rfl (stv_one z vz) (by omega) (by omega) ?_
        intro v2 c2 w2 ho2 H
        obtain ⟨o2, cap2, rfl⟩ := ho2.slice
        refine s_asS (s_chk c_nil ?_)
        refine h_st H (b := n2) (by repeat (first | exact pick_head | apply pick_tail | apply pick_app)) (by simp) rfl fun u H => s_chk c_nil ?_
        simp only [List.set_cons_zero] at H
        refine s_next ⟨rfl, rfl⟩ ?_
        simp only [if_true]
        refine ⟨trivial, c, l ++ [⟨z, vz⟩], .slice o2 (l.length + 1) cap2, c2, cz ++ y, r', hc, ?_, by simp; omega, ?_, hh.add hhz, ?_, ?_, hk (by simp only [List.cons_append, List.append_assoc]; exact H.sub (by repeat (first | exact sb_refl | exact sb_nil | refine sb_cons (by repeat (first | exact pick_head | apply pick_tail | apply pick_app)) ?_ | refine sb_app (by repeat (first | exact cut_head | exact cut_all | apply cut_tail | apply cut_app)) ?_ | exact sb_one (by repeat (first | exact cut_head | exact cut_all | apply cut_tail | apply cut_app)))))⟩
        · intro p hp
          rcases List.mem_append.1 hp with hp | hp
          · exact hl p hp
          · simp only [List.mem_singleton] at hp
            subst hp
            exact hz
        · rw [encS_app, List.length_append]
          have e1 : encS [⟨z, vz⟩] = stv z vz := by simp [encS, sxr]
          rw [e1]
          exact ho2
        · rintro rfl res hres
          refine .step hi g hcut hz (by rw [hw, List.append_nil]) ?_
          rw [List.map_append] at hres
          exact hres
        · intro hr'
          refine .badS hi g hcut fun y2 hy2 h2 => hr' ?_
          rw [hw] at h2
          exact stW_pre hy2 hz h2.symm
      · refine .inr ⟨_, rfl, ?_⟩
        obtain ⟨vw, H⟩ := hwd.has
        simp only [List.cons_append, List.append_assoc] at H
        exact fail_c (i := i) (m := cs ++ y) (H.sub (by repeat (first | exact sb_refl | exact sb_nil | refine sb_cons (by repeat (first | exact pick_head | apply pick_tail | apply pick_app)) ?_ | refine sb_app (by repeat (first | exact cut_head | exact cut_all | apply cut_tail | apply cut_app)) ?_ | exact sb_one (by repeat (first | exact cut_head | exact cut_all | apply cut_tail | apply cut_app))))) (hpar _ (.badS hi g hcut fun y2 hy2 h2 => hno y2 [] hy2 (by rw [h2, List.append_nil])))
end
end Go.Proofs.YtihipcofjpnfbaaGreatDoor
