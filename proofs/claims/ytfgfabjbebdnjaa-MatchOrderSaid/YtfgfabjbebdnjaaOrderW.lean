/- The walk of MatchOrder. -/
import Derived.Test.YtfgfabjbebdnjaaRises
import Derived.Test.YtfgfabjbebdnjaaTreesC
set_option linter.unusedVariables false
set_option linter.unusedSimpArgs false
set_option maxRecDepth 100000

namespace Go.Proofs.Ytfgfabjbebdnjaa
open Go hiding Expr
open Go.RowKit Tr

def tellO (s : MS) (o : Opn) : MS := s.tellS o.who (o.d != 3) o.slot
/-- What one telling makes of what is known of k. -/
def likeO (c : MS) (k : Int) (x : Int) (o : Opn) : Int :=
  if c.who o.who = true ∧ 0 ≤ o.slot ∧ (o.d != 3) = true ∧ o.slot ≤ c.len ∧ o.who = k then max x o.slot else x
theorem tell_keeps (s : MS) (o : Opn) : (tellO s o).n = s.n ∧ (tellO s o).self = s.self ∧ (tellO s o).len = s.len := by
  unfold tellO MS.tellS
  split
  · exact ⟨rfl, rfl, rfl⟩
  · split
    · exact ⟨rfl, rfl, rfl⟩
    · split <;> exact ⟨rfl, rfl, rfl⟩
theorem tell_like {s : MS} (hs : s.Ok) (c : MS) (h1 : s.n = c.n) (h2 : s.self = c.self) (h3 : s.len = c.len) (k : Int) (o : Opn) : ((tellO s o).at k).2 = likeO c k (s.at k).2 o := by
  have hwho : ∀ i, c.who i = s.who i := fun i => by simp only [MS.who, h1, h2]
  unfold likeO tellO MS.tellS
  rw [hwho, ← h3]
  by_cases hbad : s.who o.who = false ∨ o.slot < 0 ∨ ((o.d != 3) = true ∧ o.slot > s.len)
  · rw [if_pos hbad, if_neg]
    rintro ⟨a1, a2, a3, a4, _⟩
    rcases hbad with h | h | ⟨_, h⟩
    · rw [a1] at h; cases h
    · omega
    · omega
  · have hw := who_of hbad
    rw [if_neg hbad]
    have hsl : ¬ o.slot < 0 := fun h => hbad (.inr (.inl h))
    by_cases hy : (o.d != 3) = true
    · have hle : ¬ o.slot > s.len := fun h => hbad (.inr (.inr ⟨hy, h⟩))
      rw [if_pos hy, at_upd hs hw]
      by_cases hk : k = o.who
      · subst hk
        rw [if_pos rfl, if_pos ⟨hw, by omega, hy, by omega, rfl⟩]
      · rw [if_neg hk, if_neg]
        rintro ⟨_, _, _, _, h⟩
        exact hk h.symm
    · have hC : ¬ (s.who o.who = true ∧ 0 ≤ o.slot ∧ (o.d != 3) = true ∧ o.slot ≤ s.len ∧ o.who = k) := fun h => hy h.2.2.1
      rw [if_neg hy, if_neg hC]
      split
      · rw [at_upd hs hw]
        split
        · rename_i hk; subst hk; rfl
        · rfl
      · rfl
theorem fold_ok (ops : List Opn) : ∀ {s : MS}, s.Ok → (ops.foldl tellO s).Ok := by
  induction ops with
  | nil => intro s h; exact h
  | cons o r ih => intro s h; exact ih (tellS_ok h _ _ _)
theorem fold_like (c : MS) (k : Int) (ops : List Opn) : ∀ {s : MS}, s.Ok → s.n = c.n → s.self = c.self → s.len = c.len → ((ops.foldl tellO s).at k).2 = ops.foldl (likeO c k) (s.at k).2 ∧ (ops.foldl tellO s).n = c.n := by
  induction ops with
  | nil => intro s h h1 h2 h3; exact ⟨rfl, h1⟩
  | cons o r ih =>
    intro s h h1 h2 h3
    obtain ⟨k1, k2, k3⟩ := tell_keeps s o
    have := ih (s := tellO s o) (tellS_ok h _ _ _) (k1.trans h1) (k2.trans h2) (k3.trans h3)
    rw [tell_like h c h1 h2 h3] at this
    exact this
theorem fold_perm (c : MS) (k : Int) {a b : List Opn} (h : a.Perm b) (x : Int) : a.foldl (likeO c k) x = b.foldl (likeO c k) x := by
  refine h.foldl_eq' (fun p _ q _ z => ?_) x
  unfold likeO
  split <;> split <;> omega
theorem fold_likes {s : MS} (hs : s.Ok) {a b : List Opn} (h : a.Perm b) : (∀ k, ((a.foldl tellO s).at k).2 = ((b.foldl tellO s).at k).2) ∧ (a.foldl tellO s).likes = (b.foldl tellO s).likes := by
  have h1 : ∀ k, ((a.foldl tellO s).at k).2 = ((b.foldl tellO s).at k).2 := fun k => by
    rw [(fold_like s k a hs rfl rfl rfl).1, (fold_like s k b hs rfl rfl rfl).1, fold_perm s k h]
  refine ⟨h1, ?_⟩
  unfold MS.likes
  rw [(fold_like s 0 a hs rfl rfl rfl).2, (fold_like s 0 b hs rfl rfl rfl).2]
  exact List.map_congr_left fun k _ => h1 k

theorem elem24 : Elem Try.prog 24 31 (.agg ⟨[.int .i64 0, .int .i64 0, .int .i64 0]⟩) 3 24 := ⟨by kernel_rfl, by kernel_rfl, rfl, by decide⟩
theorem opRows3 (l : List Opn) : ∀ r ∈ l.map opRow, r.length = 3 := by
  intro r hr
  obtain ⟨o, _, rfl⟩ := List.mem_map.1 hr
  rfl
theorem opc_get {l : List Opn} {sp : List Value} {i j : Nat} {o : Opn} {v : Value} (h : l[i]? = some o) (hv : (opRow o)[j]? = some v) : ((l.map opRow).flatten ++ sp)[i * 3 + j]? = some v := by
  have h1 := flat_get (opRows3 l) (i := i) (j := j) (r := opRow o) (v := v) (by simp [h]) hv
  rw [List.getElem?_append_left (List.getElem?_eq_some_iff.1 h1).1]
  exact h1
theorem opc_set {l : List Opn} {sp : List Value} {i : Nat} {o o' : Opn} (h : l[i]? = some o) :
    ((((((l.map opRow).flatten ++ sp).set (i * 3) (.int .i64 o'.d)).set (i * 3 + 1) (.int .i64 o'.who)).set (i * 3 + 2) (.int .i64 o'.slot))) = ((l.set i o').map opRow).flatten ++ sp := by
  have hi := (List.getElem?_eq_some_iff.1 h).1
  have hl := flat_len (opRows3 l)
  rw [List.length_map] at hl
  have e1 := flat_set (opRows3 l) (i := i) (j := 0) (r := opRow o) (v := .int .i64 o'.d) (by simp [h]) (by omega)
  have hr1 : ∀ r ∈ (l.map opRow).set i ((opRow o).set 0 (.int .i64 o'.d)), r.length = 3 := fun r hr => by
    rcases List.mem_or_eq_of_mem_set hr with hr | rfl
    · exact opRows3 l r hr
    · rfl
  have e2 := flat_set hr1 (i := i) (j := 1) (r := (opRow o).set 0 (.int .i64 o'.d)) (v := .int .i64 o'.who) (by simp [hi]) (by omega)
  have hr2 : ∀ r ∈ ((l.map opRow).set i ((opRow o).set 0 (.int .i64 o'.d))).set i (((opRow o).set 0 (.int .i64 o'.d)).set 1 (.int .i64 o'.who)), r.length = 3 := fun r hr => by
    rcases List.mem_or_eq_of_mem_set hr with hr | rfl
    · exact hr1 r hr
    · rfl
  have e3 := flat_set hr2 (i := i) (j := 2) (r := ((opRow o).set 0 (.int .i64 o'.d)).set 1 (.int .i64 o'.who)) (v := .int .i64 o'.slot) (by simp [hi]) (by omega)
  rw [Nat.add_zero] at e1
  rw [List.set_append_left _ _ (by rw [hl]; omega), e1, List.set_append_left _ _ (by rw [flat_len hr1]; simp; omega), e2, List.set_append_left _ _ (by rw [flat_len hr2]; simp; omega), e3]
  simp only [List.set_set, List.map_set]
  rfl

def turnRow (x : Int) : List Value := [.int .u8 x]
theorem turns_of : ∀ rows : List (List Value), (∀ r ∈ rows, Fits [.int .u8] r) → ∃ turn : List Int, rows = turn.map turnRow ∧ ∀ x ∈ turn, 0 ≤ x ∧ x ≤ 255
  | [], _ => ⟨[], rfl, by simp⟩
  | r :: l, h => by
    obtain ⟨turn, rfl, ht⟩ := turns_of l (fun x hx => h x (by simp [hx]))
    obtain ⟨a, r1, rfl, hw, h1⟩ := (h r (by simp)).int
    obtain rfl := h1.nil
    refine ⟨a :: turn, rfl, ?_⟩
    intro x hx
    rcases List.mem_cons.1 hx with rfl | hx
    · simp [Lit.wf, IntKind.min, IntKind.max, IntKind.signed, IntKind.bits] at hw
      omega
    · exact ht x hx

theorem order_c {w : World} (n self len : Int) (o : Option Addr) (cap : Nat) (ops : List Opn) (hsz : ops.length * 24 ≤ 140737488355328) (hrows : RowsAt w o 3 (ops.map opRow))
    (ot : Option Addr) (capt : Nat) (turn : List Int) (hturn : ∀ x ∈ turn, 0 ≤ x ∧ x ≤ 255) (htrows : RowsAt w ot 1 (turn.map turnRow)) :
    Calls Try.prog 4 #[.agg #[.int .i64 n, .int .i64 self], .int .i64 len, .slice o ops.length cap, .slice ot turn.length capt] w fun e w' => e = .returned (.bool true) ∧ Fr [] w w' := by
  apply c4
  refine h_new (Has.init w) fun r9 u H => ?_
  (repeat (first | refine s_asI ?_ | refine s_asS ?_ | refine s_asP ?_ | refine s_asB ?_ | refine s_asA ?_ | refine s_asT ?_ | refine s_asM ?_ | refine s_asU ?_ | refine s_asC ?_ | refine s_sm ?_ | refine s_req (by first | rfl | exact ⟨rfl, rfl⟩) ?_ | refine h_ldI H (by repeat (first | exact pick_head | apply pick_tail | apply pick_app)) (by first | rfl | (simp; done)) ?_ | refine h_ldB H (by repeat (first | exact pick_head | apply pick_tail | apply pick_app)) (by first | rfl | (simp; done)) ?_ | refine h_ldP H (by repeat (first | exact pick_head | apply pick_tail | apply pick_app)) (by first | rfl | (simp; done)) ?_ | refine h_ldS H (by repeat (first | exact pick_head | apply pick_tail | apply pick_app)) (by first | rfl | (simp; done)) ?_ | refine h_ldM H (by repeat (first | exact pick_head | apply pick_tail | apply pick_app)) (by first | rfl | (simp; done)) ?_ | refine h_ldT H (by repeat (first | exact pick_head | apply pick_tail | apply pick_app)) (by first | rfl | (simp; done)) ?_ | refine h_ldV H (by repeat (first | exact pick_head | apply pick_tail | apply pick_app)) (by first | rfl | (simp; done)) ?_ | (refine h_st H (by repeat (first | exact pick_head | apply pick_tail | apply pick_app)) (by simp) rfl fun u H => ?_) | (refine h_drew H fun u H => ?_) | refine s_chk c_nil ?_))
  refine s_call (new_c n self len) ?_
  rintro _ u ⟨f, ⟨hn, rfl⟩ | ⟨hn, r, hr, hc, rfl⟩⟩
  · have H := H.fr0 f
    refine ⟨_, rfl, ?_⟩
    (repeat (first | refine s_asI ?_ | refine s_asS ?_ | refine s_asP ?_ | refine s_asB ?_ | refine s_asA ?_ | refine s_asT ?_ | refine s_asM ?_ | refine s_asU ?_ | refine s_asC ?_ | refine s_sm ?_ | refine s_req (by first | rfl | exact ⟨rfl, rfl⟩) ?_ | refine h_ldI H (by repeat (first | exact pick_head | apply pick_tail | apply pick_app)) (by first | rfl | (simp; done)) ?_ | refine h_ldB H (by repeat (first | exact pick_head | apply pick_tail | apply pick_app)) (by first | rfl | (simp; done)) ?_ | refine h_ldP H (by repeat (first | exact pick_head | apply pick_tail | apply pick_app)) (by first | rfl | (simp; done)) ?_ | refine h_ldS H (by repeat (first | exact pick_head | apply pick_tail | apply pick_app)) (by first | rfl | (simp; done)) ?_ | refine h_ldM H (by repeat (first | exact pick_head | apply pick_tail | apply pick_app)) (by first | rfl | (simp; done)) ?_ | refine h_ldT H (by repeat (first | exact pick_head | apply pick_tail | apply pick_app)) (by first | rfl | (simp; done)) ?_ | refine h_ldV H (by repeat (first | exact pick_head | apply pick_tail | apply pick_app)) (by first | rfl | (simp; done)) ?_ | (refine h_st H (by repeat (first | exact pick_head | apply pick_tail | apply pick_app)) (by simp) rfl fun u H => ?_) | (refine h_drew H fun u H => ?_) | refine s_chk c_nil ?_))
    refine s_call (new_c n self len) ?_
    rintro _ u ⟨f, hor⟩
    obtain ⟨_, rfl⟩ := hor.resolve_right (fun h => hn h.1)
    have H := H.fr0 f
    refine ⟨_, rfl, ?_⟩
    (repeat (first | refine s_asI ?_ | refine s_asS ?_ | refine s_asP ?_ | refine s_asB ?_ | refine s_asA ?_ | refine s_asT ?_ | refine s_asM ?_ | refine s_asU ?_ | refine s_asC ?_ | refine s_sm ?_ | refine s_req (by first | rfl | exact ⟨rfl, rfl⟩) ?_ | refine h_ldI H (by repeat (first | exact pick_head | apply pick_tail | apply pick_app)) (by first | rfl | (simp; done)) ?_ | refine h_ldB H (by repeat (first | exact pick_head | apply pick_tail | apply pick_app)) (by first | rfl | (simp; done)) ?_ | refine h_ldP H (by repeat (first | exact pick_head | apply pick_tail | apply pick_app)) (by first | rfl | (simp; done)) ?_ | refine h_ldS H (by repeat (first | exact pick_head | apply pick_tail | apply pick_app)) (by first | rfl | (simp; done)) ?_ | refine h_ldM H (by repeat (first | exact pick_head | apply pick_tail | apply pick_app)) (by first | rfl | (simp; done)) ?_ | refine h_ldT H (by repeat (first | exact pick_head | apply pick_tail | apply pick_app)) (by first | rfl | (simp; done)) ?_ | refine h_ldV H (by repeat (first | exact pick_head | apply pick_tail | apply pick_app)) (by first | rfl | (simp; done)) ?_ | (refine h_st H (by repeat (first | exact pick_head | apply pick_tail | apply pick_app)) (by simp) rfl fun u H => ?_) | (refine h_drew H fun u H => ?_) | refine s_chk c_nil ?_))
    refine s_call begun_c ?_
    rintro _ u ⟨rfl, f⟩
    exact ⟨_, rfl, s_asB (s_false rfl (s_false rfl (s_true rfl (s_true rfl (s_ret ⟨rfl, (H.fr0 f).base⟩)))))⟩
  · have H := H.addc f hr hc
    refine ⟨_, rfl, ?_⟩
    (repeat (first | refine s_asI ?_ | refine s_asS ?_ | refine s_asP ?_ | refine s_asB ?_ | refine s_asA ?_ | refine s_asT ?_ | refine s_asM ?_ | refine s_asU ?_ | refine s_asC ?_ | refine s_sm ?_ | refine s_req (by first | rfl | exact ⟨rfl, rfl⟩) ?_ | refine h_ldI H (by repeat (first | exact pick_head | apply pick_tail | apply pick_app)) (by first | rfl | (simp; done)) ?_ | refine h_ldB H (by repeat (first | exact pick_head | apply pick_tail | apply pick_app)) (by first | rfl | (simp; done)) ?_ | refine h_ldP H (by repeat (first | exact pick_head | apply pick_tail | apply pick_app)) (by first | rfl | (simp; done)) ?_ | refine h_ldS H (by repeat (first | exact pick_head | apply pick_tail | apply pick_app)) (by first | rfl | (simp; done)) ?_ | refine h_ldM H (by repeat (first | exact pick_head | apply pick_tail | apply pick_app)) (by first | rfl | (simp; done)) ?_ | refine h_ldT H (by repeat (first | exact pick_head | apply pick_tail | apply pick_app)) (by first | rfl | (simp; done)) ?_ | refine h_ldV H (by repeat (first | exact pick_head | apply pick_tail | apply pick_app)) (by first | rfl | (simp; done)) ?_ | (refine h_st H (by repeat (first | exact pick_head | apply pick_tail | apply pick_app)) (by simp) rfl fun u H => ?_) | (refine h_drew H fun u H => ?_) | refine s_chk c_nil ?_))
    refine s_call (new_c n self len) ?_
    rintro _ u ⟨f, ⟨hn', _⟩ | ⟨_, q, hq, hc, rfl⟩⟩
    · exact absurd hn hn'
    have H := H.addc f hq hc
    refine ⟨_, rfl, ?_⟩
    (repeat (first | refine s_asI ?_ | refine s_asS ?_ | refine s_asP ?_ | refine s_asB ?_ | refine s_asA ?_ | refine s_asT ?_ | refine s_asM ?_ | refine s_asU ?_ | refine s_asC ?_ | refine s_sm ?_ | refine s_req (by first | rfl | exact ⟨rfl, rfl⟩) ?_ | refine h_ldI H (by repeat (first | exact pick_head | apply pick_tail | apply pick_app)) (by first | rfl | (simp; done)) ?_ | refine h_ldB H (by repeat (first | exact pick_head | apply pick_tail | apply pick_app)) (by first | rfl | (simp; done)) ?_ | refine h_ldP H (by repeat (first | exact pick_head | apply pick_tail | apply pick_app)) (by first | rfl | (simp; done)) ?_ | refine h_ldS H (by repeat (first | exact pick_head | apply pick_tail | apply pick_app)) (by first | rfl | (simp; done)) ?_ | refine h_ldM H (by repeat (first | exact pick_head | apply pick_tail | apply pick_app)) (by first | rfl | (simp; done)) ?_ | refine h_ldT H (by repeat (first | exact pick_head | apply pick_tail | apply pick_app)) (by first | rfl | (simp; done)) ?_ | refine h_ldV H (by repeat (first | exact pick_head | apply pick_tail | apply pick_app)) (by first | rfl | (simp; done)) ?_ | (refine h_st H (by repeat (first | exact pick_head | apply pick_tail | apply pick_app)) (by simp) rfl fun u H => ?_) | (refine h_drew H fun u H => ?_) | refine s_chk c_nil ?_))
    refine s_call begun_c ?_
    rintro _ u ⟨rfl, f⟩
    have H := H.fr0 f
    refine ⟨_, rfl, s_asB (s_false rfl (s_false rfl (s_false rfl ?_)))⟩
    have hs0 := newS_ok hn
    have happ : ∀ {k : Value → T} {Q : Ending → World → Prop} {ρ : Lv}, (∀ v' c' u, OwnC 31 3 v' ops.length (ops.map opRow).flatten c' → Has w u (c' ++ cl q 46 (pm (newS n self len)) :: cl r 46 (pm (newS n self len)) :: cl r9 23 [.int .i64 n, .int .i64 self] :: []) → (k v').sem Try.prog Q ρ u) →
        (T.run (biV .append #[24, 24] 24 #[.slice none 0 0, .slice o ops.length cap]) k).sem Try.prog Q ρ u := by
      intro k Q ρ hk
      rcases hrows with hnil | ⟨g, off, rfl, _, hcell⟩
      · obtain rfl : ops = [] := by simpa using hnil
        cases o with
        | none => exact h_appNil elem24 H cut_nil OwnC.nil (hk _ _ _ OwnC.nil H)
        | some a => exact h_app elem24 H cut_nil OwnC.nil (j := 0) (news := []) rfl (by intro j u h; simp at h) (by simp) (by omega) (by omega) fun v' c' u h1 h2 _ => hk v' c' u h1 h2
      · refine h_app elem24 H cut_nil OwnC.nil (j := ops.length) (news := (ops.map opRow).flatten) ?_ ?_ ?_ (by omega) (by omega) fun v' c' u h1 h2 _ => hk v' c' u (by simpa using h1) h2
        · rw [flat_len (opRows3 ops), List.length_map]
        · intro j u hj
          rw [add_plain]
          refine H.cell0 ?_
          have hjl := (List.getElem?_eq_some_iff.1 hj).1
          rw [flat_len (opRows3 ops), List.length_map] at hjl
          have h3 : j / 3 < ops.length := by omega
          have hm : (opRow ops[j / 3])[j % 3]? = some ((opRow ops[j / 3])[j % 3]'(by show _ < 3; omega)) := List.getElem?_eq_getElem _
          have := flat_get (opRows3 ops) (i := j / 3) (j := j % 3) (by simp [h3]) hm
          rw [show j / 3 * 3 + j % 3 = j by omega, hj] at this
          cases this
          have := hcell (j / 3) (opRow ops[j / 3]) (by simp [h3]) (j % 3) _ hm
          rwa [show off + j / 3 * 3 + j % 3 = off + j by omega] at this
        · intro u hu
          obtain ⟨r, hr, hu⟩ := List.mem_flatten.1 hu
          obtain ⟨p, _, rfl⟩ := List.mem_map.1 hr
          simp [opRow] at hu
          rcases hu with rfl | rfl | rfl <;> rfl
    refine happ fun v' c u ho H => ?_
    obtain ⟨o', cap', rfl⟩ := ho.slice
    refine s_asS ?_
    -- the turns
    refine s_loop (fun vs W => ∃ (i : Nat) (l : List Opn) (c : Hp), vs = [.int .i64 i] ∧ i ≤ ops.length ∧ l.Perm ops ∧ OwnC 31 3 (.slice o' ops.length cap') ops.length (l.map opRow).flatten c ∧
        Has w W (c ++ cl q 46 (pm (newS n self len)) :: cl r 46 (pm (newS n self len)) :: cl r9 23 [.int .i64 n, .int .i64 self] :: []))
      (fun vs _ => ops.length - (intOf (vs.getD 0 undef)).toNat) ⟨0, ops, c, rfl, by omega, List.Perm.refl _, ho, H⟩ ?_
    rintro _ j W ⟨i, l, c, rfl, hi, hp, ho, H⟩
    have hll := hp.length_eq
    refine s_asI (s_ite (fun g => ?_) (fun g => ?_))
    · simp only [decide_eq_true_eq] at g
      have hw : IntKind.wrap .i64 ((i : Int) + 1) = ((i + 1 : Nat) : Int) := by rw [wrap64 (by omega) (by omega)]; rfl
      refine s_ite (fun g2 => ?_) (fun g2 => ?_)
      · simp only [decide_eq_true_eq] at g2
        have hti : i < turn.length := by omega
        obtain ⟨gt, offt, rfl, _, hct⟩ := (H.rows htrows).at (j := i) (r := turnRow turn[i]) (by rw [List.getElem?_map, List.getElem?_eq_getElem hti]; rfl)
        have hx := hturn turn[i] (List.getElem_mem _)
        have hwx : IntKind.wrap .i64 turn[i] = turn[i] := wrap64 (by omega) (by omega)
        have hm1 : 0 ≤ Int.tmod turn[i] (ops.length : Int) := Int.tmod_nonneg _ hx.1
        have hm2 : Int.tmod turn[i] (ops.length : Int) < (ops.length : Int) := Int.tmod_lt_of_pos _ (by omega)
        refine s_req (by omega) (s_sm (s_loadI (n := turn[i]) (hct 0 _ rfl) (s_req (by omega) (h_drew H fun u H => ?_))))
        rw [hwx]
        generalize Int.tmod turn[i] (ops.length : Int) = m at hm1 hm2 ⊢
        obtain ⟨k, rfl⟩ := Int.eq_ofNat_of_zero_le hm1
        obtain ⟨g, cap2, sp, hv, rfl, _⟩ := ho.pos (by omega)
        cases hv
        have hik : l[i]? = some l[i] := List.getElem?_eq_getElem (by omega)
        have hkk : l[k]? = some l[k] := List.getElem?_eq_getElem (by omega)
        have hfl : ((l.map opRow).flatten ++ sp).length = l.length * 3 + sp.length := by rw [List.length_append, flat_len (opRows3 l), List.length_map]
        simp only [Int.toNat_natCast, Nat.zero_add]
        refine s_req ⟨by omega, by omega⟩ (s_sm ?_)
        simp only [Nat.zero_add]
        refine h_ldI H (by repeat (first | exact pick_head | apply pick_tail | apply pick_app)) (n := l[k].d) (opc_get (j := 0) hkk rfl) (h_ldI H (by repeat (first | exact pick_head | apply pick_tail | apply pick_app)) (n := l[k].who) (opc_get (j := 1) hkk rfl) (h_ldI H (by repeat (first | exact pick_head | apply pick_tail | apply pick_app)) (n := l[k].slot) (opc_get (j := 2) hkk rfl) ?_))
        refine s_req ⟨by omega, by omega⟩ (s_sm ?_)
        simp only [Nat.zero_add]
        refine h_ldI H (by repeat (first | exact pick_head | apply pick_tail | apply pick_app)) (n := l[i].d) (opc_get (j := 0) hik rfl) (h_ldI H (by repeat (first | exact pick_head | apply pick_tail | apply pick_app)) (n := l[i].who) (opc_get (j := 1) hik rfl) (h_ldI H (by repeat (first | exact pick_head | apply pick_tail | apply pick_app)) (n := l[i].slot) (opc_get (j := 2) hik rfl) ?_))
        refine s_req ⟨by omega, by omega⟩ (s_sm ?_)
        simp only [Nat.zero_add]
        refine h_st H (by repeat (first | exact pick_head | apply pick_tail | apply pick_app)) (by rw [hfl]; omega) rfl fun u H => h_st H (by repeat (first | exact pick_head | apply pick_tail | apply pick_app)) (by simp only [List.length_set]; rw [hfl]; omega) rfl fun u H => h_st H (by repeat (first | exact pick_head | apply pick_tail | apply pick_app)) (by simp only [List.length_set]; rw [hfl]; omega) rfl fun u H => s_chk c_nil ?_
        rw [opc_set hik] at H
        have hkk2 : (l.set i l[k])[k]? = some l[k] := by
          rw [List.getElem?_set]
          split
          · rw [if_pos (by omega)]
          · exact hkk
        have hfl2 : (((l.set i l[k]).map opRow).flatten ++ sp).length = l.length * 3 + sp.length := by rw [List.length_append, flat_len (opRows3 _), List.length_map, List.length_set]
        refine s_req ⟨by omega, by omega⟩ (s_sm ?_)
        simp only [Nat.zero_add]
        refine h_st H (by repeat (first | exact pick_head | apply pick_tail | apply pick_app)) (by rw [hfl2]; omega) rfl fun u H => h_st H (by repeat (first | exact pick_head | apply pick_tail | apply pick_app)) (by simp only [List.length_set]; rw [hfl2]; omega) rfl fun u H => h_st H (by repeat (first | exact pick_head | apply pick_tail | apply pick_app)) (by simp only [List.length_set]; rw [hfl2]; omega) rfl fun u H => s_chk c_nil (s_next (by first | exact ⟨rfl, rfl⟩ | trivial) ?_)
        rw [opc_set hkk2] at H
        simp only [if_true]
        refine ⟨⟨i + 1, (l.set i l[k]).set k l[i], _, by rw [hw], by omega, (swap_perm' hik hkk).trans hp, ⟨?_, .inr ⟨g, cap', sp, rfl, rfl, by omega, by omega, ?_⟩⟩, H⟩, by rw [hw]; simp [intOf]; omega⟩
        · rw [flat_len (opRows3 _)]; simp [hll]
        · rw [List.length_append, flat_len (opRows3 _)]; simp; omega
      · refine s_next (by first | exact ⟨rfl, rfl⟩ | trivial) ?_
        simp only [if_true]
        exact ⟨⟨i + 1, l, c, by rw [hw], by omega, hp, ho, H⟩, by rw [hw]; simp [intOf]; omega⟩
    · -- told in both orders
      refine s_loop (fun vs W => ∃ (i : Nat), vs = [.int .i64 i] ∧ i ≤ ops.length ∧
          Has w W (c ++ cl q 46 (pm ((l.take i).foldl tellO (newS n self len))) :: cl r 46 (pm ((ops.take i).foldl tellO (newS n self len))) :: cl r9 23 [.int .i64 n, .int .i64 self] :: []))
        (fun vs _ => ops.length - (intOf (vs.getD 0 undef)).toNat) ⟨0, rfl, by omega, H⟩ ?_
      rintro _ j W ⟨i, rfl, hi, H⟩
      refine s_asI (s_ite (fun g => ?_) (fun g => ?_))
      · simp only [decide_eq_true_eq] at g
        have hw : IntKind.wrap .i64 ((i : Int) + 1) = ((i + 1 : Nat) : Int) := by rw [wrap64 (by omega) (by omega)]; rfl
        obtain ⟨gb, off, rfl, q1, q2, q3⟩ := op_at hrows (i := i) (by omega)
        obtain ⟨g, cap2, sp, hv, rfl, _⟩ := ho.pos (by omega)
        cases hv
        have hsa := fold_ok (ops.take i) hs0
        have hsb := fold_ok (l.take i) hs0
        have hik : l[i]? = some l[i] := List.getElem?_eq_getElem (by omega)
        have hia : ops[i]? = some ops[i] := List.getElem?_eq_getElem (by omega)
        refine h_drew H fun u H => s_req (by omega) (s_sm (s_loadI (H.cell0 q2) (s_req (by omega) (s_sm (s_loadI (H.cell0 q1) (s_req (by omega) (s_sm (s_loadI (H.cell0 q3) ?_))))))))
        refine s_call (told_c (H.cells (by repeat (first | exact pick_head | apply pick_tail | apply pick_app))) hsa _ _ _) ?_
        rintro _ u ⟨⟨gw, er, rfl, _⟩, f, hc⟩
        have H := H.updc (by repeat (first | exact pick_head | apply pick_tail | apply pick_app)) f hc
        refine ⟨_, rfl, ?_⟩
        (repeat (first | refine s_asI ?_ | refine s_asS ?_ | refine s_asP ?_ | refine s_asB ?_ | refine s_asA ?_ | refine s_asT ?_ | refine s_asM ?_ | refine s_asU ?_ | refine s_asC ?_ | refine s_sm ?_ | refine s_req (by first | rfl | exact ⟨rfl, rfl⟩) ?_ | refine h_ldI H (by repeat (first | exact pick_head | apply pick_tail | apply pick_app)) (by first | rfl | (simp; done)) ?_ | refine h_ldB H (by repeat (first | exact pick_head | apply pick_tail | apply pick_app)) (by first | rfl | (simp; done)) ?_ | refine h_ldP H (by repeat (first | exact pick_head | apply pick_tail | apply pick_app)) (by first | rfl | (simp; done)) ?_ | refine h_ldS H (by repeat (first | exact pick_head | apply pick_tail | apply pick_app)) (by first | rfl | (simp; done)) ?_ | refine h_ldM H (by repeat (first | exact pick_head | apply pick_tail | apply pick_app)) (by first | rfl | (simp; done)) ?_ | refine h_ldT H (by repeat (first | exact pick_head | apply pick_tail | apply pick_app)) (by first | rfl | (simp; done)) ?_ | refine h_ldV H (by repeat (first | exact pick_head | apply pick_tail | apply pick_app)) (by first | rfl | (simp; done)) ?_ | (refine h_st H (by repeat (first | exact pick_head | apply pick_tail | apply pick_app)) (by simp) rfl fun u H => ?_) | (refine h_drew H fun u H => ?_) | refine s_chk c_nil ?_))
        refine s_chk ⟨H.cell0 q1, c_nil⟩ (h_drew H fun u H => ?_)
        simp only [Int.toNat_natCast, Nat.zero_add]
        refine s_req ⟨by omega, by omega⟩ (s_sm ?_)
        simp only [Nat.zero_add]
        refine h_ldI H (by repeat (first | exact pick_head | apply pick_tail | apply pick_app)) (n := l[i].who) (opc_get (j := 1) hik rfl) (s_req ⟨by omega, by omega⟩ (s_sm ?_))
        simp only [Nat.zero_add]
        refine h_ldI H (by repeat (first | exact pick_head | apply pick_tail | apply pick_app)) (n := l[i].d) (opc_get (j := 0) hik rfl) (s_req ⟨by omega, by omega⟩ (s_sm ?_))
        simp only [Nat.zero_add]
        refine h_ldI H (by repeat (first | exact pick_head | apply pick_tail | apply pick_app)) (n := l[i].slot) (opc_get (j := 2) hik rfl) ?_
        refine s_call (told_c (H.cells (by repeat (first | exact pick_head | apply pick_tail | apply pick_app))) hsb _ _ _) ?_
        rintro _ u ⟨⟨gw, er, rfl, _⟩, f, hc⟩
        have H := H.updc (by repeat (first | exact pick_head | apply pick_tail | apply pick_app)) f hc
        refine ⟨_, rfl, ?_⟩
        (repeat (first | refine s_asI ?_ | refine s_asS ?_ | refine s_asP ?_ | refine s_asB ?_ | refine s_asA ?_ | refine s_asT ?_ | refine s_asM ?_ | refine s_asU ?_ | refine s_asC ?_ | refine s_sm ?_ | refine s_req (by first | rfl | exact ⟨rfl, rfl⟩) ?_ | refine h_ldI H (by repeat (first | exact pick_head | apply pick_tail | apply pick_app)) (by first | rfl | (simp; done)) ?_ | refine h_ldB H (by repeat (first | exact pick_head | apply pick_tail | apply pick_app)) (by first | rfl | (simp; done)) ?_ | refine h_ldP H (by repeat (first | exact pick_head | apply pick_tail | apply pick_app)) (by first | rfl | (simp; done)) ?_ | refine h_ldS H (by repeat (first | exact pick_head | apply pick_tail | apply pick_app)) (by first | rfl | (simp; done)) ?_ | refine h_ldM H (by repeat (first | exact pick_head | apply pick_tail | apply pick_app)) (by first | rfl | (simp; done)) ?_ | refine h_ldT H (by repeat (first | exact pick_head | apply pick_tail | apply pick_app)) (by first | rfl | (simp; done)) ?_ | refine h_ldV H (by repeat (first | exact pick_head | apply pick_tail | apply pick_app)) (by first | rfl | (simp; done)) ?_ | (refine h_st H (by repeat (first | exact pick_head | apply pick_tail | apply pick_app)) (by simp) rfl fun u H => ?_) | (refine h_drew H fun u H => ?_) | refine s_chk c_nil ?_))
        refine s_chk (hc_cons H (by repeat (first | exact pick_head | apply pick_tail | apply pick_app)) (opc_get (j := 0) hik rfl) c_nil) (s_next (by first | exact ⟨rfl, rfl⟩ | trivial) ?_)
        simp only [if_true]
        refine ⟨⟨i + 1, by rw [hw], by omega, ?_⟩, by rw [hw]; simp [intOf]; omega⟩
        rw [List.take_add_one, List.take_add_one, hik, hia, Option.toList_some, Option.toList_some, List.foldl_append, List.foldl_append]
        exact H.sub (by repeat (first | exact sb_refl | exact sb_nil | refine sb_cons (by repeat (first | exact pick_head | apply pick_tail | apply pick_app)) ?_ | refine sb_app (by repeat (first | exact cut_head | exact cut_all | apply cut_tail | apply cut_app)) ?_ | exact sb_one (by repeat (first | exact cut_head | exact cut_all | apply cut_tail | apply cut_app))))
      · simp only [decide_eq_false_iff_not] at g
        have t1 : ops.take i = ops := List.take_of_length_le (by omega)
        have t2 : l.take i = l := List.take_of_length_le (by omega)
        rw [t1, t2] at H
        have hsa := fold_ok ops hs0
        have hsb := fold_ok l hs0
        obtain ⟨hal, hlk⟩ := fold_likes hs0 hp
        generalize ops.foldl tellO (newS n self len) = sa at *
        generalize l.foldl tellO (newS n self len) = sb at *
        refine h_ldI H (by repeat (first | exact pick_head | apply pick_tail | apply pick_app)) (n := n) rfl ?_
        refine s_loop (fun vs W => ∃ (k : Nat), vs = [.int .i64 k] ∧ (k : Int) ≤ n ∧ Has w W (c ++ cl q 46 (pm sb) :: cl r 46 (pm sa) :: cl r9 23 [.int .i64 n, .int .i64 self] :: []))
          (fun vs _ => n.toNat - (intOf (vs.getD 0 undef)).toNat) ⟨0, rfl, by have := hn.1; omega, H⟩ ?_
        rintro _ j W ⟨k, rfl, hk, H⟩
        have hn5 := hn.2.1
        refine s_asI (s_ite (fun g => ?_) (fun g => ?_))
        · simp only [decide_eq_true_eq] at g
          have hw : IntKind.wrap .i64 ((k : Int) + 1) = ((k + 1 : Nat) : Int) := by rw [wrap64 (by omega) (by omega)]; rfl
          refine s_call (like_c (H.cells (by repeat (first | exact pick_head | apply pick_tail | apply pick_app))) hsa k) ?_
          rintro _ u ⟨rfl, f⟩
          have H := H.fr0 f
          refine ⟨_, rfl, s_asI (s_call (like_c (H.cells (by repeat (first | exact pick_head | apply pick_tail | apply pick_app))) hsb k) ?_)⟩
          rintro _ u ⟨rfl, f⟩
          have H := H.fr0 f
          refine ⟨_, rfl, s_asI (s_false (by rw [hal]; simp) (s_next (by first | exact ⟨rfl, rfl⟩ | trivial) ?_))⟩
          simp only [if_true]
          exact ⟨⟨k + 1, by rw [hw], by omega, H⟩, by rw [hw]; simp [intOf]; omega⟩
        · refine s_call (agreed_c (H.cells (by repeat (first | exact pick_head | apply pick_tail | apply pick_app))) hsa) ?_
          rintro _ u ⟨va, rfl, hva, f⟩
          have H := H.fr0 f
          refine ⟨_, rfl, s_asI (s_call (agreed_c (H.cells (by repeat (first | exact pick_head | apply pick_tail | apply pick_app))) hsb) ?_)⟩
          rintro _ u ⟨vb, rfl, hvb, f⟩
          have H := H.fr0 f
          rw [hlk] at hvb
          obtain rfl := hva.inj hvb
          exact ⟨_, rfl, s_asI (s_ret ⟨by simp, H.base⟩)⟩
end Go.Proofs.Ytfgfabjbebdnjaa
