/- The known ones of a box. -/
import Derived.Test.YtpjcfnnnciknmaaGreatKnI
import Derived.Test.YtpjcfnnnciknmaaGreatRanges
import Derived.Test.YtpjcfnnnciknmaaGreatBegun
set_option linter.unusedVariables false
set_option linter.unusedSimpArgs false
set_option maxRecDepth 100000
set_option maxHeartbeats 4000000
namespace Go.Proofs.YtpjcfnnnciknmaaGreat.Ids
open Go hiding Expr
open Go.RowKit Tr

theorem nodup_le {α : Type} [DecidableEq α] : ∀ {a l : List α}, a.Nodup → (∀ x ∈ a, x ∈ l) → a.length ≤ l.length
  | [], _, _, _ => by simp
  | x :: r, l, hn, h => by
    obtain ⟨h1, h2⟩ := List.nodup_cons.1 hn
    have hx := h x (by simp)
    have := nodup_le (a := r) (l := l.erase x) h2 (fun y hy => (List.mem_erase_of_ne (fun e => by subst e; exact h1 hy)).2 (h y (by simp [hy])))
    rw [List.length_erase_of_mem hx] at this
    have hpos : 0 < l.length := List.length_pos_of_mem hx
    simp only [List.length_cons]
    omega

section
variable {w0 w : World} {o : Option Addr} {n cap : Nat} {l : List K} {c m : Hp}
theorem sortO_c (ho : OwnC 32 2 (.slice o n cap) l.length (enc l) c) (H : Has w0 w (c ++ m)) (hn : n = l.length) (hm : l.length < many) :
    Calls Tryz.prog 57 #[.slice o n cap, .func (.func 58) #[] #[]] w fun e w' => (∃ v, e = .returned v) ∧ ∃ c', OwnC 32 2 (.slice o n cap) l.length (enc (l.mergeSort leK)) c' ∧ Has w0 w' (c' ++ m) := by
  subst hn
  rcases ho.2 with ⟨hv, hl0, rfl⟩ | ⟨g, cap', sp, hv, rfl, h1, h2, h3⟩
  · obtain ⟨rfl, _, rfl⟩ : o = none ∧ l.length = 0 ∧ cap = 0 := by simpa using hv
    have hl : l = [] := List.eq_nil_of_length_eq_zero hl0
    subst hl
    refine Calls.mono (R := fun e w' => (∃ v, e = .returned v) ∧ w = w') ?_ (by
      rintro e _ ⟨hv, rfl⟩
      exact ⟨hv, [], by simpa using ho, H⟩)
    apply c57
    unfold t57
    refine s_call (R := fun e w' => (∃ lim : Int, e = .returned (.int .i64 lim)) ∧ w = w') ?_ ?_
    · exact len0_c
    · rintro _ _ ⟨⟨lim, rfl⟩, rfl⟩
      refine ⟨_, rfl, s_asI (s_call (R := fun e w' => (∃ v, e = .returned v) ∧ w = w') ?_ ?_)⟩
      · apply c82
        refine s_loop (fun vs W => w = W ∧ vs = [.int .i64 0, .int .i64 0, .int .i64 lim, .bool true, .bool true]) (fun _ _ => 0) ⟨rfl, rfl⟩ ?_
        rintro _ _ _ ⟨rfl, rfl⟩
        refine s_asI (s_asI (s_asI (s_asB (s_asB (s_true (by decide) (s_call (R := fun e w' => (∃ v, e = .returned v) ∧ w = w') ?_ ?_))))))
        · apply c93
          refine s_loop (fun vs W => w = W ∧ vs = [.int .i64 1]) (fun _ _ => 0) ⟨rfl, rfl⟩ ?_
          rintro _ _ _ ⟨rfl, rfl⟩
          exact s_asI (s_false (by decide) (s_ret ⟨⟨_, rfl⟩, rfl⟩))
        · rintro _ _ ⟨⟨v, rfl⟩, rfl⟩
          exact ⟨_, rfl, s_ret ⟨⟨_, rfl⟩, rfl⟩⟩
      · rintro _ _ ⟨⟨v, rfl⟩, rfl⟩
        exact ⟨_, rfl, s_ret ⟨⟨_, rfl⟩, rfl⟩⟩
  · cases hv
    refine (sort_c (ks := l) (H.cells pick_head) rfl hm).mono ?_
    rintro e u2 ⟨hv, f2, hc2⟩
    have H := H.updc pick_head f2 hc2
    have hlm : (l.mergeSort leK).length = l.length := List.length_mergeSort l
    exact ⟨hv, _, ⟨by rw [enc_len, hlm], .inr ⟨g, cap, sp, rfl, rfl, h1, h2, by rw [← h3, List.length_append, List.length_append, enc_len, enc_len, hlm]⟩⟩, H⟩
theorem compO_c (ho : OwnC 32 2 (.slice o n cap) l.length (enc l) c) (H : Has w0 w (c ++ m)) (hn : n = l.length) (hm : l.length < many) :
    Calls Tryz.prog 59 #[.slice o n cap] w fun e w' => ∃ v c', e = .returned v ∧ OwnC 32 2 v (compL none l).length (enc (compL none l)) c' ∧ Has w0 w' (c' ++ m) := by
  subst hn
  rcases ho.2 with ⟨hv, hl0, rfl⟩ | ⟨g, cap', sp, hv, rfl, h1, h2, h3⟩
  · obtain ⟨rfl, _, rfl⟩ : o = none ∧ l.length = 0 ∧ cap = 0 := by simpa using hv
    have hl : l = [] := List.eq_nil_of_length_eq_zero hl0
    subst hl
    apply c59
    exact s_true (by decide) (s_ret ⟨_, [], rfl, OwnC.nil, H⟩)
  · cases hv
    have hc3 : Cells w g 32 (KA l.toArray sp) := by unfold KA; exact H.cells pick_head
    refine (compact_c (cap := cap) hc3 rfl h3 h1 hm).mono ?_
    rintro e u3 ⟨sp', rfl, f3, hc4, hcap4⟩
    have H := H.updc pick_head f3 hc4
    refine ⟨_, _, rfl, ⟨enc_len _, .inr ⟨g, cap, sp', rfl, rfl, ?_, h2, hcap4⟩⟩, H⟩
    have := compL_len l none
    omega
end

def tell (k : K) : List Value := [.agg ⟨kr k⟩]
abbrev MapS (o : Obj) (D : List (K × SP)) : Prop := MapO Tryz.prog 32 kfI vS o D
def okD (D : List (K × SP)) (ys : List (List Value)) (av : List Value) : Prop := ∃ (ks : List K) (k : K) (rest : List K), ys = ks.map tell ∧ av = tell k ∧ (ks ++ k :: rest).Perm (D.map (·.1))
def finD (D : List (K × SP)) (ys : List (List Value)) : Prop := ∃ ks : List K, ys = ks.map tell ∧ ks.Perm (D.map (·.1))

theorem keys1_seq {p b : Nat} {o : Obj} {D : List (K × SP)} {ty : TypeId} (hM : MapS o D) :
    SeqL Tryz.prog 81 [.pointer (some ⟨p, 0, none⟩)] (fun W => Cells W p ty [.map (some b)] ∧ W.heap[b]? = some o) (okD D) (finD D) := by
  intro l w I S hh hK h0 hY
  apply c81
  obtain ⟨hc, hb⟩ := hK _ _ _ h0
  refine s_ldM hc rfl (s_mrange hb hM mapN fun w1 i hL f1 hi => ?_)
  have h1 := hh.add h0 f1 (Nat.le_refl _) hi
  generalize hr : w.heap.size = r at h1 hi
  refine s_asP (s_sm (s_req rfl ?_))
  refine s_loop (fun vs W => vs = [] ∧ ∃ (ks : List K) (L : List (K × SP)) (i : Obj), LeftO b kfI vS o i L ∧ (ks ++ L.map (·.1)).Perm (D.map (·.1)) ∧ I (ks.map tell) [(r, i)] W) (fun _ W => leftN W b r) ⟨rfl, [], D, i, hL, List.Perm.refl _, h1⟩ ?_
  rintro _ j W ⟨rfl, ks, L, i, hL, hP, hI⟩
  obtain ⟨_, hb⟩ := hK _ _ _ hI
  have hi := hh.get hI (p := (r, i)) (by simp)
  refine s_mnext hb hi hL (fun hnil => ?_) ?_
  · refine s_asU (s_true rfl (s_req rfl (s_false rfl (s_ret ⟨⟨_, rfl⟩, .inl ⟨_, _, ⟨ks, rfl, ?_⟩, hI⟩⟩))))
    subst hnil
    simpa using hP
  · intro q L' w2 i' hperm hL' hlast f2 hi'
    have hI2 := hh.upd hI f2 hi'
    obtain ⟨_, hb2⟩ := hK _ _ _ hI2
    have hlen := hL.num hb hi
    have hlen' : L.length = L'.length + 1 := by have := hperm.length_eq; simpa using this
    refine s_asU (s_false rfl (s_req ⟨rfl, rfl⟩ (s_asA (s_req rfl (s_asI (s_asI (s_asS (s_true rfl (s_mentry hb2 hi' hlast (s_asU (s_req rfl (s_asA (s_req rfl (s_asI (s_asI (s_asS ?_))))))))))))))))
    refine s_new fun n W1 hn hz f3 hcn => ?_
    refine s_st hcn (by simp) rfl fun W2 z2 f4 hcn => s_st hcn (by simp) rfl fun W3 z3 f5 hcn => s_ldI hcn rfl (s_ldI hcn rfl ?_)
    have fN : Fr [] w2 W3 := f3.trans' (f4.trans f5) (fun x hx => by simp at hx; exact .inr (by omega))
    have hP2 : (ks ++ q.1 :: L'.map (·.1)).Perm (D.map (·.1)) := (List.Perm.append_left ks (hperm.map (fun p : K × SP => p.1)).symm).trans hP
    refine (hY _ _ W3 _ (hh.fr hI2 fN) ⟨ks, q.1, L'.map (·.1), rfl, rfl, hP2⟩).mono ?_
    rintro _ W' ⟨v, rfl, ⟨rfl, hI'⟩ | ⟨rfl, hS⟩⟩
    · refine ⟨_, rfl, s_asB (s_false rfl (s_next (by first | exact ⟨rfl, rfl⟩ | trivial) ?_))⟩
      simp only [if_true]
      have hg := hh.get hI' (p := (r, i')) (by simp)
      obtain ⟨_, hb3⟩ := hK _ _ _ hI'
      refine ⟨⟨trivial, ks ++ [q.1], L', i', hL', by simpa using hP2, by simpa using hI'⟩, ?_⟩
      rw [hL'.num hb3 hg, hlen]
      omega
    · exact ⟨_, rfl, s_asB (s_true rfl (s_ret ⟨⟨_, rfl⟩, .inr hS⟩))⟩

theorem appseq_c {w : World} {p b : Nat} {o : Obj} {D : List (K × SP)} {ty : TypeId} (hM : MapS o D) (hc : Cells w p ty [.map (some b)]) (hb : w.heap[b]? = some o) (hsz : D.length * 16 ≤ 140737488355328) :
    Calls Tryz.prog 80 #[.slice none 0 0, .func (.func 81) #[] #[.pointer (some ⟨p, 0, none⟩)]] w fun e w' =>
      ∃ (ks : List K) (v : Value) (c : Hp), e = .returned v ∧ ks.Perm (D.map (·.1)) ∧ OwnC 32 2 v ks.length (enc ks) c ∧ Has w w' c := by
  have hi : ∀ a b : K, tell a = tell b → a = b := fun a b e => kfI_inj (by simpa [tell] using e)
  apply c80
  refine h_new (Has.init w) fun n5 u H => ?_
  refine h_rfL (keys1_seq (p := p) (b := b) (ty := ty) hM) H (fun ys mi => ∃ (ks : List K) (v : Value) (c : Hp), ys = ks.map tell ∧ OwnC 32 2 v ks.length (enc ks) c ∧ mi = cl n5 89 [v] :: c) (fun _ => False)
    ⟨[], _, [], rfl, OwnC.nil, rfl⟩ ?_ ?_ ?_ (fun _ _ _ h => h.elim)
  · rintro ys mi W ⟨ks, v, c, rfl, ho, rfl⟩ H
    exact ⟨H.base.cells hc (by simp), by rw [H.base.block b (Array.getElem?_eq_some_iff.1 hb).1 (by simp)]; exact hb⟩
  · rintro l rec d Z ys W av mi hrs hrp ⟨ks', k, rest, hks, rfl, hP⟩ ⟨ks, v, c, rfl, ho, rfl⟩ H
    obtain rfl : ks = ks' := List.map_inj_right hi |>.1 hks
    have hlen : ks.length + 1 ≤ D.length := by
      have := hP.length_eq
      simp at this
      omega
    obtain ⟨ov, cap, rfl⟩ := ho.slice
    refine s_req rfl (s_asA (s_req rfl (s_asI (s_asI ?_))))
    (refine h_new H fun n11 u H => ?_)
    (repeat (first | refine s_asI ?_ | refine s_asS ?_ | refine s_asP ?_ | refine s_asB ?_ | refine s_asA ?_ | refine s_asT ?_ | refine s_asM ?_ | refine s_asU ?_ | refine s_asC ?_ | refine s_sm ?_ | refine s_req (by first | rfl | exact ⟨rfl, rfl⟩) ?_ | refine h_ldI H (by repeat (first | exact pick_head | apply pick_tail | apply pick_app)) (by first | rfl | (simp; done)) ?_ | refine h_ldB H (by repeat (first | exact pick_head | apply pick_tail | apply pick_app)) (by first | rfl | (simp; done)) ?_ | refine h_ldP H (by repeat (first | exact pick_head | apply pick_tail | apply pick_app)) (by first | rfl | (simp; done)) ?_ | refine h_ldS H (by repeat (first | exact pick_head | apply pick_tail | apply pick_app)) (by first | rfl | (simp; done)) ?_ | refine h_ldM H (by repeat (first | exact pick_head | apply pick_tail | apply pick_app)) (by first | rfl | (simp; done)) ?_ | refine h_ldT H (by repeat (first | exact pick_head | apply pick_tail | apply pick_app)) (by first | rfl | (simp; done)) ?_ | refine h_ldV H (by repeat (first | exact pick_head | apply pick_tail | apply pick_app)) (by first | rfl | (simp; done)) ?_ | (refine h_st H (by repeat (first | exact pick_head | apply pick_tail | apply pick_app)) (by first | (simp; done) | exact Nat.le_of_ble_eq_true rfl) rfl fun u H => ?_) | (refine h_drew H fun u H => ?_) | refine s_chk c_nil ?_))
    refine h_beg H (by repeat (first | exact pick_head | apply pick_tail | apply pick_app)) hrs fun w H => ?_
    (repeat (first | refine s_asI ?_ | refine s_asS ?_ | refine s_asP ?_ | refine s_asB ?_ | refine s_asA ?_ | refine s_asT ?_ | refine s_asM ?_ | refine s_asU ?_ | refine s_asC ?_ | refine s_sm ?_ | refine s_req (by first | rfl | exact ⟨rfl, rfl⟩) ?_ | refine h_ldI H (by repeat (first | exact pick_head | apply pick_tail | apply pick_app)) (by first | rfl | (simp; done)) ?_ | refine h_ldB H (by repeat (first | exact pick_head | apply pick_tail | apply pick_app)) (by first | rfl | (simp; done)) ?_ | refine h_ldP H (by repeat (first | exact pick_head | apply pick_tail | apply pick_app)) (by first | rfl | (simp; done)) ?_ | refine h_ldS H (by repeat (first | exact pick_head | apply pick_tail | apply pick_app)) (by first | rfl | (simp; done)) ?_ | refine h_ldM H (by repeat (first | exact pick_head | apply pick_tail | apply pick_app)) (by first | rfl | (simp; done)) ?_ | refine h_ldT H (by repeat (first | exact pick_head | apply pick_tail | apply pick_app)) (by first | rfl | (simp; done)) ?_ | refine h_ldV H (by repeat (first | exact pick_head | apply pick_tail | apply pick_app)) (by first | rfl | (simp; done)) ?_ | (refine h_st H (by repeat (first | exact pick_head | apply pick_tail | apply pick_app)) (by first | (simp; done) | exact Nat.le_of_ble_eq_true rfl) rfl fun u H => ?_) | (refine h_drew H fun u H => ?_) | refine s_chk c_nil ?_))
    (refine h_new H fun n17 u H => ?_)
    refine h_app1 elemK H (by repeat (first | exact cut_head | exact cut_all | apply cut_tail | apply cut_app)) ho (by repeat (first | exact pick_head | apply pick_tail | apply pick_app)) rfl (by intro u hu; simp at hu; rcases hu with rfl | rfl <;> rfl) (by omega) (by omega) ?_
    intro v' c' w ho' H
    obtain ⟨o', cap', rfl⟩ := ho'.slice
    (repeat (first | refine s_asI ?_ | refine s_asS ?_ | refine s_asP ?_ | refine s_asB ?_ | refine s_asA ?_ | refine s_asT ?_ | refine s_asM ?_ | refine s_asU ?_ | refine s_asC ?_ | refine s_sm ?_ | refine s_req (by first | rfl | exact ⟨rfl, rfl⟩) ?_ | refine h_ldI H (by repeat (first | exact pick_head | apply pick_tail | apply pick_app)) (by first | rfl | (simp; done)) ?_ | refine h_ldB H (by repeat (first | exact pick_head | apply pick_tail | apply pick_app)) (by first | rfl | (simp; done)) ?_ | refine h_ldP H (by repeat (first | exact pick_head | apply pick_tail | apply pick_app)) (by first | rfl | (simp; done)) ?_ | refine h_ldS H (by repeat (first | exact pick_head | apply pick_tail | apply pick_app)) (by first | rfl | (simp; done)) ?_ | refine h_ldM H (by repeat (first | exact pick_head | apply pick_tail | apply pick_app)) (by first | rfl | (simp; done)) ?_ | refine h_ldT H (by repeat (first | exact pick_head | apply pick_tail | apply pick_app)) (by first | rfl | (simp; done)) ?_ | refine h_ldV H (by repeat (first | exact pick_head | apply pick_tail | apply pick_app)) (by first | rfl | (simp; done)) ?_ | (refine h_st H (by repeat (first | exact pick_head | apply pick_tail | apply pick_app)) (by first | (simp; done) | exact Nat.le_of_ble_eq_true rfl) rfl fun u H => ?_) | (refine h_drew H fun u H => ?_) | refine s_chk c_nil ?_))
    refine h_cont H (by repeat (first | exact pick_head | apply pick_tail | apply pick_app)) hrs hrp fun w H => s_next trivial ?_
    simp only [if_true]
    refine .inl ⟨rfl, _, ⟨ks ++ [k], _, c', by simp, ?_, rfl⟩, H.sub (by repeat (first | exact sb_refl | exact sb_nil | refine sb_cons (by repeat (first | exact pick_head | apply pick_tail | apply pick_app)) ?_ | refine sb_app (by repeat (first | exact cut_head | exact cut_all | apply cut_tail | apply cut_app)) ?_ | exact sb_one (by repeat (first | exact cut_head | exact cut_all | apply cut_tail | apply cut_app))))⟩
    rw [enc_append, List.length_append]
    exact ho'
  · rintro D' W ys mi ⟨ks', hks', hP⟩ ⟨ks, v, c, rfl, ho, rfl⟩ H
    obtain rfl : ks = ks' := List.map_inj_right hi |>.1 hks'
    obtain ⟨ov, cap, rfl⟩ := ho.slice
    refine h_ldS H (by repeat (first | exact pick_head | apply pick_tail | apply pick_app)) rfl (h_col H (by repeat (first | exact pick_head | apply pick_tail | apply pick_app)) fun w H => s_ret ⟨ks, _, c, rfl, hP, ho, H.sub (by repeat (first | exact sb_refl | exact sb_nil | refine sb_cons (by repeat (first | exact pick_head | apply pick_tail | apply pick_app)) ?_ | refine sb_app (by repeat (first | exact cut_head | exact cut_all | apply cut_tail | apply cut_app)) ?_ | exact sb_one (by repeat (first | exact cut_head | exact cut_all | apply cut_tail | apply cut_app))))⟩)

theorem collect_c {w : World} {p b : Nat} {o : Obj} {D : List (K × SP)} {ty : TypeId} (hM : MapS o D) (hc : Cells w p ty [.map (some b)]) (hb : w.heap[b]? = some o) (hsz : D.length * 16 ≤ 140737488355328) :
    Calls Tryz.prog 55 #[.func (.func 81) #[] #[.pointer (some ⟨p, 0, none⟩)]] w fun e w' =>
      ∃ (ks : List K) (v : Value) (c : Hp), e = .returned v ∧ ks.Perm (D.map (·.1)) ∧ OwnC 32 2 v ks.length (enc ks) c ∧ Has w w' c := by
  apply c55
  refine s_call (appseq_c hM hc hb hsz) ?_
  rintro _ u ⟨ks, v, c, rfl, hP, ho, H⟩
  obtain ⟨ov, cap, rfl⟩ := ho.slice
  exact ⟨_, rfl, s_asS (s_ret ⟨ks, _, c, rfl, hP, ho, H⟩)⟩

/-- How many keys a box may have. -/
def BxN (X : BX) : Prop := ∃ (a : List Ix) (b : List Fx), (∀ t, (X.needs t).isSome = true → t ∈ a) ∧ (∀ k, (X.came k).isSome = true → k ∈ b) ∧ (a.length + b.length) * 16 ≤ 140737488355328
/-- The known ones, rising. -/
def KnOf (X : BX) (l : List K) : Prop := Rising l ∧ ∀ t, t ∈ l ↔ ((X.needs t).isSome = true ∨ ∃ n, (X.came (t, n)).isSome = true)
theorem KnOf.uniq {X : BX} {a b : List K} (ha : KnOf X a) (hb : KnOf X b) : a = b := rising_ext ha.1 hb.1 fun t => (ha.2 t).trans (hb.2 t).symm

theorem known_c {w : World} {p : Nat} {X : BX} (h : BoxW w p X) (hz : BxN X) : Calls Tryz.prog 40 #[.pointer (some ⟨p, 0, none⟩)] w fun e w' =>
    ∃ (l : List K) (v : Value) (c : Hp), KnOf X l ∧ e = .returned v ∧ OwnC 32 2 v l.length (enc l) c ∧ Has w w' c ∧ l.length * 16 ≤ 140737488355328 := by
  obtain ⟨c, ⟨bn, bc, on, oc, cn, cc, rfl, hn, hc, hok⟩, HL0⟩ := h
  obtain ⟨D, cs, _, hM, hE⟩ := hn
  obtain ⟨D2, cs2, _, hM2, hE2⟩ := hc
  obtain ⟨la, lb, hla, hlb, hsz⟩ := hz
  have hD : ∀ t, t ∈ D.map (·.1) ↔ (X.needs t).isSome = true := by
    intro t
    constructor
    · intro ht
      obtain ⟨⟨t', s⟩, hq, rfl⟩ := List.mem_map.1 ht
      obtain ⟨i, hi⟩ := List.mem_iff_getElem?.1 hq
      have hci : cs[i]? = some (cs[i]'(by rw [hE.len]; exact (List.getElem?_eq_some_iff.1 hi).1)) := List.getElem?_eq_getElem _
      rcases hE.ent i _ _ _ hi hci with ⟨h1, _⟩ | ⟨_, b, h1, _⟩
      · cases h1
      · simp only; rw [h1]; rfl
    · intro ht
      obtain ⟨s, hs⟩ := hE.all t (by simp) ht
      exact List.mem_map.2 ⟨_, hs, rfl⟩
  have hD2 : ∀ k, k ∈ D2.map (·.1) ↔ (X.came k).isSome = true := by
    intro t
    constructor
    · intro ht
      obtain ⟨⟨t', s⟩, hq, rfl⟩ := List.mem_map.1 ht
      obtain ⟨i, hi⟩ := List.mem_iff_getElem?.1 hq
      have hci : cs2[i]? = some (cs2[i]'(by rw [hE2.len]; exact (List.getElem?_eq_some_iff.1 hi).1)) := List.getElem?_eq_getElem _
      rcases hE2.ent i _ _ _ hi hci with ⟨h1, _⟩ | ⟨_, b, h1, _⟩
      · cases h1
      · simp only; rw [h1]; rfl
    · intro ht
      obtain ⟨s, hs⟩ := hE2.all t (by simp) ht
      exact List.mem_map.2 ⟨_, hs, rfl⟩
  have hDl : D.length ≤ la.length := by
    have := nodup_le hE.keys (l := la) (fun t ht => hla t ((hD t).1 ht))
    simpa using this
  have hDl2 : D2.length ≤ lb.length := by
    have := nodup_le hE2.keys (l := lb) (fun t ht => hlb t ((hD2 t).1 ht))
    simpa using this
  apply c40
  refine h_ldM HL0 (by repeat (first | exact pick_head | apply pick_tail | apply pick_app)) rfl ?_
  refine s_call (R := fun e w' => ∃ r, e = .returned (.func (.func 81) #[] #[.pointer (some ⟨r, 0, none⟩)]) ∧ Has w w' [cl r 41 [.map (some bn)]]) ?_ ?_
  · apply c56
    exact h_new (Has.init w) fun n1 u H => s_ret ⟨n1, rfl, H⟩
  rintro _ u ⟨r1, rfl, H⟩
  refine ⟨_, rfl, s_asC (s_req rfl (s_asP ?_))⟩
  refine s_call (collect_c hM (H.cells (by repeat (first | exact pick_head | apply pick_tail | apply pick_app))) ((HL0.fr0 H.base).get (e := (bn, on)) (by repeat (first | exact pick_head | apply pick_tail | apply pick_app))) (by omega)) ?_
  rintro _ u ⟨ks, v, c, rfl, hP, ho, H2⟩
  have H := H.join H2
  obtain ⟨ov, cap, rfl⟩ := ho.slice
  refine ⟨_, rfl, s_asS ?_⟩
  have HL := HL0.fr0 H.base
  refine h_ldM HL (by repeat (first | exact pick_head | apply pick_tail | apply pick_app)) rfl (s_mrange (HL.get (e := (bc, oc)) (by repeat (first | exact pick_head | apply pick_tail | apply pick_app))) hM2 mapC fun w1 i hL f1 hi => ?_)
  have H := H.add f1 (Nat.le_refl _) hi
  generalize u.heap.size = r at H hi
  refine s_asP (s_sm (s_req rfl ?_))
  have hksl : ks.length = D.length := by have := hP.length_eq; simpa using this
  refine s_loop (fun vs W => ∃ (L : List (Fx × SP)) (i : Obj) (ids : List K) (v : Value) (c : Hp), vs = [v] ∧ LeftO bc kfF vS oc i L ∧ OwnC 32 2 v ids.length (enc ids) c ∧ (∀ t, (t ∈ ids ∨ ∃ n, (t, n) ∈ L.map (·.1)) ↔ (t ∈ D.map (·.1) ∨ ∃ n, (t, n) ∈ D2.map (·.1))) ∧ ids.length + L.length = D.length + D2.length ∧ Has w W ((r, i) :: c)) (fun _ W => leftN W bc r)
    ⟨D2, i, ks, _, c, rfl, hL, ho, fun t => by rw [hP.mem_iff], by omega, H.sub (by repeat (first | exact sb_refl | exact sb_nil | refine sb_cons (by repeat (first | exact pick_head | apply pick_tail | apply pick_app)) ?_ | refine sb_app (by repeat (first | exact cut_head | exact cut_all | apply cut_tail | apply cut_app)) ?_ | exact sb_one (by repeat (first | exact cut_head | exact cut_all | apply cut_tail | apply cut_app))))⟩ ?_
  clear H HL H2 ho hL hi
  rintro _ j W ⟨L, i, ids, v, c, rfl, hL, ho, hmem, hlen, H⟩
  have HL := HL0.fr0 H.base
  obtain ⟨ov, cap, rfl⟩ := ho.slice
  refine s_asS (s_mnext (HL.get (e := (bc, oc)) (by repeat (first | exact pick_head | apply pick_tail | apply pick_app))) (H.get (by repeat (first | exact pick_head | apply pick_tail | apply pick_app))) hL (fun hnil => ?_) ?_)
  · subst hnil
    refine s_asU (s_true rfl (s_req rfl (s_false rfl ?_)))
    have H : Has w W (c ++ [(r, i)]) := H.sub (by repeat (first | exact sb_refl | exact sb_nil | refine sb_cons (by repeat (first | exact pick_head | apply pick_tail | apply pick_app)) ?_ | refine sb_app (by repeat (first | exact cut_head | exact cut_all | apply cut_tail | apply cut_app)) ?_ | exact sb_one (by repeat (first | exact cut_head | exact cut_all | apply cut_tail | apply cut_app))))
    simp only [List.length_nil] at hlen
    have hmany : ids.length < many := by unfold many; omega
    refine s_call (sortO_c ho H rfl hmany) ?_
    rintro _ u ⟨⟨v, rfl⟩, c2, ho2, H⟩
    have hlm : (ids.mergeSort leK).length = ids.length := List.length_mergeSort ids
    have ho2' : OwnC 32 2 (.slice ov ids.length cap) (ids.mergeSort leK).length (enc (ids.mergeSort leK)) c2 := by rw [hlm]; exact ho2
    refine ⟨_, rfl, s_call (compO_c ho2' H hlm.symm (by rw [hlm]; exact hmany)) ?_⟩
    rintro _ u ⟨v, c3, rfl, ho3, H⟩
    obtain ⟨o3, cap3, rfl⟩ := ho3.slice
    refine ⟨_, rfl, s_asS (s_ret ⟨KS ids, _, c3, ⟨KS_rising _, fun t => ?_⟩, rfl, ho3, H.sub (by repeat (first | exact sb_refl | exact sb_nil | refine sb_cons (by repeat (first | exact pick_head | apply pick_tail | apply pick_app)) ?_ | refine sb_app (by repeat (first | exact cut_head | exact cut_all | apply cut_tail | apply cut_app)) ?_ | exact sb_one (by repeat (first | exact cut_head | exact cut_all | apply cut_tail | apply cut_app)))), ?_⟩)⟩
    · have := hmem t
      simp only [List.map_nil, List.not_mem_nil, exists_false, or_false] at this
      rw [KS_mem, this, hD]
      simp only [hD2]
    · have := KS_len ids
      omega
  · intro q L' w2 i' hperm hL' hlast f2 hi'
    have hlen2 := hL.num (HL.get (e := (bc, oc)) (by repeat (first | exact pick_head | apply pick_tail | apply pick_app))) (H.get (by repeat (first | exact pick_head | apply pick_tail | apply pick_app)))
    have H := H.upd (by repeat (first | exact pick_head | apply pick_tail | apply pick_app)) f2 hi'
    have HL := HL0.fr0 H.base
    have hlen' : L.length = L'.length + 1 := by have := hperm.length_eq; simpa using this
    refine s_asU (s_false rfl (s_req ⟨rfl, rfl⟩ (s_asA (s_req rfl (s_asI (s_asI (s_asI (s_asS (s_true rfl (s_mentry (HL.get (e := (bc, oc)) (by repeat (first | exact pick_head | apply pick_tail | apply pick_app))) (H.get (by repeat (first | exact pick_head | apply pick_tail | apply pick_app))) hlast (s_asU (s_req rfl (s_asA (s_req rfl (s_asI (s_asI (s_asI (s_asS ?_))))))))))))))))))
    (refine h_new H fun n31 u H => ?_)
    iterate 3 refine h_st H (b := n31) (by repeat (first | exact pick_head | apply pick_tail | apply pick_app)) (by first | (simp; done) | exact Nat.le_of_ble_eq_true rfl) rfl fun u H => ?_
    refine h_ldI H (b := n31) (by repeat (first | exact pick_head | apply pick_tail | apply pick_app)) rfl (h_ldI H (b := n31) (by repeat (first | exact pick_head | apply pick_tail | apply pick_app)) rfl ?_)
    (refine h_new H fun n34 u H => ?_)
    refine h_app1 elemK H (by repeat (first | exact cut_head | exact cut_all | apply cut_tail | apply cut_app)) ho (by repeat (first | exact pick_head | apply pick_tail | apply pick_app)) rfl (by intro u hu; simp at hu; rcases hu with rfl | rfl <;> rfl) (by omega) (by omega) ?_
    intro v' c' u ho' H
    obtain ⟨o', cap', rfl⟩ := ho'.slice
    refine s_asS (s_next (by first | exact ⟨rfl, rfl⟩ | trivial) ?_)
    simp (config := { decide := true }) only [if_true, if_false]
    have HL := HL0.fr0 H.base
    refine ⟨⟨L', i', ids ++ [q.1.1], _, c', rfl, hL', ?_, fun t => ?_, by rw [List.length_append, List.length_singleton]; omega, H.sub (by repeat (first | exact sb_refl | exact sb_nil | refine sb_cons (by repeat (first | exact pick_head | apply pick_tail | apply pick_app)) ?_ | refine sb_app (by repeat (first | exact cut_head | exact cut_all | apply cut_tail | apply cut_app)) ?_ | exact sb_one (by repeat (first | exact cut_head | exact cut_all | apply cut_tail | apply cut_app))))⟩, ?_⟩
    · rw [enc_append, List.length_append]
      exact ho'
    · rw [← hmem t]
      simp only [(hperm.map (fun p : Fx × SP => p.1)).mem_iff, List.map_cons, List.mem_append, List.mem_cons, List.not_mem_nil, or_false]
      constructor
      · rintro ((h | h) | ⟨n, h⟩)
        · exact .inl h
        · exact .inr ⟨q.1.2, .inl (by rw [h])⟩
        · exact .inr ⟨n, .inr h⟩
      · rintro (h | ⟨n, h | h⟩)
        · exact .inl (.inl h)
        · exact .inl (.inr (by rw [← h]))
        · exact .inr ⟨n, h⟩
    · rw [hL'.num (HL.get (e := (bc, oc)) (by repeat (first | exact pick_head | apply pick_tail | apply pick_app))) (H.get (e := (r, i')) (by repeat (first | exact pick_head | apply pick_tail | apply pick_app))), hlen2]
      omega
end Go.Proofs.YtpjcfnnnciknmaaGreat.Ids
