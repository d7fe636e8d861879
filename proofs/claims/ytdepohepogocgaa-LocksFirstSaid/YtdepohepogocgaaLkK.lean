/- The keys that somebody asks for, walked. -/
import Derived.Test.YtdepohepogocgaaLkR
import Derived.Test.YtdepohepogocgaaRanges
set_option linter.unusedVariables false
set_option linter.unusedSimpArgs false
set_option maxRecDepth 100000
set_option maxHeartbeats 1000000
namespace Go.Proofs.Ytdepohepogocgaa
open Go hiding Expr
open Go.RowKit Tr

def tell (k : K) : List Value := [.agg ⟨kr k⟩]
abbrev MapS (o : Obj) (D : List (K × SP)) : Prop := MapO Try.prog 39 kfK vS o D
def okD (D : List (K × SP)) (ys : List (List Value)) (av : List Value) : Prop := ∃ (ks : List K) (k : K) (rest : List K), ys = ks.map tell ∧ av = tell k ∧ (ks ++ k :: rest).Perm (D.map (·.1))
def finD (D : List (K × SP)) (ys : List (List Value)) : Prop := ∃ ks : List K, ys = ks.map tell ∧ ks.Perm (D.map (·.1))

theorem keys1_seq {p b : Nat} {o : Obj} {D : List (K × SP)} {ty : TypeId} (hM : MapS o D) :
    SeqL Try.prog 69 [.pointer (some ⟨p, 0, none⟩)] (fun W => Cells W p ty [.map (some b)] ∧ W.heap[b]? = some o) (okD D) (finD D) := by
  intro l w I S hh hK h0 hY
  apply c69
  obtain ⟨hc, hb⟩ := hK _ _ _ h0
  refine s_ldM hc rfl (s_mrange hb hM map68 fun w1 i hL f1 hi => ?_)
  have h1 := hh.add h0 f1 (Nat.le_refl _) hi
  generalize hr : w.heap.size = r at h1 hi
  refine s_asP (s_sm (s_req rfl ?_))
  refine s_loop (fun vs W => vs = [] ∧ ∃ (ks : List K) (L : List (K × SP)) (i : Obj), LeftO b kfK vS o i L ∧ (ks ++ L.map (·.1)).Perm (D.map (·.1)) ∧ I (ks.map tell) [(r, i)] W) (fun _ W => leftN W b r) ⟨rfl, [], D, i, hL, List.Perm.refl _, h1⟩ ?_
  rintro _ j W ⟨rfl, ks, L, i, hL, hP, hI⟩
  obtain ⟨_, hb⟩ := hK _ _ _ hI
  have hi := hh.get hI (p := (r, i)) (by simp)
  refine s_mnext hb hi hL (fun hnil => ?_) ?_
  · refine s_asU (s_true rfl (s_req rfl (s_false rfl (s_ret ⟨⟨_, rfl⟩, .inl ⟨_, _, ⟨ks, rfl, ?_⟩, hI⟩⟩))))
    subst hnil
    simpa using hP
  · intro q L' w2 i' hperm hL' hlast f2 hi'
    have hI2 := hh.upd hI f2 hi'
    obtain ⟨_, hb2⟩ := hK _ _ _ hI2
    have hlen := hL.num hb hi
    have hlen' : L.length = L'.length + 1 := by have := hperm.length_eq; simpa using this
    refine s_asU (s_false rfl (s_req ⟨rfl, rfl⟩ (s_asA (s_req rfl (s_asI (s_asI (s_asS (s_true rfl (s_mentry hb2 hi' hlast (s_asU (s_req rfl (s_asA (s_req rfl (s_asI (s_asI (s_asS ?_))))))))))))))))
    refine s_new fun n W1 hn hz f3 hcn => ?_
    refine s_st hcn (by simp) rfl fun W2 z2 f4 hcn => s_st hcn (by simp) rfl fun W3 z3 f5 hcn => s_ldI hcn rfl (s_ldI hcn rfl ?_)
    have fN : Fr [] w2 W3 := f3.trans' (f4.trans f5) (fun x hx => by simp at hx; exact .inr (by omega))
    have hP2 : (ks ++ q.1 :: L'.map (·.1)).Perm (D.map (·.1)) := (List.Perm.append_left ks (hperm.map (fun p : K × SP => p.1)).symm).trans hP
    refine (hY _ _ W3 _ (hh.fr hI2 fN) ⟨ks, q.1, L'.map (·.1), rfl, rfl, hP2⟩).mono ?_
    rintro _ W' ⟨v, rfl, ⟨rfl, hI'⟩ | ⟨rfl, hS⟩⟩
    · refine ⟨_, rfl, s_asB (s_false rfl (s_next (by first | exact ⟨rfl, rfl⟩ | trivial) ?_))⟩
      simp only [if_true]
      have hg := hh.get hI' (p := (r, i')) (by simp)
      obtain ⟨_, hb3⟩ := hK _ _ _ hI'
      refine ⟨⟨trivial, ks ++ [q.1], L', i', hL', by simpa using hP2, by simpa using hI'⟩, ?_⟩
      rw [hL'.num hb3 hg, hlen]
      omega
    · exact ⟨_, rfl, s_asB (s_true rfl (s_ret ⟨⟨_, rfl⟩, .inr hS⟩))⟩

theorem appseq_c {w : World} {p b : Nat} {o : Obj} {D : List (K × SP)} {ty : TypeId} (hM : MapS o D) (hc : Cells w p ty [.map (some b)]) (hb : w.heap[b]? = some o) (hsz : D.length * 16 ≤ 140737488355328) :
    Calls Try.prog 68 #[.slice none 0 0, .func (.func 69) #[] #[.pointer (some ⟨p, 0, none⟩)]] w fun e w' =>
      ∃ (ks : List K) (v : Value) (c : Hp), e = .returned v ∧ ks.Perm (D.map (·.1)) ∧ OwnC 39 2 v ks.length (enc ks) c ∧ Has w w' c := by
  have hi : ∀ a b : K, tell a = tell b → a = b := fun a b e => kfK_inj (by simpa [tell] using e)
  apply c68
  refine h_new (Has.init w) fun n5 u H => ?_
  refine h_rfL (keys1_seq (p := p) (b := b) (ty := ty) hM) H (fun ys mi => ∃ (ks : List K) (v : Value) (c : Hp), ys = ks.map tell ∧ OwnC 39 2 v ks.length (enc ks) c ∧ mi = cl n5 36 [v] :: c) (fun _ => False)
    ⟨[], _, [], rfl, OwnC.nil, rfl⟩ ?_ ?_ ?_ (fun _ _ _ h => h.elim)
  · rintro ys mi W ⟨ks, v, c, rfl, ho, rfl⟩ H
    exact ⟨H.base.cells hc (by simp), by rw [H.base.block b (Array.getElem?_eq_some_iff.1 hb).1 (by simp)]; exact hb⟩
  · rintro l rec d Z ys W av mi hrs hrp ⟨ks', k, rest, hks, rfl, hP⟩ ⟨ks, v, c, rfl, ho, rfl⟩ H
    obtain rfl : ks = ks' := List.map_inj_right hi |>.1 hks
    have hlen : ks.length + 1 ≤ D.length := by
      have := hP.length_eq
      simp at this
      omega
    obtain ⟨ov, cap, rfl⟩ := ho.slice
    refine s_req rfl (s_asA (s_req rfl (s_asI (s_asI ?_))))
    (refine h_new H fun n11 u H => ?_)
    (repeat (first | refine s_asI ?_ | refine s_asS ?_ | refine s_asP ?_ | refine s_asB ?_ | refine s_asA ?_ | refine s_asT ?_ | refine s_asM ?_ | refine s_asU ?_ | refine s_asC ?_ | refine s_sm ?_ | refine s_req (by first | rfl | exact ⟨rfl, rfl⟩) ?_ | refine h_ldI H (by repeat (first | exact pick_head | apply pick_tail | apply pick_app)) (by first | rfl | (simp; done)) ?_ | refine h_ldB H (by repeat (first | exact pick_head | apply pick_tail | apply pick_app)) (by first | rfl | (simp; done)) ?_ | refine h_ldP H (by repeat (first | exact pick_head | apply pick_tail | apply pick_app)) (by first | rfl | (simp; done)) ?_ | refine h_ldS H (by repeat (first | exact pick_head | apply pick_tail | apply pick_app)) (by first | rfl | (simp; done)) ?_ | refine h_ldM H (by repeat (first | exact pick_head | apply pick_tail | apply pick_app)) (by first | rfl | (simp; done)) ?_ | refine h_ldT H (by repeat (first | exact pick_head | apply pick_tail | apply pick_app)) (by first | rfl | (simp; done)) ?_ | refine h_ldV H (by repeat (first | exact pick_head | apply pick_tail | apply pick_app)) (by first | rfl | (simp; done)) ?_ | (refine h_st H (by repeat (first | exact pick_head | apply pick_tail | apply pick_app)) (by first | (simp; done) | exact Nat.le_of_ble_eq_true rfl) rfl fun u H => ?_) | (refine h_drew H fun u H => ?_) | refine s_chk c_nil ?_))
    refine h_beg H (by repeat (first | exact pick_head | apply pick_tail | apply pick_app)) hrs fun w H => ?_
    (repeat (first | refine s_asI ?_ | refine s_asS ?_ | refine s_asP ?_ | refine s_asB ?_ | refine s_asA ?_ | refine s_asT ?_ | refine s_asM ?_ | refine s_asU ?_ | refine s_asC ?_ | refine s_sm ?_ | refine s_req (by first | rfl | exact ⟨rfl, rfl⟩) ?_ | refine h_ldI H (by repeat (first | exact pick_head | apply pick_tail | apply pick_app)) (by first | rfl | (simp; done)) ?_ | refine h_ldB H (by repeat (first | exact pick_head | apply pick_tail | apply pick_app)) (by first | rfl | (simp; done)) ?_ | refine h_ldP H (by repeat (first | exact pick_head | apply pick_tail | apply pick_app)) (by first | rfl | (simp; done)) ?_ | refine h_ldS H (by repeat (first | exact pick_head | apply pick_tail | apply pick_app)) (by first | rfl | (simp; done)) ?_ | refine h_ldM H (by repeat (first | exact pick_head | apply pick_tail | apply pick_app)) (by first | rfl | (simp; done)) ?_ | refine h_ldT H (by repeat (first | exact pick_head | apply pick_tail | apply pick_app)) (by first | rfl | (simp; done)) ?_ | refine h_ldV H (by repeat (first | exact pick_head | apply pick_tail | apply pick_app)) (by first | rfl | (simp; done)) ?_ | (refine h_st H (by repeat (first | exact pick_head | apply pick_tail | apply pick_app)) (by first | (simp; done) | exact Nat.le_of_ble_eq_true rfl) rfl fun u H => ?_) | (refine h_drew H fun u H => ?_) | refine s_chk c_nil ?_))
    (refine h_new H fun n17 u H => ?_)
    refine h_app1 elemK H (by repeat (first | exact cut_head | exact cut_all | apply cut_tail | apply cut_app)) ho (by repeat (first | exact pick_head | apply pick_tail | apply pick_app)) rfl (by intro u hu; simp at hu; rcases hu with rfl | rfl <;> rfl) (by omega) (by omega) ?_
    intro v' c' w ho' H
    obtain ⟨o', cap', rfl⟩ := ho'.slice
    (repeat (first | refine s_asI ?_ | refine s_asS ?_ | refine s_asP ?_ | refine s_asB ?_ | refine s_asA ?_ | refine s_asT ?_ | refine s_asM ?_ | refine s_asU ?_ | refine s_asC ?_ | refine s_sm ?_ | refine s_req (by first | rfl | exact ⟨rfl, rfl⟩) ?_ | refine h_ldI H (by repeat (first | exact pick_head | apply pick_tail | apply pick_app)) (by first | rfl | (simp; done)) ?_ | refine h_ldB H (by repeat (first | exact pick_head | apply pick_tail | apply pick_app)) (by first | rfl | (simp; done)) ?_ | refine h_ldP H (by repeat (first | exact pick_head | apply pick_tail | apply pick_app)) (by first | rfl | (simp; done)) ?_ | refine h_ldS H (by repeat (first | exact pick_head | apply pick_tail | apply pick_app)) (by first | rfl | (simp; done)) ?_ | refine h_ldM H (by repeat (first | exact pick_head | apply pick_tail | apply pick_app)) (by first | rfl | (simp; done)) ?_ | refine h_ldT H (by repeat (first | exact pick_head | apply pick_tail | apply pick_app)) (by first | rfl | (simp; done)) ?_ | refine h_ldV H (by repeat (first | exact pick_head | apply pick_tail | apply pick_app)) (by first | rfl | (simp; done)) ?_ | (refine h_st H (by repeat (first | exact pick_head | apply pick_tail | apply pick_app)) (by first | (simp; done) | exact Nat.le_of_ble_eq_true rfl) rfl fun u H => ?_) | (refine h_drew H fun u H => ?_) | refine s_chk c_nil ?_))
    refine h_cont H (by repeat (first | exact pick_head | apply pick_tail | apply pick_app)) hrs hrp fun w H => s_next trivial ?_
    simp only [if_true]
    refine .inl ⟨rfl, _, ⟨ks ++ [k], _, c', by simp, ?_, rfl⟩, H.sub (by repeat (first | exact sb_refl | exact sb_nil | refine sb_cons (by repeat (first | exact pick_head | apply pick_tail | apply pick_app)) ?_ | refine sb_app (by repeat (first | exact cut_head | exact cut_all | apply cut_tail | apply cut_app)) ?_ | exact sb_one (by repeat (first | exact cut_head | exact cut_all | apply cut_tail | apply cut_app))))⟩
    rw [enc_append, List.length_append]
    exact ho'
  · rintro D' W ys mi ⟨ks', hks', hP⟩ ⟨ks, v, c, rfl, ho, rfl⟩ H
    obtain rfl : ks = ks' := List.map_inj_right hi |>.1 hks'
    obtain ⟨ov, cap, rfl⟩ := ho.slice
    refine h_ldS H (by repeat (first | exact pick_head | apply pick_tail | apply pick_app)) rfl (h_col H (by repeat (first | exact pick_head | apply pick_tail | apply pick_app)) fun w H => s_ret ⟨ks, _, c, rfl, hP, ho, H.sub (by repeat (first | exact sb_refl | exact sb_nil | refine sb_cons (by repeat (first | exact pick_head | apply pick_tail | apply pick_app)) ?_ | refine sb_app (by repeat (first | exact cut_head | exact cut_all | apply cut_tail | apply cut_app)) ?_ | exact sb_one (by repeat (first | exact cut_head | exact cut_all | apply cut_tail | apply cut_app))))⟩)

theorem collect_c {w : World} {p b : Nat} {o : Obj} {D : List (K × SP)} {ty : TypeId} (hM : MapS o D) (hc : Cells w p ty [.map (some b)]) (hb : w.heap[b]? = some o) (hsz : D.length * 16 ≤ 140737488355328) :
    Calls Try.prog 42 #[.func (.func 69) #[] #[.pointer (some ⟨p, 0, none⟩)]] w fun e w' =>
      ∃ (ks : List K) (v : Value) (c : Hp), e = .returned v ∧ ks.Perm (D.map (·.1)) ∧ OwnC 39 2 v ks.length (enc ks) c ∧ Has w w' c := by
  apply c42b
  refine s_call (appseq_c hM hc hb hsz) ?_
  rintro _ u ⟨ks, v, c, rfl, hP, ho, H⟩
  obtain ⟨ov, cap, rfl⟩ := ho.slice
  exact ⟨_, rfl, s_asS (s_ret ⟨ks, _, c, rfl, hP, ho, H⟩)⟩

def flatK (A : St) : List K := A.flatMap (fun r => r.2.map (·.k))
theorem flat_total {A : St} : (flatK A).length = total A := by
  unfold flatK total
  induction A with
  | nil => rfl
  | cons r A ih => rw [List.flatMap_cons, List.length_append, ih, List.map_cons, List.sum_cons, List.length_map]
theorem queue_mem {A : St} {k : K} : queueOf A k ≠ [] ↔ k ∈ flatK A := by
  unfold flatK
  rw [List.mem_flatMap]
  constructor
  · intro h
    obtain ⟨p, hp⟩ := List.exists_mem_of_ne_nil _ h
    obtain ⟨r, hr, he⟩ := List.mem_filterMap.1 hp
    unfold entry at he
    obtain ⟨x, hx, _⟩ := Option.map_eq_some_iff.1 he
    exact ⟨r, hr, List.mem_map.2 ⟨_, lockOf_mem hx, rfl⟩⟩
  · rintro ⟨r, hr, hk⟩
    obtain ⟨y, hy, rfl⟩ := List.mem_map.1 hk
    cases hx : lockOf r.2 y.k with
    | none => exact absurd rfl (lockOf_none.1 hx y hy)
    | some x => exact queue_ne (t := r.1) (w := r.2) hr hx
theorem keysA_mem {A : St} {k : K} : k ∈ keysA A ↔ queueOf A k ≠ [] := by
  rw [queue_mem]
  exact KS_mem _ _

theorem keys16_c {w : World} {p : Nat} {A : St} (h : LkW w p A) (hz : total A ≤ 8796093022208) : Calls Try.prog 12 #[.pointer (some ⟨p, 0, none⟩)] w fun e w' =>
    ∃ v c, e = .returned v ∧ OwnC 39 2 v (keysA A).length (enc (keysA A)) c ∧ Has w w' c := by
  have hh := h
  obtain ⟨c, ⟨bq, bw, oq, ow, so, cq, cw, co, rfl, ⟨D, cs, rfl, hM, hE⟩, hw, ho, hg, hi⟩, HL⟩ := h
  have hsub : ∀ k, k ∈ D.map (·.1) ↔ k ∈ flatK A := by
    intro k
    rw [← queue_mem]
    constructor
    · intro hk
      obtain ⟨q, hq, rfl⟩ := List.mem_map.1 hk
      obtain ⟨i, hi⟩ := List.mem_iff_getElem?.1 hq
      have hlt := (List.getElem?_eq_some_iff.1 hi).1
      rcases hE.ent i q.1 q.2 _ hi (List.getElem?_eq_getElem (by rw [hE.len]; exact hlt)) with ⟨h3, _⟩ | ⟨_, b, h3, _⟩
      · cases h3
      · exact (optQ_some h3).2
    · intro hk
      obtain ⟨s, hs⟩ := hE.all k (by simp) (by show (optQ (queueOf A k)).isSome = true; unfold optQ; rw [if_neg hk]; rfl)
      exact List.mem_map.2 ⟨_, hs, rfl⟩
  have hlen : D.length ≤ total A := by
    rw [← flat_total]
    have := hE.keys.length_le_of_subset (l₂ := flatK A) (fun k hk => (hsub k).1 hk)
    simpa using this
  apply c12
  refine s_call (none_c hh) ?_
  rintro _ _ ⟨rfl, rfl⟩
  refine ⟨_, rfl, s_asB (s_false rfl (h_ldM HL (by repeat (first | exact pick_head | apply pick_tail | apply pick_app)) rfl ?_))⟩
  have hb := HL.get (e := (bq, oq)) (by repeat (first | exact pick_head | apply pick_tail | apply pick_app))
  refine s_call (R := fun e w' => ∃ r, e = .returned (.func (.func 69) #[] #[.pointer (some ⟨r, 0, none⟩)]) ∧ Has w w' [cl r 68 [.map (some bq)]]) ?_ ?_
  · apply c43
    refine h_new (Has.init w) fun n1 u H => ?_
    exact s_ret ⟨n1, rfl, H⟩
  · rintro _ u ⟨r, rfl, H⟩
    refine ⟨_, rfl, s_asC (s_req rfl (s_asP (s_call (collect_c (w := u) (p := r) (b := bq) hM (H.cells (by repeat (first | exact pick_head | apply pick_tail | apply pick_app))) (by rw [H.base.block bq (Array.getElem?_eq_some_iff.1 hb).1 (by simp)]; exact hb) (by omega)) ?_)))⟩
    rintro _ u2 ⟨ks, v, c, rfl, hP, hov, H2⟩
    obtain ⟨ov, cap, rfl⟩ := hov.slice
    have hkl : ks.length = D.length := by have := hP.length_eq; simpa using this
    refine ⟨_, rfl, s_asS (s_call (keys_c (keysAt_own hov H2 (by repeat (first | exact cut_head | exact cut_all | apply cut_tail | apply cut_app))) rfl (by omega)) ?_)⟩
    rintro _ u3 ⟨v3, c3, rfl, ho3, H3⟩
    obtain ⟨ov3, cap3, rfl⟩ := ho3.slice
    have hks : KS ks = keysA A := rising_ext (KS_rising _) (KS_rising _) (fun x => by
      rw [KS_mem, hP.mem_iff, hsub]
      exact (KS_mem _ _).symm)
    rw [hks] at ho3
    refine ⟨_, rfl, s_asS (s_ret ⟨_, c3, by rw [hks], ho3, ?_⟩)⟩
    exact ((H.join H2).join H3).sub (by repeat (first | exact sb_refl | exact sb_nil | refine sb_cons (by repeat (first | exact pick_head | apply pick_tail | apply pick_app)) ?_ | refine sb_app (by repeat (first | exact cut_head | exact cut_all | apply cut_tail | apply cut_app)) ?_ | exact sb_one (by repeat (first | exact cut_head | exact cut_all | apply cut_tail | apply cut_app))))
end Go.Proofs.Ytdepohepogocgaa
