/- shard.Pairs: pairs into a map, its keys collected and put in order, and looked up. -/
import Derived.Test.YtpjcfnnnciknmaaGreatPairsR
import Derived.Test.YtpjcfnnnciknmaaGreatRanges
set_option linter.unusedVariables false
set_option linter.unusedSimpArgs false
set_option maxRecDepth 100000
set_option maxHeartbeats 1000000
namespace Go.Proofs.YtpjcfnnnciknmaaGreat
open Go hiding Expr
open Go.RowKit Tr

abbrev vI (n : Int) : Value := .int .i64 n
def told (k : K) : List Value := [.agg ⟨kr k⟩]
abbrev MapK (o : Obj) (D : List (K × Int)) : Prop := MapO Tryz.prog 51 kfK vI o D
def okD (D : List (K × Int)) (ys : List (List Value)) (av : List Value) : Prop := ∃ (ks : List K) (k : K) (rest : List K), ys = ks.map told ∧ av = told k ∧ (ks ++ k :: rest).Perm (D.map (·.1))
def finD (D : List (K × Int)) (ys : List (List Value)) : Prop := ∃ ks : List K, ys = ks.map told ∧ ks.Perm (D.map (·.1))
theorem mapT : Tryz.prog.underlying 96 = some (.map 51 2) := by kernel_rfl

theorem keys1_seq {p b : Nat} {o : Obj} {D : List (K × Int)} {ty : TypeId} (hM : MapK o D) :
    SeqL Tryz.prog 64 [.pointer (some ⟨p, 0, none⟩)] (fun W => Cells W p ty [.map (some b)] ∧ W.heap[b]? = some o) (okD D) (finD D) := by
  intro l w I S hh hK h0 hY
  apply c64
  obtain ⟨hc, hb⟩ := hK _ _ _ h0
  refine s_ldM hc rfl (s_mrange hb hM mapT fun w1 i hL f1 hi => ?_)
  have h1 := hh.add h0 f1 (Nat.le_refl _) hi
  generalize hr : w.heap.size = r at h1 hi
  refine s_asP (s_sm (s_req rfl ?_))
  refine s_loop (fun vs W => vs = [] ∧ ∃ (ks : List K) (L : List (K × Int)) (i : Obj), LeftO b kfK vI o i L ∧ (ks ++ L.map (·.1)).Perm (D.map (·.1)) ∧ I (ks.map told) [(r, i)] W) (fun _ W => leftN W b r) ⟨rfl, [], D, i, hL, List.Perm.refl _, h1⟩ ?_
  rintro _ j W ⟨rfl, ks, L, i, hL, hP, hI⟩
  obtain ⟨_, hb⟩ := hK _ _ _ hI
  have hi := hh.get hI (p := (r, i)) (by simp)
  refine s_mnext hb hi hL (fun hnil => ?_) ?_
  · refine s_asU (s_true rfl (s_req rfl (s_false rfl (s_ret ⟨⟨_, rfl⟩, .inl ⟨_, _, ⟨ks, rfl, ?_⟩, hI⟩⟩))))
    subst hnil
    simpa using hP
  · intro q L' w2 i' hperm hL' hlast f2 hi'
    have hI2 := hh.upd hI f2 hi'
    obtain ⟨_, hb2⟩ := hK _ _ _ hI2
    have hlen := hL.num hb hi
    have hlen' : L.length = L'.length + 1 := by have := hperm.length_eq; simpa using this
    refine s_asU (s_false rfl (s_req ⟨rfl, rfl⟩ (s_asA (s_req rfl (s_asI (s_asI (s_asI (s_true rfl (s_mentry hb2 hi' hlast (s_asU (s_req rfl (s_asA (s_req rfl (s_asI (s_asI (s_asI ?_))))))))))))))))
    refine s_new fun n W1 hn hz f3 hcn => ?_
    refine s_st hcn (by simp) rfl fun W2 z2 f4 hcn => s_st hcn (by simp) rfl fun W3 z3 f5 hcn => s_ldI hcn rfl (s_ldI hcn rfl ?_)
    have fN : Fr [] w2 W3 := f3.trans' (f4.trans f5) (fun x hx => by simp at hx; exact .inr (by omega))
    have hP2 : (ks ++ q.1 :: L'.map (·.1)).Perm (D.map (·.1)) := (List.Perm.append_left ks (hperm.map (fun p : K × Int => p.1)).symm).trans hP
    refine (hY _ _ W3 _ (hh.fr hI2 fN) ⟨ks, q.1, L'.map (·.1), rfl, rfl, hP2⟩).mono ?_
    rintro _ W' ⟨v, rfl, ⟨rfl, hI'⟩ | ⟨rfl, hS⟩⟩
    · refine ⟨_, rfl, s_asB (s_false rfl (s_next (by first | exact ⟨rfl, rfl⟩ | trivial) ?_))⟩
      simp only [if_true]
      have hg := hh.get hI' (p := (r, i')) (by simp)
      obtain ⟨_, hb3⟩ := hK _ _ _ hI'
      refine ⟨⟨trivial, ks ++ [q.1], L', i', hL', by simpa using hP2, by simpa using hI'⟩, ?_⟩
      rw [hL'.num hb3 hg, hlen]
      omega
    · exact ⟨_, rfl, s_asB (s_true rfl (s_ret ⟨⟨_, rfl⟩, .inr hS⟩))⟩

theorem appseq_c {w : World} {p b : Nat} {o : Obj} {D : List (K × Int)} {ty : TypeId} (hM : MapK o D) (hc : Cells w p ty [.map (some b)]) (hb : w.heap[b]? = some o) (hsz : D.length * 16 ≤ 140737488355328) :
    Calls Tryz.prog 83 #[.slice none 0 0, .func (.func 64) #[] #[.pointer (some ⟨p, 0, none⟩)]] w fun e w' =>
      ∃ (ks : List K) (v : Value) (c : Hp), e = .returned v ∧ ks.Perm (D.map (·.1)) ∧ OwnC 51 2 v ks.length (enc ks) c ∧ Has w w' c := by
  apply c83
  refine h_new (Has.init w) fun n5 u H => ?_
  refine h_rfL (keys1_seq (p := p) (b := b) (ty := ty) hM) H (fun ys mi => ∃ (ks : List K) (v : Value) (c : Hp), ys = ks.map told ∧ OwnC 51 2 v ks.length (enc ks) c ∧ mi = cl n5 97 [v] :: c) (fun _ => False)
    ⟨[], _, [], rfl, OwnC.nil, rfl⟩ ?_ ?_ ?_ (fun _ _ _ h => h.elim)
  · rintro ys mi W ⟨ks, v, c, rfl, ho, rfl⟩ H
    exact ⟨H.base.cells hc (by simp), by rw [H.base.block b (Array.getElem?_eq_some_iff.1 hb).1 (by simp)]; exact hb⟩
  · rintro l rec d Z ys W av mi hrs hrp ⟨ks', k, rest, hks, rfl, hP⟩ ⟨ks, v, c, rfl, ho, rfl⟩ H
    obtain rfl : ks = ks' := by
      have hi : ∀ a b : K, told a = told b → a = b := fun a b e => kfK_inj (by simpa [told] using e)
      exact List.map_inj_right hi |>.1 hks
    have hlen : ks.length + 1 ≤ D.length := by
      have := hP.length_eq
      simp at this
      omega
    obtain ⟨ov, cap, rfl⟩ := ho.slice
    refine s_req rfl (s_asA (s_req rfl (s_asI (s_asI ?_))))
    (refine h_new H fun n11 u H => ?_)
    (repeat (first | refine s_asI ?_ | refine s_asS ?_ | refine s_asP ?_ | refine s_asB ?_ | refine s_asA ?_ | refine s_asT ?_ | refine s_asM ?_ | refine s_asU ?_ | refine s_asC ?_ | refine s_sm ?_ | refine s_req (by first | rfl | exact ⟨rfl, rfl⟩) ?_ | refine h_ldI H (by repeat (first | exact pick_head | apply pick_tail | apply pick_app)) (by first | rfl | (simp; done)) ?_ | refine h_ldB H (by repeat (first | exact pick_head | apply pick_tail | apply pick_app)) (by first | rfl | (simp; done)) ?_ | refine h_ldP H (by repeat (first | exact pick_head | apply pick_tail | apply pick_app)) (by first | rfl | (simp; done)) ?_ | refine h_ldS H (by repeat (first | exact pick_head | apply pick_tail | apply pick_app)) (by first | rfl | (simp; done)) ?_ | refine h_ldM H (by repeat (first | exact pick_head | apply pick_tail | apply pick_app)) (by first | rfl | (simp; done)) ?_ | refine h_ldT H (by repeat (first | exact pick_head | apply pick_tail | apply pick_app)) (by first | rfl | (simp; done)) ?_ | refine h_ldV H (by repeat (first | exact pick_head | apply pick_tail | apply pick_app)) (by first | rfl | (simp; done)) ?_ | (refine h_st H (by repeat (first | exact pick_head | apply pick_tail | apply pick_app)) (by first | (simp; done) | exact Nat.le_of_ble_eq_true rfl) rfl fun u H => ?_) | (refine h_drew H fun u H => ?_) | refine s_chk c_nil ?_))
    refine h_beg H (by repeat (first | exact pick_head | apply pick_tail | apply pick_app)) hrs fun w H => ?_
    (repeat (first | refine s_asI ?_ | refine s_asS ?_ | refine s_asP ?_ | refine s_asB ?_ | refine s_asA ?_ | refine s_asT ?_ | refine s_asM ?_ | refine s_asU ?_ | refine s_asC ?_ | refine s_sm ?_ | refine s_req (by first | rfl | exact ⟨rfl, rfl⟩) ?_ | refine h_ldI H (by repeat (first | exact pick_head | apply pick_tail | apply pick_app)) (by first | rfl | (simp; done)) ?_ | refine h_ldB H (by repeat (first | exact pick_head | apply pick_tail | apply pick_app)) (by first | rfl | (simp; done)) ?_ | refine h_ldP H (by repeat (first | exact pick_head | apply pick_tail | apply pick_app)) (by first | rfl | (simp; done)) ?_ | refine h_ldS H (by repeat (first | exact pick_head | apply pick_tail | apply pick_app)) (by first | rfl | (simp; done)) ?_ | refine h_ldM H (by repeat (first | exact pick_head | apply pick_tail | apply pick_app)) (by first | rfl | (simp; done)) ?_ | refine h_ldT H (by repeat (first | exact pick_head | apply pick_tail | apply pick_app)) (by first | rfl | (simp; done)) ?_ | refine h_ldV H (by repeat (first | exact pick_head | apply pick_tail | apply pick_app)) (by first | rfl | (simp; done)) ?_ | (refine h_st H (by repeat (first | exact pick_head | apply pick_tail | apply pick_app)) (by first | (simp; done) | exact Nat.le_of_ble_eq_true rfl) rfl fun u H => ?_) | (refine h_drew H fun u H => ?_) | refine s_chk c_nil ?_))
    (refine h_new H fun n17 u H => ?_)
    refine h_app1 elemK H (by repeat (first | exact cut_head | exact cut_all | apply cut_tail | apply cut_app)) ho (by repeat (first | exact pick_head | apply pick_tail | apply pick_app)) rfl (by intro u hu; simp at hu; rcases hu with rfl | rfl <;> rfl) (by omega) (by omega) ?_
    intro v' c' w ho' H
    obtain ⟨o', cap', rfl⟩ := ho'.slice
    (repeat (first | refine s_asI ?_ | refine s_asS ?_ | refine s_asP ?_ | refine s_asB ?_ | refine s_asA ?_ | refine s_asT ?_ | refine s_asM ?_ | refine s_asU ?_ | refine s_asC ?_ | refine s_sm ?_ | refine s_req (by first | rfl | exact ⟨rfl, rfl⟩) ?_ | refine h_ldI H (by repeat (first | exact pick_head | apply pick_tail | apply pick_app)) (by first | rfl | (simp; done)) ?_ | refine h_ldB H (by repeat (first | exact pick_head | apply pick_tail | apply pick_app)) (by first | rfl | (simp; done)) ?_ | refine h_ldP H (by repeat (first | exact pick_head | apply pick_tail | apply pick_app)) (by first | rfl | (simp; done)) ?_ | refine h_ldS H (by repeat (first | exact pick_head | apply pick_tail | apply pick_app)) (by first | rfl | (simp; done)) ?_ | refine h_ldM H (by repeat (first | exact pick_head | apply pick_tail | apply pick_app)) (by first | rfl | (simp; done)) ?_ | refine h_ldT H (by repeat (first | exact pick_head | apply pick_tail | apply pick_app)) (by first | rfl | (simp; done)) ?_ | refine h_ldV H (by repeat (first | exact pick_head | apply pick_tail | apply pick_app)) (by first | rfl | (simp; done)) ?_ | (refine h_st H (by repeat (first | exact pick_head | apply pick_tail | apply pick_app)) (by first | (simp; done) | exact Nat.le_of_ble_eq_true rfl) rfl fun u H => ?_) | (refine h_drew H fun u H => ?_) | refine s_chk c_nil ?_))
    refine h_cont H (by repeat (first | exact pick_head | apply pick_tail | apply pick_app)) hrs hrp fun w H => s_next trivial ?_
    simp only [if_true]
    refine .inl ⟨rfl, _, ⟨ks ++ [k], _, c', by simp, ?_, rfl⟩, H.sub (by repeat (first | exact sb_refl | exact sb_nil | refine sb_cons (by repeat (first | exact pick_head | apply pick_tail | apply pick_app)) ?_ | refine sb_app (by repeat (first | exact cut_head | exact cut_all | apply cut_tail | apply cut_app)) ?_ | exact sb_one (by repeat (first | exact cut_head | exact cut_all | apply cut_tail | apply cut_app))))⟩
    rw [enc_append, List.length_append]
    exact ho'
  · rintro D' W ys mi ⟨ks', hks', hP⟩ ⟨ks, v, c, rfl, ho, rfl⟩ H
    obtain rfl : ks = ks' := by
      have hi : ∀ a b : K, told a = told b → a = b := fun a b e => kfK_inj (by simpa [told] using e)
      exact List.map_inj_right hi |>.1 hks'
    obtain ⟨ov, cap, rfl⟩ := ho.slice
    refine h_ldS H (by repeat (first | exact pick_head | apply pick_tail | apply pick_app)) rfl (h_col H (by repeat (first | exact pick_head | apply pick_tail | apply pick_app)) fun w H => s_ret ⟨ks, _, c, rfl, hP, ho, H.sub (by repeat (first | exact sb_refl | exact sb_nil | refine sb_cons (by repeat (first | exact pick_head | apply pick_tail | apply pick_app)) ?_ | refine sb_app (by repeat (first | exact cut_head | exact cut_all | apply cut_tail | apply cut_app)) ?_ | exact sb_one (by repeat (first | exact cut_head | exact cut_all | apply cut_tail | apply cut_app))))⟩)

theorem sortNil_c {u : World} : Calls Tryz.prog 63 #[.slice none 0 0, .func (.func 48) #[] #[]] u fun e w' => (∃ v, e = .returned v) ∧ u = w' := by
  apply c63
  unfold t63
  refine s_call (R := fun e w' => (∃ lim : Int, e = .returned (.int .i64 lim)) ∧ u = w') ?_ ?_
  · exact len0_c
  · rintro _ _ ⟨⟨lim, rfl⟩, rfl⟩
    refine ⟨_, rfl, s_asI (s_call (R := fun e w' => (∃ v, e = .returned v) ∧ u = w') ?_ ?_)⟩
    · apply c84
      refine s_loop (fun vs W => u = W ∧ vs = [.int .i64 0, .int .i64 0, .int .i64 lim, .bool true, .bool true]) (fun _ _ => 0) ⟨rfl, rfl⟩ ?_
      rintro _ _ _ ⟨rfl, rfl⟩
      refine s_asI (s_asI (s_asI (s_asB (s_asB (s_true (by decide) (s_call (R := fun e w' => (∃ v, e = .returned v) ∧ u = w') ?_ ?_))))))
      · apply c101
        refine s_loop (fun vs W => u = W ∧ vs = [.int .i64 1]) (fun _ _ => 0) ⟨rfl, rfl⟩ ?_
        rintro _ _ _ ⟨rfl, rfl⟩
        exact s_asI (s_false (by decide) (s_ret ⟨⟨_, rfl⟩, rfl⟩))
      · rintro _ _ ⟨⟨v, rfl⟩, rfl⟩
        exact ⟨_, rfl, s_ret ⟨⟨_, rfl⟩, rfl⟩⟩
    · rintro _ _ ⟨⟨v, rfl⟩, rfl⟩
      exact ⟨_, rfl, s_ret ⟨⟨_, rfl⟩, rfl⟩⟩

theorem collect_c {w : World} {p b : Nat} {o : Obj} {D : List (K × Int)} {ty : TypeId} (hM : MapK o D) (hc : Cells w p ty [.map (some b)]) (hb : w.heap[b]? = some o) (hsz : D.length * 16 ≤ 140737488355328) :
    Calls Tryz.prog 62 #[.func (.func 64) #[] #[.pointer (some ⟨p, 0, none⟩)]] w fun e w' =>
      ∃ (ks : List K) (v : Value) (c : Hp), e = .returned v ∧ ks.Perm (D.map (·.1)) ∧ OwnC 51 2 v ks.length (enc ks) c ∧ Has w w' c := by
  apply c62
  refine s_call (appseq_c hM hc hb hsz) ?_
  rintro _ u ⟨ks, v, c, rfl, hP, ho, H⟩
  obtain ⟨ov, cap, rfl⟩ := ho.slice
  exact ⟨_, rfl, s_asS (s_ret ⟨ks, _, c, rfl, hP, ho, H⟩)⟩

theorem sorted_c {w : World} {p b : Nat} {o : Obj} {D : List (K × Int)} {ty : TypeId} (hM : MapK o D) (hc : Cells w p ty [.map (some b)]) (hb : w.heap[b]? = some o) (hsz : D.length * 16 ≤ 140737488355328) :
    Calls Tryz.prog 46 #[.func (.func 64) #[] #[.pointer (some ⟨p, 0, none⟩)], .func (.func 48) #[] #[]] w fun e w' =>
      ∃ (ks : List K) (v : Value) (c : Hp), e = .returned v ∧ ks.Perm (D.map (·.1)) ∧ ks.Pairwise (fun a b => leK a b = true) ∧ OwnC 51 2 v ks.length (enc ks) c ∧ Has w w' c := by
  apply c46
  refine s_call (collect_c hM hc hb hsz) ?_
  rintro _ u ⟨ks, v, c, rfl, hP, ho, H⟩
  have hlen : ks.length = D.length := by have := hP.length_eq; simpa using this
  rcases ho.2 with ⟨rfl, hl0, rfl⟩ | ⟨g, cap', sp, rfl, rfl, h1, h2, h3⟩
  · have hl : ks = [] := List.eq_nil_of_length_eq_zero hl0
    subst hl
    refine ⟨_, rfl, s_asS (s_call sortNil_c ?_)⟩
    rintro _ _ ⟨⟨v, rfl⟩, rfl⟩
    exact ⟨_, rfl, s_ret ⟨[], _, [], rfl, hP, by simp, ho, H⟩⟩
  · have hm : ks.length < many := by simp only [many]; omega
    refine ⟨_, rfl, s_asS (s_call (sort_c (H.cells pick_head) rfl hm) ?_)⟩
    rintro _ u2 ⟨⟨v, rfl⟩, f2, hc2⟩
    have H := H.updc pick_head f2 hc2
    have hlm : (ks.mergeSort leK).length = ks.length := List.length_mergeSort ks
    have hcap : (enc (ks.mergeSort leK) ++ sp).length = cap' * 2 := by rw [← h3, List.length_append, List.length_append, enc_len, enc_len, hlm]
    refine ⟨_, rfl, s_ret ⟨ks.mergeSort leK, _, _, rfl, (List.mergeSort_perm ks leK).trans hP, sorted_le ks, ?_, H⟩⟩
    rw [hlm]
    exact ⟨by rw [enc_len, hlm], .inr ⟨g, cap', sp, rfl, rfl, h1, h2, hcap⟩⟩

theorem putAt_nodup {D : List (K × Int)} {a : K} {v : Int} (h : (D.map (fun p : K × Int => p.1)).Nodup) : ((putAt D a v).map (fun p : K × Int => p.1)).Nodup := by
  induction D with
  | nil => simp [putAt]
  | cons q r ih =>
    simp only [List.map_cons, List.nodup_cons] at h
    simp only [putAt]
    split
    · rename_i hq
      simp only [List.map_cons, List.nodup_cons]
      exact ⟨hq ▸ h.1, h.2⟩
    · rename_i hq
      simp only [List.map_cons, List.nodup_cons]
      refine ⟨fun hm => ?_, ih h.2⟩
      obtain ⟨p, hp, he⟩ := List.mem_map.1 hm
      rcases putAt_mem hp with hp | rfl
      · exact h.1 (List.mem_map.2 ⟨p, hp, he⟩)
      · exact hq he.symm
theorem putAt_len {D : List (K × Int)} {a : K} {v : Int} : (putAt D a v).length ≤ D.length + 1 := by
  induction D with
  | nil => simp [putAt]
  | cons q r ih =>
    simp only [putAt]
    split <;> simp <;> omega
theorem getAt_mem {D : List (K × Int)} {a : K} (h : a ∈ D.map (fun p : K × Int => p.1)) : ∃ v, getAt D a = some v := by
  cases hg : getAt D a with
  | some v => exact ⟨v, rfl⟩
  | none =>
    obtain ⟨p, hp, he⟩ := List.mem_map.1 h
    exact absurd he (getAt_none.1 hg p hp)
theorem getAt_key {D : List (K × Int)} {a : K} {v : Int} (h : getAt D a = some v) : a ∈ D.map (fun p : K × Int => p.1) := by
  induction D with
  | nil => simp [getAt] at h
  | cons q r ih =>
    simp only [getAt] at h
    split at h
    · rename_i hq; simp [hq]
    · rw [List.map_cons, List.mem_cons]; exact .inr (ih h)
theorem pairs_plain {l : List PR} {D : List (K × Int)} {ks : List K} (hD : ∀ k, getAt D k = lastV l k) (hn : (D.map (fun p : K × Int => p.1)).Nodup) (hP : ks.Perm (D.map (fun p : K × Int => p.1))) (hs : ks.Pairwise (fun a b => leK a b = true)) :
    IsPairs l (ks.map (fun k => (⟨k, (getAt D k).getD 0⟩ : PR))) := by
  have hnk : ks.Nodup := hP.nodup_iff.2 hn
  constructor
  · have : (ks.map (fun k => (⟨k, (getAt D k).getD 0⟩ : PR))).map (fun p : PR => p.k) = ks := by rw [List.map_map]; exact List.map_id' ks
    rw [this]
    refine (hs.and hnk).imp ?_
    rintro a b ⟨h1, h2⟩
    have h3 : ltK b a = false := by unfold leK at h1; simpa using h1
    exact ltK_tri h3 (fun e => h2 e.symm)
  · intro k v
    rw [← hD, List.mem_map]
    constructor
    · rintro ⟨k', hk', he⟩
      rw [PR.mk.injEq] at he
      obtain ⟨rfl, rfl⟩ := he
      obtain ⟨v, hv⟩ := getAt_mem (hP.mem_iff.1 hk')
      rw [hv]; rfl
    · intro hv
      exact ⟨k, hP.mem_iff.2 (getAt_key hv), by rw [hv]; rfl⟩

theorem mkeys_c {w : World} {b : Option Nat} : Calls Tryz.prog 47 #[.map b] w fun e w' => ∃ r, e = .returned (.func (.func 64) #[] ⟨[.pointer (some ⟨r, 0, none⟩)]⟩) ∧ w.heap.size ≤ r ∧ Fr [] w w' ∧ Cells w' r 96 [.map b] := by
  apply c47
  refine s_new fun r w1 hr hz f1 hc => s_ret ⟨r, rfl, by omega, f1, hc⟩
theorem zeroI (w : World) : (zeroValue 2).run Tryz.prog w = .ok (.int .i64 0) w := by rfl

section
variable {w : World} {o : Option Addr} {l : List PR}
theorem pairs_c {n cap : Nat} (h : PairsAt w o l) (hin : ∀ p ∈ l, InK p.k) (hn : n = l.length) (hsz : l.length * 24 ≤ 140737488355328) : Calls Tryz.prog 29 #[.slice o n cap] w fun e w' =>
    ∃ out v c, IsPairs l out ∧ e = .returned v ∧ OwnC 53 3 v out.length (encP out) c ∧ Has w w' c := by
  subst hn
  apply c29
  refine s_newMap fun n3 u hr hz hf ho => ?_
  have H := (Has.init w).add hf (by omega) ho
  refine s_loop (fun vs W => ∃ (i : Nat) (D : List (K × Int)) (om : Obj), vs = [.int .i64 i] ∧ i ≤ l.length ∧ MapK om D ∧ (∀ k, getAt D k = lastV (l.take i) k) ∧ (D.map (fun p : K × Int => p.1)).Nodup ∧ D.length ≤ i ∧ Has w W [(n3, om)])
    (fun vs _ => l.length - (intOf (vs.getD 0 undef)).toNat) ⟨0, [], _, rfl, by omega, MapO.new, by intro k; rfl, by simp, by simp, H⟩ ?_
  rintro _ j W ⟨i, D, om, rfl, hi, hM, hD, hnd, hDl, H⟩
  refine s_asI (s_ite (fun g1 => ?_) (fun g1 => ?_))
  · simp only [decide_eq_true_eq] at g1
    have hlt : i < l.length := by omega
    obtain ⟨x, hx⟩ : ∃ x, l[i]? = some x := ⟨_, List.getElem?_eq_getElem hlt⟩
    obtain ⟨g2, off, rfl, p1, p2, p3⟩ := (h.fr0 H.base).get hx
    refine s_req ⟨by omega, by omega⟩ (s_sm (s_loadI p1 (s_loadI p2 (s_loadI p3 ?_))))
    (refine h_new H fun n12 u H => ?_)
    (repeat (first | refine s_asI ?_ | refine s_asS ?_ | refine s_asP ?_ | refine s_asB ?_ | refine s_asA ?_ | refine s_asT ?_ | refine s_asM ?_ | refine s_asU ?_ | refine s_asC ?_ | refine s_sm ?_ | refine s_req (by first | rfl | exact ⟨rfl, rfl⟩) ?_ | refine h_ldI H (by repeat (first | exact pick_head | apply pick_tail | apply pick_app)) (by first | rfl | (simp; done)) ?_ | refine h_ldB H (by repeat (first | exact pick_head | apply pick_tail | apply pick_app)) (by first | rfl | (simp; done)) ?_ | refine h_ldP H (by repeat (first | exact pick_head | apply pick_tail | apply pick_app)) (by first | rfl | (simp; done)) ?_ | refine h_ldS H (by repeat (first | exact pick_head | apply pick_tail | apply pick_app)) (by first | rfl | (simp; done)) ?_ | refine h_ldM H (by repeat (first | exact pick_head | apply pick_tail | apply pick_app)) (by first | rfl | (simp; done)) ?_ | refine h_ldT H (by repeat (first | exact pick_head | apply pick_tail | apply pick_app)) (by first | rfl | (simp; done)) ?_ | refine h_ldV H (by repeat (first | exact pick_head | apply pick_tail | apply pick_app)) (by first | rfl | (simp; done)) ?_ | (refine h_st H (by repeat (first | exact pick_head | apply pick_tail | apply pick_app)) (by first | (simp; done) | exact Nat.le_of_ble_eq_true rfl) rfl fun u H => ?_) | (refine h_drew H fun u H => ?_) | refine s_chk c_nil ?_))
    obtain ⟨kl, hkl⟩ := keyOfK (hin x (List.mem_of_getElem? hx))
    refine h_put (a := x.k) (v := x.v) (kf := kfK) (vf := vI) H (by repeat (first | exact pick_head | apply pick_tail | apply pick_app)) hM keyedK mapT (fun p _ he => kfK_inj he) hkl fun om' u hM' H => ?_
    refine s_next (by first | exact ⟨rfl, rfl⟩ | trivial) ?_
    simp only [if_true]
    refine ⟨⟨i + 1, putAt D x.k x.v, om', by rw [w_succ (by omega)], by omega, hM', fun k => ?_, putAt_nodup hnd, by have := putAt_len (D := D) (a := x.k) (v := x.v); omega, H.sub (by repeat (first | exact sb_refl | exact sb_nil | refine sb_cons (by repeat (first | exact pick_head | apply pick_tail | apply pick_app)) ?_ | refine sb_app (by repeat (first | exact cut_head | exact cut_all | apply cut_tail | apply cut_app)) ?_ | exact sb_one (by repeat (first | exact cut_head | exact cut_all | apply cut_tail | apply cut_app))))⟩, by rw [w_succ (by omega)]; simp [intOf] <;> omega⟩
    rw [getAt_put, List.take_add_one, hx, Option.toList_some, lastV_snoc, hD]
  · simp only [decide_eq_false_iff_not] at g1
    have : l.take i = l := List.take_of_length_le (by omega)
    rw [this] at hD
    refine s_call mkeys_c ?_
    rintro _ u ⟨r, rfl, hr, f, hc⟩
    have H := H.addc f hr hc
    refine ⟨_, rfl, s_asC (s_req rfl (s_asP (s_call (sorted_c hM (H.cells (by repeat (first | exact pick_head | apply pick_tail | apply pick_app))) (H.get (e := (n3, om)) (by repeat (first | exact pick_head | apply pick_tail | apply pick_app))) (by omega)) ?_)))⟩
    rintro _ u ⟨ks, v, ck, rfl, hP, hs, ho, Hk⟩
    have H := H.join Hk
    obtain ⟨ok, capk, rfl⟩ := ho.slice
    have hkl : ks.length = D.length := by have := hP.length_eq; simpa using this
    have hout := pairs_plain hD hnd hP hs
    generalize hgo : ks.map (fun k => (⟨k, (getAt D k).getD 0⟩ : PR)) = out at hout
    have hol : out.length = ks.length := by rw [← hgo, List.length_map]
    refine ⟨_, rfl, s_asS (s_loop (fun vs W => ∃ (i : Nat) (v : Value) (c : Hp), vs = [v, .int .i64 i] ∧ i ≤ ks.length ∧ OwnC 53 3 v i (encP (out.take i)) c ∧ Has w W (c ++ (ck ++ [cl r 96 [.map (some n3)], (n3, om)])))
      (fun vs _ => ks.length - (intOf (vs.getD 1 undef)).toNat) ⟨0, _, [], rfl, by omega, OwnC.nil, H.sub (by repeat (first | exact sb_refl | exact sb_nil | refine sb_cons (by repeat (first | exact pick_head | apply pick_tail | apply pick_app)) ?_ | refine sb_app (by repeat (first | exact cut_head | exact cut_all | apply cut_tail | apply cut_app)) ?_ | exact sb_one (by repeat (first | exact cut_head | exact cut_all | apply cut_tail | apply cut_app))))⟩ ?_)⟩
    rintro _ j W ⟨i, v, c, rfl, hi, hov, H⟩
    obtain ⟨ov, cv, rfl⟩ := hov.slice
    refine s_asS (s_asI (s_ite (fun g2 => ?_) (fun g2 => ?_)))
    · simp only [decide_eq_true_eq] at g2
      have hlt : i < ks.length := by omega
      obtain ⟨k, hk⟩ : ∃ k, ks[i]? = some k := ⟨_, List.getElem?_eq_getElem hlt⟩
      obtain ⟨gv, hgv⟩ := getAt_mem (hP.mem_iff.1 (List.mem_of_getElem? hk))
      have hko : out[i]? = some ⟨k, gv⟩ := by rw [← hgo, List.getElem?_map, hk, Option.map_some, hgv]; rfl
      obtain ⟨g3, off, rfl, p1, p2⟩ := (keysAt_own ho H (by repeat (first | exact cut_head | exact cut_all | apply cut_tail | apply cut_app))).get hk
      refine s_req ⟨by omega, by omega⟩ (s_sm (s_loadI p1 (s_loadI p2 ?_)))
      (refine h_new H fun n34 u H => ?_)
      (repeat (first | refine s_asI ?_ | refine s_asS ?_ | refine s_asP ?_ | refine s_asB ?_ | refine s_asA ?_ | refine s_asT ?_ | refine s_asM ?_ | refine s_asU ?_ | refine s_asC ?_ | refine s_sm ?_ | refine s_req (by first | rfl | exact ⟨rfl, rfl⟩) ?_ | refine h_ldI H (by repeat (first | exact pick_head | apply pick_tail | apply pick_app)) (by first | rfl | (simp; done)) ?_ | refine h_ldB H (by repeat (first | exact pick_head | apply pick_tail | apply pick_app)) (by first | rfl | (simp; done)) ?_ | refine h_ldP H (by repeat (first | exact pick_head | apply pick_tail | apply pick_app)) (by first | rfl | (simp; done)) ?_ | refine h_ldS H (by repeat (first | exact pick_head | apply pick_tail | apply pick_app)) (by first | rfl | (simp; done)) ?_ | refine h_ldM H (by repeat (first | exact pick_head | apply pick_tail | apply pick_app)) (by first | rfl | (simp; done)) ?_ | refine h_ldT H (by repeat (first | exact pick_head | apply pick_tail | apply pick_app)) (by first | rfl | (simp; done)) ?_ | refine h_ldV H (by repeat (first | exact pick_head | apply pick_tail | apply pick_app)) (by first | rfl | (simp; done)) ?_ | (refine h_st H (by repeat (first | exact pick_head | apply pick_tail | apply pick_app)) (by first | (simp; done) | exact Nat.le_of_ble_eq_true rfl) rfl fun u H => ?_) | (refine h_drew H fun u H => ?_) | refine s_chk c_nil ?_))
      have hik : InK k := by
        have h1 : k ∈ l.map (fun p : PR => p.k) := (lastV_some l k).1 (by rw [← hD, hgv]; rfl)
        obtain ⟨p, hp, rfl⟩ := List.mem_map.1 h1
        exact hin p hp
      obtain ⟨kl, hkl2⟩ := keyOfK hik
      refine h_look1 (a := k) (kf := kfK) (vf := vI) H (b := n3) (o := om) (by repeat (first | exact pick_head | apply pick_tail | apply pick_app)) hM keyedK mapT (zeroI _) (fun p _ he => kfK_inj he) hkl2 ?_
      rw [hgv]
      refine s_asI (s_chk (hc_cons H (by repeat (first | exact pick_head | apply pick_tail | apply pick_app)) rfl (hc_cons H (by repeat (first | exact pick_head | apply pick_tail | apply pick_app)) rfl c_nil)) ?_)
      (refine h_new H fun n41 u H => ?_)
      refine s_chk (hc_cons H (b := n34) (by repeat (first | exact pick_head | apply pick_tail | apply pick_app)) rfl (hc_cons H (b := n34) (by repeat (first | exact pick_head | apply pick_tail | apply pick_app)) rfl c_nil)) ?_
      refine h_app1 elemPr H (by repeat (first | exact cut_head | exact cut_all | apply cut_tail | apply cut_app)) hov (by repeat (first | exact pick_head | apply pick_tail | apply pick_app)) rfl (by intro u hu; simp at hu; rcases hu with rfl | rfl | rfl <;> rfl) (by omega) (by omega) ?_
      intro v' c' u ho' H
      obtain ⟨o', cap', rfl⟩ := ho'.slice
      refine s_asS (s_chk (hc_cons H (b := n34) (by repeat (first | exact pick_head | apply pick_tail | apply pick_app)) rfl (hc_cons H (b := n34) (by repeat (first | exact pick_head | apply pick_tail | apply pick_app)) rfl c_nil)) (s_next (by first | exact ⟨rfl, rfl⟩ | trivial) ?_))
      simp only [if_true]
      refine ⟨⟨i + 1, _, c', by rw [w_succ (by omega)], by omega, ?_, H.sub (by repeat (first | exact sb_refl | exact sb_nil | refine sb_cons (by repeat (first | exact pick_head | apply pick_tail | apply pick_app)) ?_ | refine sb_app (by repeat (first | exact cut_head | exact cut_all | apply cut_tail | apply cut_app)) ?_ | exact sb_one (by repeat (first | exact cut_head | exact cut_all | apply cut_tail | apply cut_app))))⟩, by rw [w_succ (by omega)]; simp [intOf] <;> omega⟩
      rw [List.take_add_one, hko, Option.toList_some, encP_append]
      exact ho'
    · simp only [decide_eq_false_iff_not] at g2
      have hie : i = out.length := by omega
      subst hie
      rw [List.take_length] at hov
      exact s_ret ⟨out, _, c, hout, rfl, hov, H.left⟩
end
end Go.Proofs.YtpjcfnnnciknmaaGreat
