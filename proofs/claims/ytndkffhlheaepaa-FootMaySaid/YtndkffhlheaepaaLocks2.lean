/- A transaction's locks by the document; lists held against each other. -/
import Derived.Test.YtndkffhlheaepaaTxn
import Derived.Test.YtndkffhlheaepaaInts
set_option linter.unusedVariables false
set_option linter.unusedSimpArgs false
set_option maxRecDepth 100000
set_option maxHeartbeats 1000000
namespace Go.Proofs.Ytndkffhlheaepaa
open Go hiding Expr
open Go.RowKit Tr

theorem Lk.ext' {a b : Lk} (h1 : a.k.t = b.k.t) (h2 : a.k.r = b.k.r) (h3 : a.x = b.x) : a = b := by
  cases a with
  | mk k x => cases b with
    | mk k' x' =>
      simp only at h1 h2 h3
      rw [K.ext' h1 h2, h3]
section
variable {w w' w0 : World} {o : Option Addr} {n cap : Nat}

theorem eqL_c {o2 : Option Addr} {l1 l2 : List Lk} {n2 cap2 : Nat} (h1 : LocksAt w o l1) (h2 : LocksAt w o2 l2) (hn : n = l1.length) (hn2 : n2 = l2.length) (hmax : l1.length < 9223372036854775807) :
    Calls Try.prog 21 #[.slice o n cap, .slice o2 n2 cap2] w fun e w' => e = .returned (.bool (decide (l1 = l2))) ∧ Fr [] w w' := by
  subst hn hn2
  apply c21
  refine s_ite (fun g => ?_) (fun g => ?_)
  · simp only [bne_iff_ne, ne_eq] at g
    refine s_ret ⟨?_, Fr.refl _ _⟩
    have : l1 ≠ l2 := fun h => g (by rw [h])
    simp [this]
  · simp only [bne_eq_false_iff_eq] at g
    have hl : l1.length = l2.length := by omega
    refine s_loop (fun vs W => ∃ i : Nat, vs = [.int .i64 i] ∧ i ≤ l1.length ∧ l1.take i = l2.take i ∧ Has w W []) (fun vs _ => l1.length - (intOf (vs.getD 0 undef)).toNat) ⟨0, rfl, by omega, by simp, Has.init w⟩ ?_
    rintro _ j W ⟨i, rfl, hi, htk, H⟩
    refine s_asI (s_ite (fun g1 => ?_) (fun g1 => ?_))
    · simp only [decide_eq_true_eq] at g1
      obtain ⟨x, hx⟩ : ∃ x, l1[i]? = some x := ⟨_, List.getElem?_eq_getElem (by omega)⟩
      obtain ⟨y, hy⟩ : ∃ y, l2[i]? = some y := ⟨_, List.getElem?_eq_getElem (by omega)⟩
      refine h_drew H fun u H => ?_
      obtain ⟨ga, offa, ha, q0, q1, q2⟩ := (h1.fr0 H.base).get hx
      obtain ⟨gb, offb, hb, r0, r1, r2⟩ := (h2.fr0 H.base).get hy
      refine s_req ⟨by omega, g1⟩ ⟨ga, offa, ha, s_loadI q0 (s_loadI q1 (s_loadB q2 (s_req ⟨by omega, by omega⟩ ⟨gb, offb, hb, s_loadI r0 (s_loadI r1 (s_loadB r2 (s_ite (fun g2 => ?_) (fun g2 => s_next (by first | exact ⟨rfl, rfl⟩ | trivial) ?_))))⟩)))⟩
      · have g2 : ¬ x = y := fun h => by subst h; simp at g2
        refine s_ret ⟨?_, H.base⟩
        have : l1 ≠ l2 := fun h => g2 (by rw [h, hy] at hx; cases hx; rfl)
        simp [this]
      · have g2 : x = y := Lk.ext' (by simp at g2; exact g2.1.1) (by simp at g2; exact g2.1.2) (by simp at g2; exact g2.2)
        simp (config := { decide := true }) only [if_true, if_false]
        refine ⟨⟨i + 1, by rw [w_succ (by omega)], by omega, ?_, H⟩, by rw [w_succ (by omega)]; simp [intOf] <;> omega⟩
        rw [List.take_add_one, List.take_add_one, htk, hx, hy, g2]
    · simp only [decide_eq_false_iff_not] at g1
      rw [List.take_of_length_le (by omega), List.take_of_length_le (by omega)] at htk
      exact s_ret ⟨by simp [htk], H.base⟩

theorem eqK_c {o2 : Option Addr} {l1 l2 : List K} {n2 cap2 : Nat} (h1 : KeysAt w o l1) (h2 : KeysAt w o2 l2) (hn : n = l1.length) (hn2 : n2 = l2.length) (hmax : l1.length < 9223372036854775807) :
    Calls Try.prog 27 #[.slice o n cap, .slice o2 n2 cap2] w fun e w' => e = .returned (.bool (decide (l1 = l2))) ∧ Fr [] w w' := by
  subst hn hn2
  apply c27
  refine s_ite (fun g => ?_) (fun g => ?_)
  · simp only [bne_iff_ne, ne_eq] at g
    refine s_ret ⟨?_, Fr.refl _ _⟩
    have : l1 ≠ l2 := fun h => g (by rw [h])
    simp [this]
  · simp only [bne_eq_false_iff_eq] at g
    have hl : l1.length = l2.length := by omega
    refine s_loop (fun vs W => ∃ i : Nat, vs = [.int .i64 i] ∧ i ≤ l1.length ∧ l1.take i = l2.take i ∧ Has w W []) (fun vs _ => l1.length - (intOf (vs.getD 0 undef)).toNat) ⟨0, rfl, by omega, by simp, Has.init w⟩ ?_
    rintro _ j W ⟨i, rfl, hi, htk, H⟩
    refine s_asI (s_ite (fun g1 => ?_) (fun g1 => ?_))
    · simp only [decide_eq_true_eq] at g1
      obtain ⟨x, hx⟩ : ∃ x, l1[i]? = some x := ⟨_, List.getElem?_eq_getElem (by omega)⟩
      obtain ⟨y, hy⟩ : ∃ y, l2[i]? = some y := ⟨_, List.getElem?_eq_getElem (by omega)⟩
      refine h_drew H fun u H => ?_
      obtain ⟨ga, offa, ha, q0, q1⟩ := (h1.fr0 H.base).get hx
      obtain ⟨gb, offb, hb, r0, r1⟩ := (h2.fr0 H.base).get hy
      refine s_req ⟨by omega, g1⟩ ⟨ga, offa, ha, s_loadI q0 (s_loadI q1 (s_req ⟨by omega, by omega⟩ ⟨gb, offb, hb, s_loadI r0 (s_loadI r1 (s_ite (fun g2 => ?_) (fun g2 => s_next (by first | exact ⟨rfl, rfl⟩ | trivial) ?_)))⟩))⟩
      · have g2 : ¬ x = y := fun h => by subst h; simp at g2
        refine s_ret ⟨?_, H.base⟩
        have : l1 ≠ l2 := fun h => g2 (by rw [h, hy] at hx; cases hx; rfl)
        simp [this]
      · have g2 : x = y := K.ext' (by simp at g2; exact g2.1) (by simp at g2; exact g2.2)
        simp (config := { decide := true }) only [if_true, if_false]
        refine ⟨⟨i + 1, by rw [w_succ (by omega)], by omega, ?_, H⟩, by rw [w_succ (by omega)]; simp [intOf] <;> omega⟩
        rw [List.take_add_one, List.take_add_one, htk, hx, hy, g2]
    · simp only [decide_eq_false_iff_not] at g1
      rw [List.take_of_length_le (by omega), List.take_of_length_le (by omega)] at htk
      exact s_ret ⟨by simp [htk], H.base⟩

theorem eqI_c {o2 : Option Addr} {l1 l2 : List Int} {n2 cap2 : Nat} (h1 : ValsAt w o l1) (h2 : ValsAt w o2 l2) (hn : n = l1.length) (hn2 : n2 = l2.length) (hmax : l1.length < 9223372036854775807) :
    Calls Try.prog 13 #[.slice o n cap, .slice o2 n2 cap2] w fun e w' => e = .returned (.bool (decide (l1 = l2))) ∧ Fr [] w w' := by
  subst hn hn2
  apply c13
  refine s_ite (fun g => ?_) (fun g => ?_)
  · simp only [bne_iff_ne, ne_eq] at g
    refine s_ret ⟨?_, Fr.refl _ _⟩
    have : l1 ≠ l2 := fun h => g (by rw [h])
    simp [this]
  · simp only [bne_eq_false_iff_eq] at g
    have hl : l1.length = l2.length := by omega
    refine s_loop (fun vs W => ∃ i : Nat, vs = [.int .i64 i] ∧ i ≤ l1.length ∧ l1.take i = l2.take i ∧ Has w W []) (fun vs _ => l1.length - (intOf (vs.getD 0 undef)).toNat) ⟨0, rfl, by omega, by simp, Has.init w⟩ ?_
    rintro _ j W ⟨i, rfl, hi, htk, H⟩
    refine s_asI (s_ite (fun g1 => ?_) (fun g1 => ?_))
    · simp only [decide_eq_true_eq] at g1
      obtain ⟨x, hx⟩ : ∃ x, l1[i]? = some x := ⟨_, List.getElem?_eq_getElem (by omega)⟩
      obtain ⟨y, hy⟩ : ∃ y, l2[i]? = some y := ⟨_, List.getElem?_eq_getElem (by omega)⟩
      refine h_drew H fun u H => ?_
      obtain ⟨ga, offa, ha, q0⟩ := (h1.fr0 H.base).get hx
      obtain ⟨gb, offb, hb, r0⟩ := (h2.fr0 H.base).get hy
      refine s_req ⟨by omega, g1⟩ ⟨ga, offa, ha, s_loadI q0 (s_req ⟨by omega, by omega⟩ ⟨gb, offb, hb, s_loadI r0 (s_ite (fun g2 => ?_) (fun g2 => s_next (by first | exact ⟨rfl, rfl⟩ | trivial) ?_))⟩)⟩
      · have g2 : ¬ x = y := by simpa using g2
        refine s_ret ⟨?_, H.base⟩
        have : l1 ≠ l2 := fun h => g2 (by rw [h, hy] at hx; cases hx; rfl)
        simp [this]
      · have g2 : x = y := by simpa using g2
        simp (config := { decide := true }) only [if_true, if_false]
        refine ⟨⟨i + 1, by rw [w_succ (by omega)], by omega, ?_, H⟩, by rw [w_succ (by omega)]; simp [intOf] <;> omega⟩
        rw [List.take_add_one, List.take_add_one, htk, hx, hy, g2]
    · simp only [decide_eq_false_iff_not] at g1
      rw [List.take_of_length_le (by omega), List.take_of_length_le (by omega)] at htk
      exact s_ret ⟨by simp [htk], H.base⟩

theorem samei_c {o2 : Option Addr} {l1 l2 : List Int} {n2 cap2 : Nat} (h1 : ValsAt w o l1) (h2 : ValsAt w o2 l2) (hn : n = l1.length) (hn2 : n2 = l2.length) (hmax : l1.length < 9223372036854775807) :
    Calls Try.prog 38 #[.slice o n cap, .slice o2 n2 cap2] w fun e w' => e = .returned (.bool (decide (l1 = l2))) ∧ Fr [] w w' := by
  subst hn hn2
  apply c38
  refine s_ite (fun g => ?_) (fun g => ?_)
  · simp only [bne_iff_ne, ne_eq] at g
    refine s_ret ⟨?_, Fr.refl _ _⟩
    have : l1 ≠ l2 := fun h => g (by rw [h])
    simp [this]
  · simp only [bne_eq_false_iff_eq] at g
    have hl : l1.length = l2.length := by omega
    refine s_loop (fun vs W => ∃ i : Nat, vs = [.int .i64 i] ∧ i ≤ l1.length ∧ l1.take i = l2.take i ∧ Has w W []) (fun vs _ => l1.length - (intOf (vs.getD 0 undef)).toNat) ⟨0, rfl, by omega, by simp, Has.init w⟩ ?_
    rintro _ j W ⟨i, rfl, hi, htk, H⟩
    refine s_asI (s_ite (fun g1 => ?_) (fun g1 => ?_))
    · simp only [decide_eq_true_eq] at g1
      obtain ⟨x, hx⟩ : ∃ x, l1[i]? = some x := ⟨_, List.getElem?_eq_getElem (by omega)⟩
      obtain ⟨y, hy⟩ : ∃ y, l2[i]? = some y := ⟨_, List.getElem?_eq_getElem (by omega)⟩
      refine h_drew H fun u H => ?_
      obtain ⟨ga, offa, ha, q0⟩ := (h1.fr0 H.base).get hx
      obtain ⟨gb, offb, hb, r0⟩ := (h2.fr0 H.base).get hy
      refine s_req ⟨by omega, g1⟩ ⟨ga, offa, ha, s_loadI q0 (s_req ⟨by omega, by omega⟩ ⟨gb, offb, hb, s_loadI r0 (s_ite (fun g2 => ?_) (fun g2 => s_next (by first | exact ⟨rfl, rfl⟩ | trivial) ?_))⟩)⟩
      · have g2 : ¬ x = y := by simpa using g2
        refine s_ret ⟨?_, H.base⟩
        have : l1 ≠ l2 := fun h => g2 (by rw [h, hy] at hx; cases hx; rfl)
        simp [this]
      · have g2 : x = y := by simpa using g2
        simp (config := { decide := true }) only [if_true, if_false]
        refine ⟨⟨i + 1, by rw [w_succ (by omega)], by omega, ?_, H⟩, by rw [w_succ (by omega)]; simp [intOf] <;> omega⟩
        rw [List.take_add_one, List.take_add_one, htk, hx, hy, g2]
    · simp only [decide_eq_false_iff_not] at g1
      rw [List.take_of_length_le (by omega), List.take_of_length_le (by omega)] at htk
      exact s_ret ⟨by simp [htk], H.base⟩

theorem mayr_c {x : TX} (h : TxAt w x) (hx : TxOk x) (k : K) : Calls Try.prog 28 #[.agg ⟨txr x⟩, .agg ⟨kr k⟩] w fun e w' => e = .returned (.bool (decide (k ∈ x.rd))) ∧ Fr [] w w' := by
  have := hx.sz
  apply c28
  refine h_new (Has.init w) fun n16 u H => ?_
  (refine h_new H fun n17 u H => ?_)
  refine h_ldS H (by repeat (first | exact pick_head | apply pick_tail | apply pick_app)) rfl (h_ldI H (by repeat (first | exact pick_head | apply pick_tail | apply pick_app)) rfl (h_ldI H (by repeat (first | exact pick_head | apply pick_tail | apply pick_app)) rfl ?_))
  refine s_call (has_c (h.rd.fr0 H.base) rfl (by omega) k) ?_
  rintro _ u ⟨rfl, f⟩
  exact ⟨_, rfl, s_asB (s_ret ⟨rfl, (H.fr0 f).base⟩)⟩
theorem mayw_c {x : TX} (h : TxAt w x) (hx : TxOk x) (k : K) : Calls Try.prog 30 #[.agg ⟨txr x⟩, .agg ⟨kr k⟩] w fun e w' => e = .returned (.bool (decide (k ∈ x.wr))) ∧ Fr [] w w' := by
  have := hx.sz
  apply c30
  refine h_new (Has.init w) fun n16 u H => ?_
  (refine h_new H fun n17 u H => ?_)
  refine h_ldS H (by repeat (first | exact pick_head | apply pick_tail | apply pick_app)) rfl (h_ldI H (by repeat (first | exact pick_head | apply pick_tail | apply pick_app)) rfl (h_ldI H (by repeat (first | exact pick_head | apply pick_tail | apply pick_app)) rfl ?_))
  refine s_call (has_c (h.wr.fr0 H.base) rfl (by omega) k) ?_
  rintro _ u ⟨rfl, f⟩
  exact ⟨_, rfl, s_asB (s_ret ⟨rfl, (H.fr0 f).base⟩)⟩

theorem rlocks_c {x : TX} (h : TxAt w x) (hx : TxOk x) : Calls Try.prog 23 #[.agg ⟨txr x⟩] w fun en w' =>
    ∃ v c, en = .returned v ∧ OwnC 52 3 v (locksOf x).length (encL (locksOf x)) c ∧ Has w w' c := by
  have hsz := hx.sz
  apply c23
  refine h_new (Has.init w) fun n14 u H => h_drew H fun u H => h_ldS H (by repeat (first | exact pick_head | apply pick_tail | apply pick_app)) rfl (h_ldS H (by repeat (first | exact pick_head | apply pick_tail | apply pick_app)) rfl ?_)
  refine h_appAll elemK (by decide) H cut_nil OwnC.nil (kr2 x.rd) (kr_one x.rd) (h.rd.fr0 H.base) (by rw [List.length_map]) (by omega) (by omega) ?_
  intro v1 c1 u ho1 H
  rw [Nat.zero_add, List.nil_append] at ho1
  obtain ⟨o1, cap1, rfl⟩ := ho1.slice
  refine s_asS (s_chk (hc_cons H (by repeat (first | exact pick_head | apply pick_tail | apply pick_app)) rfl c_nil) ?_)
  refine h_appAll elemK (by decide) H cut_head ho1 (kr2 x.wr) (kr_one x.wr) (h.wr.fr0 H.base) (by rw [List.length_map]) (by omega) (by omega) ?_
  intro v2 c2 u ho2 H
  obtain ⟨o2, cap2, rfl⟩ := ho2.slice
  have ho2' : OwnC 50 2 (.slice o2 (x.rd ++ x.wr).length cap2) (x.rd ++ x.wr).length (enc (x.rd ++ x.wr)) c2 := by
    rw [List.length_append, enc_append]
    exact ho2
  refine s_asS (s_chk c_nil (s_call (rkeys_c (keysAt_own ho2' H (by repeat (first | exact cut_head | exact cut_all | apply cut_tail | apply cut_app))) (by rw [List.length_append]) (by rw [List.length_append]; omega)) ?_))
  rintro _ u ⟨v3, c3, rfl, ho3, H3⟩
  have H := H.join H3
  obtain ⟨o3, cap3, rfl⟩ := ho3.slice
  have hKl := KS_len (x.rd ++ x.wr)
  rw [List.length_append] at hKl
  refine ⟨_, rfl, s_asS (s_chk c_nil ?_)⟩
  refine s_loop (fun vs W => ∃ (i : Nat) (v : Value) (c : Hp), vs = [v, .int .i64 i] ∧ i ≤ (KS (x.rd ++ x.wr)).length ∧ OwnC 52 3 v i (encL ((locksOf x).take i)) c ∧ Has w W (c ++ (c3 ++ [cl n14 39 (txr x)]))) (fun vs _ => (KS (x.rd ++ x.wr)).length - (intOf (vs.getD 1 undef)).toNat)
    ⟨0, _, [], rfl, by omega, OwnC.nil, H.sub (by repeat (first | exact sb_refl | exact sb_nil | refine sb_cons (by repeat (first | exact pick_head | apply pick_tail | apply pick_app)) ?_ | refine sb_app (by repeat (first | exact cut_head | exact cut_all | apply cut_tail | apply cut_app)) ?_ | exact sb_one (by repeat (first | exact cut_head | exact cut_all | apply cut_tail | apply cut_app))))⟩ ?_
  clear H
  rintro _ j W ⟨i, v, c, rfl, hi, ho, H⟩
  obtain ⟨ov, cv, rfl⟩ := ho.slice
  refine s_asS (s_asI (s_ite (fun g2 => ?_) (fun g2 => ?_)))
  · simp only [decide_eq_true_eq] at g2
    have hlt : i < (KS (x.rd ++ x.wr)).length := by omega
    obtain ⟨k, hk⟩ : ∃ k, (KS (x.rd ++ x.wr))[i]? = some k := ⟨_, List.getElem?_eq_getElem hlt⟩
    refine h_drew H fun u H => ?_
    obtain ⟨g, off, he, p1, p2⟩ := (keysAt_own ho3 H (by repeat (first | exact cut_head | exact cut_all | apply cut_tail | apply cut_app))).get hk
    refine s_req ⟨by omega, g2⟩ ⟨g, off, he, s_loadI p1 (s_loadI p2 (h_ldS H (by repeat (first | exact pick_head | apply pick_tail | apply pick_app)) rfl (s_req ⟨by omega, g2⟩ ⟨g, off, he, s_loadI p1 (s_loadI p2 ?_)⟩)))⟩
    refine s_call (rhas_c (h.wr.fr0 H.base) rfl (by omega) k) ?_
    rintro _ u ⟨rfl, f⟩
    have H := H.fr0 f
    have hcells : ∀ {u : World} {m m' : Hp}, Has w u m → Cut c3 m m' → AllCells u [(⟨g, off + i * 2, none⟩, Value.int .i32 k.t), (⟨g, off + i * 2 + 1, none⟩, Value.int .i64 k.r)] := by
      intro u m m' H hc
      obtain ⟨g', off', he', p1, p2⟩ := (keysAt_own ho3 H hc).get hk
      rw [he] at he'
      cases he'
      exact ⟨p1, p2, trivial⟩
    refine ⟨_, rfl, s_asB (s_chk (hcells H (by repeat (first | exact cut_head | exact cut_all | apply cut_tail | apply cut_app))) ?_)⟩
    (refine h_new H fun n52 u H => ?_)
    refine s_chk (hcells H (by repeat (first | exact cut_head | exact cut_all | apply cut_tail | apply cut_app))) ?_
    refine h_app1 elemL H (by repeat (first | exact cut_head | exact cut_all | apply cut_tail | apply cut_app)) ho (by repeat (first | exact pick_head | apply pick_tail | apply pick_app)) rfl (lr_one [⟨k, decide (k ∈ x.wr)⟩] _ (List.mem_singleton.2 rfl)) (by omega) (by omega) ?_
    intro v' c' u ho' H
    obtain ⟨ov', cv', rfl⟩ := ho'.slice
    refine s_asS (s_chk (hcells H (by repeat (first | exact cut_head | exact cut_all | apply cut_tail | apply cut_app))) (s_next (by first | exact ⟨rfl, rfl⟩ | trivial) ?_))
    simp (config := { decide := true }) only [if_true, if_false]
    refine ⟨⟨i + 1, _, c', by rw [w_succ (by omega)], by omega, ?_, H.sub (by repeat (first | exact sb_refl | exact sb_nil | refine sb_cons (by repeat (first | exact pick_head | apply pick_tail | apply pick_app)) ?_ | refine sb_app (by repeat (first | exact cut_head | exact cut_all | apply cut_tail | apply cut_app)) ?_ | exact sb_one (by repeat (first | exact cut_head | exact cut_all | apply cut_tail | apply cut_app))))⟩, by rw [w_succ (by omega)]; simp [intOf] <;> omega⟩
    have : (locksOf x)[i]? = some ⟨k, decide (k ∈ x.wr)⟩ := by unfold locksOf; rw [List.getElem?_map, hk]; rfl
    rw [List.take_add_one, this, Option.toList_some, encL_append]
    exact ho'
  · simp only [decide_eq_false_iff_not] at g2
    have hl : (locksOf x).length = (KS (x.rd ++ x.wr)).length := by unfold locksOf; rw [List.length_map]
    obtain rfl : i = (locksOf x).length := by omega
    rw [List.take_length] at ho
    exact s_ret ⟨_, c, rfl, ho, H.sub (by repeat (first | exact sb_refl | exact sb_nil | refine sb_cons (by repeat (first | exact pick_head | apply pick_tail | apply pick_app)) ?_ | refine sb_app (by repeat (first | exact cut_head | exact cut_all | apply cut_tail | apply cut_app)) ?_ | exact sb_one (by repeat (first | exact cut_head | exact cut_all | apply cut_tail | apply cut_app))))⟩
end
end Go.Proofs.Ytndkffhlheaepaa
