/- The bytes of a list of instructions: the program and the reference. -/
import Derived.Test.YtgoecmggbcaoiaaInsM
set_option linter.unusedVariables false
set_option linter.unusedSimpArgs false
set_option maxRecDepth 100000
set_option maxHeartbeats 4000000
namespace Go.Proofs.Ytgoecmggbcaoiaa
open Go hiding Expr
open Go.RowKit Tr

theorem ins5 (l : List Ins) : ∀ r ∈ l.map insR, r.length = 5 := by
  intro r hr
  obtain ⟨x, _, rfl⟩ := List.mem_map.1 hr
  rfl
theorem ins_one (l : List Ins) : ∀ r ∈ l.map insR, ∀ u ∈ r, u.oneCell' = true := by
  intro r hr u hu
  obtain ⟨x, _, rfl⟩ := List.mem_map.1 hr
  simp [insR] at hu
  rcases hu with rfl | rfl | rfl | rfl | rfl <;> rfl
def encI (l : List Ins) : List Value := (l.map insR).flatten
theorem encI_append (a b : List Ins) : encI (a ++ b) = encI a ++ encI b := by simp [encI]
def InsAt (w : World) (o : Option Addr) (l : List Ins) : Prop := RowsAt w o 5 (l.map insR)
section
variable {w w' w0 : World} {o : Option Addr} {l : List Ins} {m m' c : Hp} {n cap : Nat} {x : Ins}
theorem InsAt.fr0 (h : InsAt w o l) (hf : Fr [] w w') : InsAt w' o l := RowsAt.fr h hf
theorem InsAt.get (h : InsAt w o l) {i : Nat} (hi : l[i]? = some x) : ∃ g off, o = some ⟨g, off, none⟩ ∧ w.cell? ⟨g, off + i * 5, none⟩ = some (.int .i64 x.at_) ∧ w.cell? ⟨g, off + i * 5 + 1, none⟩ = some (.int .i64 x.op) ∧
    w.cell? ⟨g, off + i * 5 + 2, none⟩ = some (.int .i64 x.a) ∧ w.cell? ⟨g, off + i * 5 + 3, none⟩ = some (.int .i64 x.b) ∧ w.cell? ⟨g, off + i * 5 + 4, none⟩ = some (.int .i64 x.imm) := by
  obtain ⟨g, off, rfl, _, hc⟩ := RowsAt.at h (j := i) (r := insR x) (by simp [hi])
  exact ⟨g, off, rfl, hc 0 _ rfl, hc 1 _ rfl, hc 2 _ rfl, hc 3 _ rfl, hc 4 _ rfl⟩
theorem insAt_own {e : TypeId} (ho : OwnC e 5 (.slice o n cap) n (encI l) c) (H : Has w0 w m) (hp : Cut c m m') : InsAt w o l := rowsAt_own (ins5 l) (by decide) ho H hp
theorem insAt_nil : InsAt w o [] := .inl rfl
end
theorem elemI : Elem Try.prog 22 40 (.agg ⟨[.int .i64 0, .int .i64 0, .int .i64 0, .int .i64 0, .int .i64 0]⟩) 5 40 := ⟨by kernel_rfl, by kernel_rfl, rfl, by decide⟩

/-! ### What the list's bytes are -/
section
variable {l : List Ins} {x : Ins}
theorem encW_ok : ∀ {l : List Ins}, (∀ x ∈ l, fitsP x = 0) → encW l = (l.flatMap bytsP, 0)
  | [], _ => rfl
  | x :: r, h => by
    have h1 := h x (by simp)
    have h2 := encW_ok (l := r) (fun y hy => h y (by simp [hy]))
    simp [encW, h1, h2]
theorem encW_bad : ∀ {l : List Ins} {i : Nat}, (∀ x ∈ l.take i, fitsP x = 0) → l[i]? = some x → fitsP x ≠ 0 → encW l = ([], fitsP x)
  | [], i, _, h, _ => by simp at h
  | y :: r, 0, _, h, hb => by
    simp at h
    subst h
    simp [encW, hb]
  | y :: r, i + 1, h, hx, hb => by
    have h1 := h y (by simp)
    have h2 := encW_bad (l := r) (i := i) (fun z hz => h z (by simp [hz])) (by simpa using hx) hb
    simp [encW, h1, h2, hb]
theorem byts_le (x : Ins) : (bytsP x).length ≤ 5 := by
  unfold bytsP immB
  simp only [List.length_cons, List.length_append]
  repeat' split
  all_goals simp
theorem flat_le (l : List Ins) : (l.flatMap bytsP).length ≤ 5 * l.length := by
  induction l with
  | nil => simp
  | cons x r ih =>
    have := byts_le x
    simp only [List.flatMap_cons, List.length_append, List.length_cons]
    omega
theorem encP_bad {i : Nat} (h : ∀ x ∈ l.take i, fitsP x = 0) (hx : l[i]? = some x) (hb : fitsP x ≠ 0) : encP l = ([], fitsP x) := by
  unfold encP
  rw [encW_bad h hx hb]
  simp [hb]
theorem encP_ok (h : ∀ x ∈ l, fitsP x = 0) : encP l = if 512 < (l.flatMap bytsP).length then ([], 3) else (l.flatMap bytsP, 0) := by
  unfold encP
  rw [encW_ok h]
  simp
theorem take_succ' {α : Type} {l : List α} {i : Nat} {x : α} (h : l[i]? = some x) : l.take (i + 1) = l.take i ++ [x] := by
  obtain ⟨hi, rfl⟩ := List.getElem?_eq_some_iff.1 h
  rw [List.take_succ_eq_append_getElem hi]
end

section
variable {w w' w0 : World} {m m' c : Hp} {l : List Ins} {x : Ins} {o : Option Addr} {n cap : Nat}

theorem enc_c (H : Has w0 w m) (hv : ∀ u, Has w0 u m → InsAt u o l) (hn : n = l.length) (hl : l.length * 40 ≤ 140737488355328) : Calls Try.prog 10 #[.slice o n cap] w fun e w' =>
    ∃ v c, e = .returned (.tuple #[v, .int .i64 (encP l).2]) ∧ OwnC 5 1 v (encP l).1.length (byts (encP l).1) c ∧ Has w0 w' (c ++ m) := by
  subst hn
  apply c10
  refine s_loop (fun vs W => ∃ (i : Nat) (v : Value) (c : Hp), vs = [v, .int .i64 i] ∧ i ≤ l.length ∧ (∀ x ∈ l.take i, fitsP x = 0) ∧ OwnC 5 1 v ((l.take i).flatMap bytsP).length (byts ((l.take i).flatMap bytsP)) c ∧ Has w0 W (c ++ m))
    (fun vs _ => l.length - (intOf (vs.getD 1 undef)).toNat) ⟨0, _, [], rfl, by omega, by simp, OwnC.nil, H⟩ ?_
  rintro _ j W ⟨i, v, c, rfl, hi, hok, ho, H⟩
  obtain ⟨ov, capv, rfl⟩ := ho.slice
  refine s_asS (s_asI (s_ite (fun g => ?_) (fun g => ?_)))
  · simp only [decide_eq_true_eq] at g
    obtain ⟨x, hx⟩ : ∃ x, l[i]? = some x := ⟨_, List.getElem?_eq_getElem (by omega)⟩
    obtain ⟨gg, off, rfl, p0, p1, p2, p3, p4⟩ := (hv W (H.sub (by repeat (first | exact sb_refl | exact sb_nil | refine sb_cons (by repeat (first | exact pick_head | apply pick_tail | apply pick_app)) ?_ | refine sb_app (by repeat (first | exact cut_head | exact cut_all | apply cut_tail | apply cut_app)) ?_ | exact sb_one (by repeat (first | exact cut_head | exact cut_all | apply cut_tail | apply cut_app)))))).get hx
    refine s_req ⟨by omega, by omega⟩ (s_sm (s_loadI p0 (s_loadI p1 (s_loadI p2 (s_loadI p3 (s_loadI p4 ?_))))))
    (repeat (first | refine s_asI ?_ | refine s_asS ?_ | refine s_asP ?_ | refine s_asB ?_ | refine s_asA ?_ | refine s_asT ?_ | refine s_asM ?_ | refine s_asU ?_ | refine s_asC ?_ | refine s_sm ?_ | refine s_req (by first | rfl | exact ⟨rfl, rfl⟩) ?_ | refine h_ldI H (by repeat (first | exact pick_head | apply pick_tail | apply pick_app)) (by first | rfl | (simp; done)) ?_ | refine h_ldB H (by repeat (first | exact pick_head | apply pick_tail | apply pick_app)) (by first | rfl | (simp; done)) ?_ | refine h_ldP H (by repeat (first | exact pick_head | apply pick_tail | apply pick_app)) (by first | rfl | (simp; done)) ?_ | refine h_ldS H (by repeat (first | exact pick_head | apply pick_tail | apply pick_app)) (by first | rfl | (simp; done)) ?_ | refine h_ldM H (by repeat (first | exact pick_head | apply pick_tail | apply pick_app)) (by first | rfl | (simp; done)) ?_ | refine h_ldT H (by repeat (first | exact pick_head | apply pick_tail | apply pick_app)) (by first | rfl | (simp; done)) ?_ | refine h_ldV H (by repeat (first | exact pick_head | apply pick_tail | apply pick_app)) (by first | rfl | (simp; done)) ?_ | (refine h_new H fun _ u H => ?_) | (refine h_st H (by repeat (first | exact pick_head | apply pick_tail | apply pick_app)) (by first | (simp; done) | exact Nat.le_of_ble_eq_true rfl) rfl fun u H => ?_) | (refine h_drew H fun u H => ?_) | refine s_chk c_nil ?_))
    (refine s_call (bytes_c (x := x) H) ?_; rintro _ u ⟨v2, c2, rfl, H, h1, h2⟩; refine ⟨_, rfl, ?_⟩)
    by_cases hf : fitsP x = 0
    · have ho2 := h1 hf
      obtain ⟨o2, cap2, rfl⟩ := ho2.slice
      refine s_asU (s_req rfl (s_asS (s_asI (s_ite (fun g => by simp [hf] at g) (fun g => ?_)))))
      have hbl := byts_le x
      have hfl := flat_le (l.take i)
      rw [List.length_take] at hfl
      refine h_appAll elemY (by decide) H (c := c) (m' := c2 ++ (cl _ 40 (insR x) :: m)) (by repeat (first | exact cut_head | exact cut_all | apply cut_tail | apply cut_app)) ho (br1 (bytsP x)) (br_one _) (bytAt_own ho2 H (by repeat (first | exact cut_head | exact cut_all | apply cut_tail | apply cut_app))) (by simp) (by omega) (by omega) fun v' c' w' ho' H => ?_
      obtain ⟨o3, cap3, rfl⟩ := ho'.slice
      refine s_asS (s_next ⟨rfl, rfl⟩ ?_)
      rw [w_succ (by omega)]
      simp only [if_true]
      refine ⟨⟨i + 1, _, c', rfl, by omega, ?_, ?_, H.sub (by repeat (first | exact sb_refl | exact sb_nil | refine sb_cons (by repeat (first | exact pick_head | apply pick_tail | apply pick_app)) ?_ | refine sb_app (by repeat (first | exact cut_head | exact cut_all | apply cut_tail | apply cut_app)) ?_ | exact sb_one (by repeat (first | exact cut_head | exact cut_all | apply cut_tail | apply cut_app))))⟩, by simp [intOf]; omega⟩
      · intro y hy
        rw [take_succ' hx] at hy
        rcases List.mem_append.1 hy with hy | hy
        · exact hok y hy
        · simp at hy
          subst hy
          exact hf
      · rw [take_succ' hx, List.flatMap_append, List.length_append, byts_append]
        have : [x].flatMap bytsP = bytsP x := by simp
        rw [this]
        exact ho'
    · obtain rfl := h2 hf
      refine s_asU (s_req rfl (s_asS (s_asI (s_ite (fun g => s_ret ⟨.slice none 0 0, [], ?_, ?_, H.sub (by repeat (first | exact sb_refl | exact sb_nil | refine sb_cons (by repeat (first | exact pick_head | apply pick_tail | apply pick_app)) ?_ | refine sb_app (by repeat (first | exact cut_head | exact cut_all | apply cut_tail | apply cut_app)) ?_ | exact sb_one (by repeat (first | exact cut_head | exact cut_all | apply cut_tail | apply cut_app))))⟩) (fun g => by simp [hf] at g)))))
      · rw [encP_bad hok hx hf]
      · rw [encP_bad hok hx hf]
        exact OwnC.nil
  · simp only [decide_eq_false_iff_not] at g
    have hil : i = l.length := by omega
    subst hil
    rw [List.take_length] at hok ho
    have he := encP_ok hok
    refine s_ite (fun g => s_ret ⟨.slice none 0 0, [], ?_, ?_, H.sub (by repeat (first | exact sb_refl | exact sb_nil | refine sb_cons (by repeat (first | exact pick_head | apply pick_tail | apply pick_app)) ?_ | refine sb_app (by repeat (first | exact cut_head | exact cut_all | apply cut_tail | apply cut_app)) ?_ | exact sb_one (by repeat (first | exact cut_head | exact cut_all | apply cut_tail | apply cut_app))))⟩) (fun g => s_ret ⟨.slice ov ((l.take l.length).flatMap bytsP).length capv, c, ?_, ?_, H⟩)
    · simp only [decide_eq_true_eq] at g
      rw [he, if_pos (by rw [List.take_length] at g; omega)]
    · simp only [decide_eq_true_eq] at g
      rw [he, if_pos (by rw [List.take_length] at g; omega)]
      exact OwnC.nil
    · simp only [decide_eq_false_iff_not] at g
      rw [he, if_neg (by rw [List.take_length] at g; omega)]
    · simp only [decide_eq_false_iff_not] at g
      rw [he, if_neg (by rw [List.take_length] at g; omega), List.take_length]
      exact ho
theorem fits_op (h : fitsP x = 0) : 0 ≤ x.op ∧ x.op < 28 := bad_op fun hb => by rw [fits_bad hb] at h; cases h
theorem immB_len (h : 0 ≤ x.op ∧ x.op < 28) : ((immB x).length : Int) = wideP x.op := by
  obtain ⟨hw, _⟩ := wide_is h.1 h.2
  unfold immB
  rcases hw with h | h | h <;> rw [h] <;> rfl
theorem immB_get (h : 0 ≤ x.op ∧ x.op < 28) {k : Nat} (hk : (k : Int) < wideP x.op) : (immB x)[k]? = some (byt (shrI .i64 x.imm (8 * k))) := by
  obtain ⟨hw, _⟩ := wide_is h.1 h.2
  unfold immB
  rcases hw with h | h | h
  · omega
  · have : k = 0 := by omega
    subst this
    rw [if_neg (by omega), if_pos h]
    have := shr0 x.imm
    simp only [Int.ofNat_zero, Int.mul_zero] at *
    rw [this]
    rfl
  · rw [if_pos h]
    have hk2 : k = 0 ∨ k = 1 := by omega
    rcases hk2 with rfl | rfl
    · have := shr0 x.imm
      rw [show (8 : Int) * ((0 : Nat) : Int) = 0 by rfl, this]
      rfl
    · rw [show (8 : Int) * ((1 : Nat) : Int) = 8 by rfl, shr8]
      rfl

/-- append of one byte. -/
theorem h_byte {Q : Ending → World → Prop} {ρ : Lv} {k : Value → T} {L : List Int} {r : Nat} {y : Int} {m1 : Hp} (H : Has w0 w m) (hp : Cut c m m') (ho : OwnC 5 1 (.slice o L.length cap) L.length (byts L) c) (hr : Pick (cl r 5 [.int .u8 (IntKind.wrap .u8 y)]) m m1) (hl : L.length < 140737488355328)
    (hk : ∀ o' cap' c' w', OwnC 5 1 (.slice o' (L ++ [byt y]).length cap') (L ++ [byt y]).length (byts (L ++ [byt y])) c' → Has w0 w' (c' ++ m') → (k (.slice o' (L ++ [byt y]).length cap')).sem Try.prog Q ρ w') :
    (T.run (biV .append #[23, 23] 23 #[.slice o L.length cap, .slice (some ⟨r, 0, none⟩) 1 1]) k).sem Try.prog Q ρ w :=
  h_app1 elemY H hp ho hr rfl (by simp [Value.oneCell']) (by omega) (by omega) fun v' c' w' ho' H => by
    obtain ⟨o', cap', rfl⟩ := ho'.slice
    rw [wrap_u8] at ho'
    have hlen : (L ++ [byt y]).length = L.length + 1 := by simp
    have := hk o' cap' c' w'
    rw [hlen, byts_append] at this
    exact this ho' H

theorem renc_c (H : Has w0 w m) (hv : ∀ u, Has w0 u m → InsAt u o l) (hn : n = l.length) (hl : l.length * 40 ≤ 140737488355328) : Calls Try.prog 11 #[.slice o n cap] w fun e w' =>
    ∃ v c, e = .returned (.tuple #[v, .int .i64 (encP l).2]) ∧ OwnC 5 1 v (encP l).1.length (byts (encP l).1) c ∧ Has w0 w' (c ++ m) := by
  subst hn
  apply c11
  refine s_loop (fun vs W => ∃ (i : Nat) (v : Value) (c : Hp), vs = [v, .int .i64 i] ∧ i ≤ l.length ∧ (∀ x ∈ l.take i, fitsP x = 0) ∧ OwnC 5 1 v ((l.take i).flatMap bytsP).length (byts ((l.take i).flatMap bytsP)) c ∧ Has w0 W (c ++ m))
    (fun vs _ => l.length - (intOf (vs.getD 1 undef)).toNat) ⟨0, _, [], rfl, by omega, by simp, OwnC.nil, H⟩ ?_
  rintro _ j W ⟨i, v, c, rfl, hi, hok, ho, H⟩
  obtain ⟨ov, capv, rfl⟩ := ho.slice
  refine s_asS (s_asI (s_ite (fun g => ?_) (fun g => ?_)))
  · simp only [decide_eq_true_eq] at g
    obtain ⟨x, hx⟩ : ∃ x, l[i]? = some x := ⟨_, List.getElem?_eq_getElem (by omega)⟩
    obtain ⟨gg, off, rfl, p0, p1, p2, p3, p4⟩ := (hv W (H.sub (by repeat (first | exact sb_refl | exact sb_nil | refine sb_cons (by repeat (first | exact pick_head | apply pick_tail | apply pick_app)) ?_ | refine sb_app (by repeat (first | exact cut_head | exact cut_all | apply cut_tail | apply cut_app)) ?_ | exact sb_one (by repeat (first | exact cut_head | exact cut_all | apply cut_tail | apply cut_app)))))).get hx
    refine s_req ⟨by omega, by omega⟩ (s_sm (s_loadI p0 (s_loadI p1 (s_loadI p2 (s_loadI p3 (s_loadI p4 ?_))))))
    (refine h_new H fun n16 u H => ?_)
    (repeat (first | refine s_asI ?_ | refine s_asS ?_ | refine s_asP ?_ | refine s_asB ?_ | refine s_asA ?_ | refine s_asT ?_ | refine s_asM ?_ | refine s_asU ?_ | refine s_asC ?_ | refine s_sm ?_ | refine s_req (by first | rfl | exact ⟨rfl, rfl⟩) ?_ | refine h_ldI H (by repeat (first | exact pick_head | apply pick_tail | apply pick_app)) (by first | rfl | (simp; done)) ?_ | refine h_ldB H (by repeat (first | exact pick_head | apply pick_tail | apply pick_app)) (by first | rfl | (simp; done)) ?_ | refine h_ldP H (by repeat (first | exact pick_head | apply pick_tail | apply pick_app)) (by first | rfl | (simp; done)) ?_ | refine h_ldS H (by repeat (first | exact pick_head | apply pick_tail | apply pick_app)) (by first | rfl | (simp; done)) ?_ | refine h_ldM H (by repeat (first | exact pick_head | apply pick_tail | apply pick_app)) (by first | rfl | (simp; done)) ?_ | refine h_ldT H (by repeat (first | exact pick_head | apply pick_tail | apply pick_app)) (by first | rfl | (simp; done)) ?_ | refine h_ldV H (by repeat (first | exact pick_head | apply pick_tail | apply pick_app)) (by first | rfl | (simp; done)) ?_ | (refine h_new H fun _ u H => ?_) | (refine h_st H (by repeat (first | exact pick_head | apply pick_tail | apply pick_app)) (by first | (simp; done) | exact Nat.le_of_ble_eq_true rfl) rfl fun u H => ?_) | (refine h_drew H fun u H => ?_) | refine s_chk c_nil ?_))
    have H : Has w0 u (cl n16 40 (insR x) :: (c ++ m)) := H
    (refine s_call (fits_c (x := x) H) ?_; rintro _ u ⟨rfl, H⟩; refine ⟨_, rfl, ?_⟩)
    refine s_asI (s_ite (fun g2 => s_ret ⟨.slice none 0 0, [], ?_, ?_, H.sub (by repeat (first | exact sb_refl | exact sb_nil | refine sb_cons (by repeat (first | exact pick_head | apply pick_tail | apply pick_app)) ?_ | refine sb_app (by repeat (first | exact cut_head | exact cut_all | apply cut_tail | apply cut_app)) ?_ | exact sb_one (by repeat (first | exact cut_head | exact cut_all | apply cut_tail | apply cut_app))))⟩) (fun g2 => ?_))
    · have hf : fitsP x ≠ 0 := by simpa using g2
      rw [encP_bad hok hx hf]
    · have hf : fitsP x ≠ 0 := by simpa using g2
      rw [encP_bad hok hx hf]
      exact OwnC.nil
    have hf : fitsP x = 0 := by simpa using g2
    have hop := fits_op hf
    obtain ⟨hw, hz⟩ := wide_is hop.1 hop.2
    have hfl := flat_le (l.take i)
    rw [List.length_take] at hfl
    generalize hL : (l.take i).flatMap bytsP = L at *
    refine h_ldI H (by repeat (first | exact pick_head | apply pick_tail | apply pick_app)) rfl ?_
    (refine h_new H fun n25 u H => ?_)
    refine h_byte H (by repeat (first | exact cut_head | exact cut_all | apply cut_tail | apply cut_app)) ho (by repeat (first | exact pick_head | apply pick_tail | apply pick_app)) (by omega) fun o1 cap1 c1 u ho1 H => s_asS ?_
    refine s_blk (Grown w0 (cl n16 40 (insR x) :: m) ((L ++ [byt x.op]) ++ (if fstP x.op = true then [byt x.a] else []))) ?_ ?_
    rotate_left
    · refine h_ldI H (by repeat (first | exact pick_head | apply pick_tail | apply pick_app)) rfl ?_
      (refine s_call (first_c (op := x.op) H) ?_; rintro _ u ⟨rfl, H⟩; refine ⟨_, rfl, ?_⟩)
      refine s_asB (s_ite (fun g3 => h_ldI H (by repeat (first | exact pick_head | apply pick_tail | apply pick_app)) rfl ?_) (fun g3 => s_next ⟨rfl, rfl⟩ ?_))
      · (refine h_new H fun n77 u H => ?_)
        refine h_byte H (m' := cl n77 5 [.int .u8 (IntKind.wrap .u8 x.a)] :: cl n25 5 [.int .u8 (IntKind.wrap .u8 x.op)] :: cl n16 40 (insR x) :: m) (by repeat (first | exact cut_head | exact cut_all | apply cut_tail | apply cut_app)) ho1 (by repeat (first | exact pick_head | apply pick_tail | apply pick_app)) (by simp; omega) fun o2 cap2 c2 u ho2 H => s_asS (s_next ⟨rfl, rfl⟩ ?_)
        simp only [if_true]
        rw [g3, if_pos rfl]
        exact ⟨_, _, _, rfl, ho2, H.sub (by repeat (first | exact sb_refl | exact sb_nil | refine sb_cons (by repeat (first | exact pick_head | apply pick_tail | apply pick_app)) ?_ | refine sb_app (by repeat (first | exact cut_head | exact cut_all | apply cut_tail | apply cut_app)) ?_ | exact sb_one (by repeat (first | exact cut_head | exact cut_all | apply cut_tail | apply cut_app))))⟩
      · simp only [if_true]
        rw [g3, if_neg (by simp : ¬ (false = true)), List.append_nil]
        exact ⟨_, _, _, rfl, ho1, H.sub (by repeat (first | exact sb_refl | exact sb_nil | refine sb_cons (by repeat (first | exact pick_head | apply pick_tail | apply pick_app)) ?_ | refine sb_app (by repeat (first | exact cut_head | exact cut_all | apply cut_tail | apply cut_app)) ?_ | exact sb_one (by repeat (first | exact cut_head | exact cut_all | apply cut_tail | apply cut_app))))⟩
    clear ho1 H
    rintro _ _ W ⟨o1, cap1, c1, rfl, ho1, H⟩
    refine s_asS (s_blk (Grown w0 (cl n16 40 (insR x) :: m) ((L ++ [byt x.op]) ++ (if fstP x.op = true then [byt x.a] else []) ++ (if twoP x.op = true then [byt x.b] else []))) ?_ ?_)
    rotate_left
    · refine h_ldI H (by repeat (first | exact pick_head | apply pick_tail | apply pick_app)) rfl ?_
      (refine s_call (two_c (op := x.op) H) ?_; rintro _ u ⟨rfl, H⟩; refine ⟨_, rfl, ?_⟩)
      refine s_asB (s_ite (fun g3 => h_ldI H (by repeat (first | exact pick_head | apply pick_tail | apply pick_app)) rfl ?_) (fun g3 => s_next ⟨rfl, rfl⟩ ?_))
      · (refine h_new H fun n77 u H => ?_)
        refine h_byte H (m' := cl n77 5 [.int .u8 (IntKind.wrap .u8 x.b)] :: cl n16 40 (insR x) :: m) (by repeat (first | exact cut_head | exact cut_all | apply cut_tail | apply cut_app)) ho1 (by repeat (first | exact pick_head | apply pick_tail | apply pick_app)) (by simp; split <;> simp <;> omega) fun o2 cap2 c2 u ho2 H => s_asS (s_next ⟨rfl, rfl⟩ ?_)
        simp only [if_true]
        rw [g3, if_pos rfl]
        exact ⟨_, _, _, rfl, ho2, H.sub (by repeat (first | exact sb_refl | exact sb_nil | refine sb_cons (by repeat (first | exact pick_head | apply pick_tail | apply pick_app)) ?_ | refine sb_app (by repeat (first | exact cut_head | exact cut_all | apply cut_tail | apply cut_app)) ?_ | exact sb_one (by repeat (first | exact cut_head | exact cut_all | apply cut_tail | apply cut_app))))⟩
      · simp only [if_true]
        rw [g3, if_neg (by simp : ¬ (false = true)), List.append_nil]
        exact ⟨_, _, _, rfl, ho1, H.sub (by repeat (first | exact sb_refl | exact sb_nil | refine sb_cons (by repeat (first | exact pick_head | apply pick_tail | apply pick_app)) ?_ | refine sb_app (by repeat (first | exact cut_head | exact cut_all | apply cut_tail | apply cut_app)) ?_ | exact sb_one (by repeat (first | exact cut_head | exact cut_all | apply cut_tail | apply cut_app))))⟩
    clear ho1 H
    rintro _ _ W ⟨o1, cap1, c1, rfl, ho1, H⟩
    have hlen2 : ((L ++ [byt x.op]) ++ (if fstP x.op = true then [byt x.a] else []) ++ (if twoP x.op = true then [byt x.b] else [])).length ≤ L.length + 3 := by
      simp only [List.length_append]
      split <;> split <;> simp
    have hLb : L ++ bytsP x = ((L ++ [byt x.op]) ++ (if fstP x.op = true then [byt x.a] else []) ++ (if twoP x.op = true then [byt x.b] else [])) ++ immB x := by
      unfold bytsP
      simp
    generalize hL2 : ((L ++ [byt x.op]) ++ (if fstP x.op = true then [byt x.a] else []) ++ (if twoP x.op = true then [byt x.b] else [])) = L2 at *
    refine s_asS (s_loop (fun vs W => ∃ (k : Nat) (v : Value), vs = [v, .int .i64 k] ∧ (k : Int) ≤ wideP x.op ∧ Grown w0 (cl n16 40 (insR x) :: m) (L2 ++ (immB x).take k) [v] W)
      (fun vs _ => (wideP x.op).toNat - (intOf (vs.getD 1 undef)).toNat) ⟨0, _, rfl, by omega, o1, cap1, c1, by simp, by simpa using ho1, H⟩ ?_)
    clear ho1 H
    rintro _ _ W ⟨k, v, rfl, hk, o1, cap1, c1, hv', ho1, H⟩
    simp only [List.cons.injEq, and_true] at hv'
    subst hv'
    refine s_asS (s_asI (h_ldI H (by repeat (first | exact pick_head | apply pick_tail | apply pick_app)) rfl ?_))
    (refine s_call (wide_c (op := x.op) H) ?_; rintro _ u ⟨rfl, H⟩; refine ⟨_, rfl, ?_⟩)
    refine s_asI (s_ite (fun g3 => h_ldI H (by repeat (first | exact pick_head | apply pick_tail | apply pick_app)) rfl ?_) (fun g3 => s_next ⟨rfl, rfl⟩ ?_))
    · simp only [decide_eq_true_eq] at g3
      rw [wrapI (n := 8 * (k : Int)) (by omega) (by omega)]
      refine s_req (by omega) ?_
      (refine h_new H fun n50 u H => ?_)
      have hil := immB_len (x := x) hop
      refine h_byte H (m' := cl n50 5 [.int .u8 (IntKind.wrap .u8 (shrI .i64 x.imm (8 * (k : Int))))] :: cl n16 40 (insR x) :: m) (by repeat (first | exact cut_head | exact cut_all | apply cut_tail | apply cut_app)) ho1 (by repeat (first | exact pick_head | apply pick_tail | apply pick_app)) (by simp; omega) fun o2 cap2 c2 u ho2 H => s_asS (s_next ⟨rfl, rfl⟩ ?_)
      rw [w_succ (by omega)]
      simp (config := { decide := true }) only [if_true, if_false]
      refine ⟨⟨k + 1, _, rfl, by omega, o2, cap2, c2, ?_, ?_, H.sub (by repeat (first | exact sb_refl | exact sb_nil | refine sb_cons (by repeat (first | exact pick_head | apply pick_tail | apply pick_app)) ?_ | refine sb_app (by repeat (first | exact cut_head | exact cut_all | apply cut_tail | apply cut_app)) ?_ | exact sb_one (by repeat (first | exact cut_head | exact cut_all | apply cut_tail | apply cut_app))))⟩, by simp [intOf]; omega⟩
      · rw [take_succ' (immB_get hop g3), ← List.append_assoc]
      · rw [take_succ' (immB_get hop g3), ← List.append_assoc]
        exact ho2
    · simp only [decide_eq_false_iff_not] at g3
      rw [w_succ (by omega)]
      simp (config := { decide := true }) only [if_true, if_false]
      have hil := immB_len (x := x) hop
      have htk : (immB x).take k = immB x := List.take_of_length_le (by omega)
      rw [htk, ← hLb] at ho1
      refine ⟨⟨i + 1, _, c1, rfl, by omega, ?_, ?_, H.sub (by repeat (first | exact sb_refl | exact sb_nil | refine sb_cons (by repeat (first | exact pick_head | apply pick_tail | apply pick_app)) ?_ | refine sb_app (by repeat (first | exact cut_head | exact cut_all | apply cut_tail | apply cut_app)) ?_ | exact sb_one (by repeat (first | exact cut_head | exact cut_all | apply cut_tail | apply cut_app))))⟩, by simp [intOf]; omega⟩
      · intro y hy
        rw [take_succ' hx] at hy
        rcases List.mem_append.1 hy with hy | hy
        · exact hok y hy
        · simp at hy
          subst hy
          exact hf
      · rw [take_succ' hx, List.flatMap_append, hL]
        have : [x].flatMap bytsP = bytsP x := by simp
        rw [this, htk, ← hLb]
        exact ho1
  · simp only [decide_eq_false_iff_not] at g
    have hil : i = l.length := by omega
    subst hil
    rw [List.take_length] at hok ho
    have he := encP_ok hok
    refine s_ite (fun g => s_ret ⟨.slice none 0 0, [], ?_, ?_, H.sub (by repeat (first | exact sb_refl | exact sb_nil | refine sb_cons (by repeat (first | exact pick_head | apply pick_tail | apply pick_app)) ?_ | refine sb_app (by repeat (first | exact cut_head | exact cut_all | apply cut_tail | apply cut_app)) ?_ | exact sb_one (by repeat (first | exact cut_head | exact cut_all | apply cut_tail | apply cut_app))))⟩) (fun g => s_ret ⟨.slice ov ((l.take l.length).flatMap bytsP).length capv, c, ?_, ?_, H⟩)
    · simp only [decide_eq_true_eq] at g
      rw [he, if_pos (by rw [List.take_length] at g; omega)]
    · simp only [decide_eq_true_eq] at g
      rw [he, if_pos (by rw [List.take_length] at g; omega)]
      exact OwnC.nil
    · simp only [decide_eq_false_iff_not] at g
      rw [he, if_neg (by rw [List.take_length] at g; omega)]
    · simp only [decide_eq_false_iff_not] at g
      rw [he, if_neg (by rw [List.take_length] at g; omega), List.take_length]
      exact ho
end
end Go.Proofs.Ytgoecmggbcaoiaa
