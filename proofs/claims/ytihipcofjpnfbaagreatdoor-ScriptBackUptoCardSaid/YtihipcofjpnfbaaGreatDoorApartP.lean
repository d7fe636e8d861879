/- Unlike steps have unlike lines: plain. -/
import Derived.Test.YtihipcofjpnfbaaGreatDoorStepP
set_option linter.unusedVariables false
set_option linter.unusedSimpArgs false
set_option maxRecDepth 100000
set_option maxHeartbeats 2000000
namespace Go.Proofs.YtihipcofjpnfbaaGreatDoor
open Go hiding Expr
open Go.RowKit Tr

/-! ### Numbers -/
def valD (l : List UInt8) : Nat := l.foldl (fun a b => 10 * a + (b.toNat - 48)) 0
theorem valD_dU (u : Nat) : valD (dU u) = u := by
  induction u using Nat.strongRecOn with
  | ind u ih =>
    show valD (Lib.decDigits u) = u
    rw [Lib.decDigits]
    split
    · rename_i h
      have : (UInt8.ofNat (48 + u)).toNat = 48 + u := by rw [UInt8.toNat_ofNat']; omega
      unfold valD
      rw [List.foldl_cons, List.foldl_nil, this]
      omega
    · rename_i h
      have h1 : (UInt8.ofNat (48 + u % 10)).toNat = 48 + u % 10 := by rw [UInt8.toNat_ofNat']; omega
      have h2 := ih (u / 10) (by omega)
      have h2 : valD (Lib.decDigits (u / 10)) = u / 10 := h2
      unfold valD at h2 ⊢
      rw [List.foldl_append, h2]
      simp [h1]
      omega
theorem dU_mem (u : Nat) : ∀ b ∈ dU u, 48 ≤ b.toNat ∧ b.toNat ≤ 57 := by
  induction u using Nat.strongRecOn with
  | ind u ih =>
    show ∀ b ∈ Lib.decDigits u, _
    rw [Lib.decDigits]
    split
    · intro b hb
      rw [List.mem_singleton] at hb
      subst hb
      rw [UInt8.toNat_ofNat']
      omega
    · intro b hb
      rcases List.mem_append.1 hb with hb | hb
      · exact ih (u / 10) (by omega) b hb
      · rw [List.mem_singleton] at hb
        subst hb
        rw [UInt8.toNat_ofNat']
        omega
theorem dU_inj {a b : Nat} (h : dU a = dU b) : a = b := by rw [← valD_dU a, h, valD_dU]
theorem dU_no45 (u : Nat) (l : List UInt8) : dU u ≠ 45 :: l := by
  intro h
  have := dU_mem u 45 (by rw [h]; exact List.mem_cons_self ..)
  simp at this
theorem dI_inj {a b : Int} (h : dI a = dI b) : a = b := by
  simp only [dI, Lib.itoa] at h
  split at h <;> split at h
  · have := dU_inj (List.cons.inj h).2
    omega
  · exact absurd h.symm (dU_no45 _ _)
  · exact absurd h (dU_no45 _ _)
  · have := dU_inj h
    omega
def NoBlank (l : List UInt8) : Prop := (32 : UInt8) ∉ l
theorem dU_nb (u : Nat) : NoBlank (dU u) := fun h => by
  have := dU_mem u 32 h
  simp at this
theorem dI_nb (n : Int) : NoBlank (dI n) := by
  simp only [dI, Lib.itoa]
  split
  · intro h
    rcases List.mem_cons.1 h with h | h
    · simp at h
    · exact dU_nb _ h
  · exact dU_nb _

/-! ### Bytes -/
theorem dg_inj : ∀ a b : Fin 16, dg a.val = dg b.val → a = b := by decide
theorem dg_nb : ∀ a : Fin 16, dg a.val ≠ 32 := by decide
theorem dgI {a b : Int} (ha : 0 ≤ a ∧ a < 16) (hb : 0 ≤ b ∧ b < 16) (h : dg a.toNat = dg b.toNat) : a = b := by
  have := dg_inj ⟨a.toNat, by omega⟩ ⟨b.toNat, by omega⟩ h
  simp only [Fin.mk.injEq] at this
  omega
theorem hexW_inj {a b : Int} (ha : IsByte a) (hb : IsByte b) (h : hexW a = hexW b) : a = b := by
  have a1 := ha.1
  have a2 := ha.2
  have b1 := hb.1
  have b2 := hb.2
  simp only [hexW, List.cons.injEq, and_true] at h
  have h1 := dgI (by omega) (by omega) h.1
  have h2 := dgI (by omega) (by omega) h.2
  omega
theorem hexs_inj : ∀ {a b : List Int}, (∀ c ∈ a, IsByte c) → (∀ c ∈ b, IsByte c) → hexs a = hexs b → a = b
  | [], [], _, _, _ => rfl
  | [], y :: b, _, _, h => by simp [hexs, hexW] at h
  | x :: a, [], _, _, h => by simp [hexs, hexW] at h
  | x :: a, y :: b, ha, hb, h => by
    have h' : hexW x ++ hexs a = hexW y ++ hexs b := by simpa [hexs] using h
    obtain ⟨h1, h2⟩ := List.append_inj h' rfl
    rw [hexW_inj (ha x (by simp)) (hb y (by simp)) h1, hexs_inj (fun c hc => ha c (by simp [hc])) (fun c hc => hb c (by simp [hc])) h2]
theorem hexL_inj {a b : List Int} (ha : ∀ c ∈ a, IsByte c) (hb : ∀ c ∈ b, IsByte c) (h : hexL a = hexL b) : a = b := by
  unfold hexL at h
  split at h <;> split at h
  · rename_i h1 h2
    rw [h1, h2]
  · have := congrArg List.length h
    rw [hexs_len] at this
    simp at this
    omega
  · have := congrArg List.length h
    rw [hexs_len] at this
    simp at this
    omega
  · exact hexs_inj ha hb h
theorem hexL_nb {a : List Int} (ha : ∀ c ∈ a, IsByte c) : NoBlank (hexL a) := by
  unfold hexL
  split
  · intro h; simp at h
  · intro h
    obtain ⟨c, hc, h⟩ := List.mem_flatMap.1 h
    have h1 := (ha c hc).1
    have h2 := (ha c hc).2
    simp only [hexW, List.mem_cons, List.not_mem_nil, or_false] at h
    rcases h with h | h
    · exact dg_nb ⟨(c / 16).toNat, by omega⟩ h.symm
    · exact dg_nb ⟨(c % 16).toNat, by omega⟩ h.symm

/-! ### Words behind one another -/
theorem split_first {t t' : List UInt8} (ht : t = [] ∨ ∃ s, t = 32 :: s) (ht' : t' = [] ∨ ∃ s, t' = 32 :: s) : ∀ {x x' : List UInt8}, NoBlank x → NoBlank x' → x ++ t = x' ++ t' → x = x' ∧ t = t'
  | [], [], _, _, h => ⟨rfl, h⟩
  | [], c :: r, _, h2, h => by
    rcases ht with rfl | ⟨s, rfl⟩
    · cases h
    · simp at h
      exact absurd h.1 (fun e => h2 (by rw [← e]; exact List.mem_cons_self ..))
  | c :: r, [], h1, _, h => by
    rcases ht' with rfl | ⟨s, rfl⟩
    · cases h
    · simp at h
      exact absurd h.1 (fun e => h1 (by rw [e]; exact List.mem_cons_self ..))
  | c :: r, c' :: r', h1, h2, h => by
    rw [List.cons_append, List.cons_append] at h
    obtain ⟨hc, h4⟩ := List.cons.inj h
    subst hc
    obtain ⟨rfl, h3⟩ := split_first ht ht' (fun hm => h1 (List.mem_cons_of_mem _ hm)) (fun hm => h2 (List.mem_cons_of_mem _ hm)) h4
    exact ⟨rfl, h3⟩
theorem jt_head (r : List (List UInt8)) : jt r = [] ∨ ∃ s, jt r = 32 :: s := by
  cases r with
  | nil => exact .inl rfl
  | cons x r => exact .inr ⟨_, jt_cons⟩
theorem jt_inj : ∀ {a b : List (List UInt8)}, (∀ x ∈ a, NoBlank x) → (∀ x ∈ b, NoBlank x) → jt a = jt b → a = b
  | [], [], _, _, _ => rfl
  | [], y :: b, _, _, h => by rw [jt_cons] at h; cases h
  | x :: a, [], _, _, h => by rw [jt_cons] at h; cases h
  | x :: a, y :: b, ha, hb, h => by
    rw [jt_cons, jt_cons] at h
    obtain ⟨_, h⟩ := List.cons.inj h
    obtain ⟨rfl, h2⟩ := split_first (jt_head a) (jt_head b) (ha x (by simp)) (hb y (by simp)) h
    rw [jt_inj (fun z hz => ha z (by simp [hz])) (fun z hz => hb z (by simp [hz])) h2]

/-! ### A step's words -/
def keysW (l : List K) : List (List UInt8) := dI l.length :: kw l
theorem kw_inj : ∀ {a b : List K}, kw a = kw b → a = b
  | [], [], _ => rfl
  | [], y :: b, h => by simp [kw] at h
  | x :: a, [], h => by simp [kw] at h
  | x :: a, y :: b, h => by
    have h' : dI x.t :: dI x.r :: kw a = dI y.t :: dI y.r :: kw b := by simpa [kw] using h
    obtain ⟨h1, h2⟩ := List.cons.inj h'
    obtain ⟨h2, h3⟩ := List.cons.inj h2
    have e1 : x.t = y.t := dI_inj h1
    have e2 : x.r = y.r := dI_inj h2
    have e3 : x = y := by
      cases x
      cases y
      simp only at e1 e2
      rw [e1, e2]
    rw [kw_inj h3, e3]
theorem keysW_inj {a b : List K} {r r' : List (List UInt8)} (h : keysW a ++ r = keysW b ++ r') : a = b ∧ r = r' := by
  unfold keysW at h
  rw [List.cons_append, List.cons_append] at h
  obtain ⟨h1, h2⟩ := List.cons.inj h
  have hl : a.length = b.length := by have := dI_inj h1; omega
  obtain ⟨h3, h4⟩ := List.append_inj h2 (by rw [kw_len, kw_len, hl])
  exact ⟨kw_inj h3, h4⟩
theorem keysW_nb (l : List K) : ∀ x ∈ keysW l, NoBlank x := by
  intro x hx
  rcases List.mem_cons.1 hx with rfl | hx
  · exact dI_nb _
  · obtain ⟨k, _, hx⟩ := List.mem_flatMap.1 hx
    simp at hx
    rcases hx with rfl | rfl <;> exact dI_nb _
theorem map_dI_inj : ∀ {a b : List Int}, a.map dI = b.map dI → a = b
  | [], [], _ => rfl
  | [], y :: b, h => by cases h
  | x :: a, [], h => by cases h
  | x :: a, y :: b, h => by
    obtain ⟨h1, h2⟩ := List.cons.inj h
    rw [dI_inj h1, map_dI_inj h2]
def txW (t : TX) : List (List UInt8) := wCode :: hexL t.code :: wArgs :: dI t.args.length :: (t.args.map dI ++ (wReads :: (keysW t.rd ++ (wWrites :: (keysW t.wr ++ [])))))
theorem txW_inj {a b : TX} (ha : TxOk a) (hb : TxOk b) (h : txW a = txW b) : a.code = b.code ∧ a.args = b.args ∧ a.rd = b.rd ∧ a.wr = b.wr := by
  unfold txW at h
  obtain ⟨_, h⟩ := List.cons.inj h
  obtain ⟨h1, h⟩ := List.cons.inj h
  obtain ⟨_, h⟩ := List.cons.inj h
  obtain ⟨h2, h⟩ := List.cons.inj h
  have hl : a.args.length = b.args.length := by have := dI_inj h2; omega
  obtain ⟨h3, h⟩ := List.append_inj h (by rw [List.length_map, List.length_map, hl])
  obtain ⟨_, h⟩ := List.cons.inj h
  obtain ⟨h4, h⟩ := keysW_inj h
  obtain ⟨_, h⟩ := List.cons.inj h
  obtain ⟨h5, _⟩ := keysW_inj h
  exact ⟨hexL_inj ha.code hb.code h1, map_dI_inj h3, h4, h5⟩
theorem txW_nb {t : TX} (h : TxOk t) : ∀ x ∈ txW t, NoBlank x := by
  intro x hx
  simp only [txW, List.mem_cons, List.mem_append, List.append_nil] at hx
  rcases hx with rfl | rfl | rfl | rfl | hx | rfl | hx | rfl | hx
  · unfold NoBlank; decide
  · exact hexL_nb h.code
  · unfold NoBlank; decide
  · exact dI_nb _
  · obtain ⟨a, _, rfl⟩ := List.mem_map.1 hx
    exact dI_nb _
  · unfold NoBlank; decide
  · exact keysW_nb _ x hx
  · unfold NoBlank; decide
  · exact keysW_nb _ x hx
theorem txnL_jt2 (t : TX) : 32 :: txnL t = jt (txW t) := by
  rw [txnL_jt, txnA_jt, List.take_of_length_le (Nat.le_refl _)]
  simp [txW, jt, keysW, keysL]
def fw (x : ST) : List (List UInt8) :=
  if x.kind = 1 ∨ x.kind = 6 ∨ x.kind = 13 ∨ x.kind = 11 then [dI x.at_]
  else if x.kind = 2 then dI x.client :: dI x.at_ :: txW x.tx
  else if x.kind = 3 ∨ x.kind = 16 ∨ x.kind = 17 then [dI x.client]
  else if x.kind = 4 then dI x.client :: dI x.at_ :: (keysW x.keys ++ [])
  else if x.kind = 5 then [dI x.at_, dI x.count]
  else if x.kind = 7 ∨ x.kind = 8 ∨ x.kind = 9 ∨ x.kind = 18 ∨ x.kind = 19 ∨ x.kind = 20 then [dI x.frm, dI x.dst]
  else if x.kind = 10 then [dI x.frm, dI x.dst, dI x.place, dI x.wth]
  else if x.kind = 12 then [dI x.at_, dI x.count, dI x.keep]
  else []
theorem fw_nb {x : ST} (hx : StOk x) : ∀ y ∈ fw x, NoBlank y := by
  intro y hy
  unfold fw at hy
  repeat' split at hy
  all_goals simp only [List.mem_cons, List.not_mem_nil, or_false, List.mem_append] at hy
  · subst hy; exact dI_nb _
  · rcases hy with rfl | rfl | hy
    · exact dI_nb _
    · exact dI_nb _
    · exact txW_nb hx.tx y hy
  · subst hy; exact dI_nb _
  · rcases hy with rfl | rfl | hy
    · exact dI_nb _
    · exact dI_nb _
    · exact keysW_nb _ y hy
  · rcases hy with rfl | rfl <;> exact dI_nb _
  · rcases hy with rfl | rfl <;> exact dI_nb _
  · rcases hy with rfl | rfl | rfl | rfl <;> exact dI_nb _
  · rcases hy with rfl | rfl | rfl <;> exact dI_nb _
theorem rline_fw {x : ST} (h : (rline x).2 = 0) : (rline x).1 = wordK x.kind ++ jt (fw x) := by
  unfold rline at h ⊢
  unfold fw
  by_cases g1 : x.kind = 1 ∨ x.kind = 6 ∨ x.kind = 13 ∨ x.kind = 11
  · rw [if_pos g1, if_pos g1]; simp [jt]
  rw [if_neg g1] at h ⊢
  rw [if_neg g1]
  by_cases g2 : x.kind = 2
  · rw [if_pos g2] at h ⊢
    rw [if_pos g2]
    by_cases g3 : (resT x.tx).2 ≠ 0
    · rw [if_pos g3] at h
      exact absurd h g3
    · rw [if_neg g3, jt_cons, jt_cons, ← txnL_jt2]
      have : resT x.tx = (txnL x.tx, 0) := by
        unfold resT at g3 ⊢
        split at g3
        · simp at g3
        · rename_i h
          rw [if_neg h]
      rw [this]
      simp
  rw [if_neg g2] at h ⊢
  rw [if_neg g2]
  by_cases g3 : x.kind = 3 ∨ x.kind = 16 ∨ x.kind = 17
  · rw [if_pos g3, if_pos g3]; simp [jt]
  rw [if_neg g3, if_neg g3]
  by_cases g4 : x.kind = 4
  · rw [if_pos g4, if_pos g4]; simp [jt, keysW, keysL]
  rw [if_neg g4, if_neg g4]
  by_cases g5 : x.kind = 5
  · rw [if_pos g5, if_pos g5]; simp [jt]
  rw [if_neg g5, if_neg g5]
  by_cases g6 : x.kind = 7 ∨ x.kind = 8 ∨ x.kind = 9 ∨ x.kind = 18 ∨ x.kind = 19 ∨ x.kind = 20
  · rw [if_pos g6, if_pos g6]; simp [jt]
  rw [if_neg g6, if_neg g6]
  by_cases g7 : x.kind = 10
  · rw [if_pos g7, if_pos g7]; simp [jt]
  rw [if_neg g7, if_neg g7]
  by_cases g8 : x.kind = 12
  · rw [if_pos g8, if_pos g8]; simp [jt]
  rw [if_neg g8, if_neg g8]
  simp [jt]
theorem words_nodup : (forms.map (·.1)).Nodup := by decide
theorem words_nb : ∀ p ∈ forms, NoBlank p.1 := by unfold NoBlank; decide
theorem wordK_nb (k : Int) : NoBlank (wordK k) := by
  unfold wordK
  split
  · rw [List.getD_eq_getElem?_getD]
    cases h : forms[k.toNat]? with
    | none => intro h; simp at h
    | some p => exact words_nb p (List.mem_of_getElem? h)
  · intro h; simp at h
theorem wordK_kind {k : Int} (h : wordK k ≠ []) : 1 ≤ k ∧ k ≤ 20 := by
  unfold wordK at h
  split at h
  · assumption
  · exact absurd rfl h
theorem wordK_inj {a b : Int} (ha : wordK a ≠ []) (h : wordK a = wordK b) : a = b := by
  have h1 := wordK_kind ha
  have h2 := wordK_kind (h ▸ ha)
  unfold wordK at h
  rw [if_pos h1, if_pos h2, List.getD_eq_getElem?_getD, List.getD_eq_getElem?_getD] at h
  have hl : forms.length = 21 := rfl
  have e1 : forms[a.toNat]? = some forms[a.toNat] := List.getElem?_eq_getElem (by omega)
  have e2 : forms[b.toNat]? = some forms[b.toNat] := List.getElem?_eq_getElem (by omega)
  rw [e1, e2, Option.getD_some, Option.getD_some] at h
  have := (List.getElem?_inj (i := a.toNat) (j := b.toNat) (by simp; omega) words_nodup).1 (by rw [List.getElem?_map, List.getElem?_map, e1, e2, Option.map_some, Option.map_some, h])
  omega
theorem res_ok {t : TX} (h : (resT t).2 = 0) : t.s = 0 ∧ t.q = 0 := by
  unfold resT at h
  split at h
  · simp at h
  · rename_i h'
    simp only [ne_eq, not_or, Decidable.not_not] at h'
    exact h'
theorem bare_same {x y : ST} (hx : bareS x = x) (hy : bareS y = y) (hk : x.kind = y.kind) (ox : StOk x) (oy : StOk y) (rx : (rline x).2 = 0) (ry : (rline y).2 = 0) (h : fw x = fw y) : x = y := by
  rw [← hx, ← hy]
  unfold fw at h
  unfold rline at rx ry
  unfold bareS
  rw [← hk] at h ry ⊢
  by_cases g1 : x.kind = 1 ∨ x.kind = 6 ∨ x.kind = 13 ∨ x.kind = 11
  · rw [if_pos g1, if_pos g1] at h
    rw [if_pos g1, if_pos g1, dI_inj (List.cons.inj h).1]
  rw [if_neg g1, if_neg g1] at h
  rw [if_neg g1] at rx ry
  rw [if_neg g1, if_neg g1]
  by_cases g2 : x.kind = 2
  · rw [if_pos g2, if_pos g2] at h
    rw [if_pos g2] at rx ry
    rw [if_pos g2, if_pos g2]
    obtain ⟨h1, h⟩ := List.cons.inj h
    obtain ⟨h2, h⟩ := List.cons.inj h
    obtain ⟨e1, e2, e3, e4⟩ := txW_inj ox.tx oy.tx h
    have hrx : (resT x.tx).2 = 0 := by
      by_cases e : (resT x.tx).2 = 0
      · exact e
      · rw [if_pos e] at rx
        exact rx
    have hry : (resT y.tx).2 = 0 := by
      by_cases e : (resT y.tx).2 = 0
      · exact e
      · rw [if_pos e] at ry
        exact ry
    obtain ⟨s1, q1⟩ := res_ok hrx
    obtain ⟨s2, q2⟩ := res_ok hry
    have : x.tx = y.tx := by
      revert e1 e2 e3 e4 s1 q1 s2 q2
      cases x.tx
      cases y.tx
      simp
      intros
      simp_all
    rw [dI_inj h1, dI_inj h2, this]
  rw [if_neg g2, if_neg g2] at h
  rw [if_neg g2, if_neg g2]
  by_cases g3 : x.kind = 3 ∨ x.kind = 16 ∨ x.kind = 17
  · rw [if_pos g3, if_pos g3] at h
    rw [if_pos g3, if_pos g3, dI_inj (List.cons.inj h).1]
  rw [if_neg g3, if_neg g3] at h
  rw [if_neg g3, if_neg g3]
  by_cases g4 : x.kind = 4
  · rw [if_pos g4, if_pos g4] at h
    obtain ⟨h1, h⟩ := List.cons.inj h
    obtain ⟨h2, h⟩ := List.cons.inj h
    rw [if_pos g4, if_pos g4, dI_inj h1, dI_inj h2, (keysW_inj h).1]
  rw [if_neg g4, if_neg g4] at h
  rw [if_neg g4, if_neg g4]
  by_cases g5 : x.kind = 5
  · rw [if_pos g5, if_pos g5] at h
    obtain ⟨h1, h⟩ := List.cons.inj h
    rw [if_pos g5, if_pos g5, dI_inj h1, dI_inj (List.cons.inj h).1]
  rw [if_neg g5, if_neg g5] at h
  rw [if_neg g5, if_neg g5]
  by_cases g6 : x.kind = 7 ∨ x.kind = 8 ∨ x.kind = 9 ∨ x.kind = 18 ∨ x.kind = 19 ∨ x.kind = 20
  · rw [if_pos g6, if_pos g6] at h
    obtain ⟨h1, h⟩ := List.cons.inj h
    rw [if_pos g6, if_pos g6, dI_inj h1, dI_inj (List.cons.inj h).1]
  rw [if_neg g6, if_neg g6] at h
  rw [if_neg g6, if_neg g6]
  by_cases g7 : x.kind = 10
  · rw [if_pos g7, if_pos g7] at h
    obtain ⟨h1, h⟩ := List.cons.inj h
    obtain ⟨h2, h⟩ := List.cons.inj h
    obtain ⟨h3, h⟩ := List.cons.inj h
    rw [if_pos g7, if_pos g7, dI_inj h1, dI_inj h2, dI_inj h3, dI_inj (List.cons.inj h).1]
  rw [if_neg g7, if_neg g7] at h
  rw [if_neg g7, if_neg g7]
  by_cases g8 : x.kind = 12
  · rw [if_pos g8, if_pos g8] at h
    obtain ⟨h1, h⟩ := List.cons.inj h
    obtain ⟨h2, h⟩ := List.cons.inj h
    rw [if_pos g8, if_pos g8, dI_inj h1, dI_inj h2, dI_inj (List.cons.inj h).1]
  rw [if_neg g8, if_neg g8]
theorem stepR_ok {x : ST} (h : (stepR x).2 = 0) : wordK x.kind ≠ [] ∧ bareS x = x ∧ (rline x).2 = 0 ∧ (stepR x).1 = wordK x.kind ++ jt (fw x) := by
  rw [step_eq] at h ⊢
  unfold rstepR at h ⊢
  by_cases g : wordK x.kind = [] ∨ bareS x ≠ x
  · rw [if_pos g] at h
    simp at h
  · rw [if_neg g] at h ⊢
    have g1 : wordK x.kind ≠ [] := fun e => g (.inl e)
    have g2 : bareS x = x := Decidable.byContradiction fun e => g (.inr e)
    exact ⟨g1, g2, h, rline_fw h⟩
/-- Steps whose lines are the same are the same. -/
theorem step_inj {x y : ST} (ox : StOk x) (oy : StOk y) (hx : (stepR x).2 = 0) (hy : (stepR y).2 = 0) : (stepR x).1 = (stepR y).1 ↔ x = y := by
  constructor
  · intro h
    obtain ⟨x1, x2, x3, x4⟩ := stepR_ok hx
    obtain ⟨y1, y2, y3, y4⟩ := stepR_ok hy
    rw [x4, y4] at h
    obtain ⟨h1, h2⟩ := split_first (jt_head _) (jt_head _) (wordK_nb _) (wordK_nb _) h
    exact bare_same x2 y2 (wordK_inj x1 h1) ox oy x3 y3 (jt_inj (fw_nb ox) (fw_nb oy) h2)
  · rintro rfl
    rfl
end Go.Proofs.YtihipcofjpnfbaaGreatDoor
