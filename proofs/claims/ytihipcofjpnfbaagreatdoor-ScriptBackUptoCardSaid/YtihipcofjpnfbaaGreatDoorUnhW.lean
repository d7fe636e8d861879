/- Unhex, by the program and by the reference; bytes.Equal. -/
import Derived.Test.YtihipcofjpnfbaaGreatDoorUnh
set_option linter.unusedVariables false
set_option linter.unusedSimpArgs false
set_option maxRecDepth 100000
set_option maxHeartbeats 8000000
namespace Go.Proofs.YtihipcofjpnfbaaGreatDoor
open Go hiding Expr
open Go.RowKit Tr

def unhP : List UInt8 → Option (List Int)
  | [] => some []
  | [_] => none
  | a :: b :: r => if dgt a.toNat < 16 ∧ dgt b.toNat < 16 then (unhP r).map (fun l => (16 * dgt a.toNat + dgt b.toNat) :: l) else none
def unhR (s : List UInt8) : List Int × Bool := if s = [45] then ([], true) else if s.length = 0 ∨ s.length % 2 ≠ 0 then ([], false) else match unhP s with | some l => (l, true) | none => ([], false)
theorem S_ext (l : List UInt8) (i j : Nat) : (S l).extract i j = S ((l.take j).drop i) := by
  apply ByteArray.ext
  rw [ByteArray.data_extract]
  apply Array.ext'
  simp [List.extract_eq_take_drop, List.drop_take]
theorem lit_toList (a : List UInt8) : (ByteArray.mk (Array.mk a)).toList = a := S_toList a
theorem beq_list (a b : List UInt8) : (a == b) = decide (a = b) := by rw [Bool.eq_iff_iff, beq_iff_eq, decide_eq_true_iff]

def UnhRes (w w' : World) (e : Ending) (r : List Int × Bool) : Prop := ∃ v c, e = .returned (.tuple #[v, .bool r.2]) ∧ OwnC 5 1 v r.1.length (byts r.1) c ∧ Has w w' c
theorem unhNil {w w' : World} {b : Bool} (f : Fr [] w w') : UnhRes w w' (.returned (.tuple #[.slice none 0 0, .bool b])) ([], b) := ⟨_, [], rfl, OwnC.nil, (Has.init w).fr0 f⟩
section
variable {w : World}
theorem unhex_c {s : List UInt8} (hE : ErrAt w) (hsz : s.length ≤ 2097152) : Calls Tryz.prog 11 #[.string (S s)] w fun e w' => UnhRes w w' e (unhR s) := by
  apply c11
  refine s_ite (fun g => ?_) (fun g => ?_)
  · rw [S_toList, lit_toList, beq_list, decide_eq_true_eq] at g
    refine s_ret ?_
    rw [unhR, if_pos g]
    exact unhNil (Fr.refl _ _)
  rw [S_toList, lit_toList, beq_list, decide_eq_false_iff_not] at g
  refine s_blk (fun vs W => vs = [] ∧ W = w ∧ s.length ≠ 0 ∧ s.length % 2 = 0) ?_ ?_
  · rintro _ j W ⟨rfl, rfl, hs0, hs2⟩
    have hR : unhR s = match unhP s with | some l => (l, true) | none => ([], false) := by rw [unhR, if_neg g, if_neg (by omega)]
    refine s_loop (fun vs W' => ∃ (rest : List UInt8) (acc : List Int) (v : Value) (c : Hp), vs = [.string (S rest), v] ∧ rest.length % 2 = 0 ∧ rest.length ≤ s.length ∧ acc.length ≤ s.length - rest.length ∧ unhP s = (unhP rest).map (fun l => acc ++ l) ∧ OwnC 5 1 v acc.length (byts acc) c ∧ Has W W' c)
      (fun vs _ => match vs.getD 0 undef with | .string b => b.size | _ => 0) ⟨s, [], _, [], rfl, hs2, by omega, by simp, by cases unhP s <;> simp, OwnC.nil, Has.init W⟩ ?_
    rintro _ j W' ⟨rest, acc, v, c, rfl, hr2, hrl, hal, hun, ho, H⟩
    obtain ⟨ov, cv, rfl⟩ := ho.slice
    refine s_asT (s_asS (s_ite (fun g1 => ?_) (fun g1 => ?_)))
    · rw [S_toList, lit_toList, beq_list] at g1
      have hne : rest ≠ [] := by simpa using g1
      obtain ⟨a, b, r, rfl⟩ : ∃ a b r, rest = a :: b :: r := by
        match rest, hne, hr2 with
        | [], h, _ => exact absurd rfl h
        | [x], _, h => simp at h
        | a :: b :: r, _, _ => exact ⟨a, b, r, rfl⟩
      have hext : (S (a :: b :: r)).extract 0 2 = S [a, b] := by rw [S_ext]; rfl
      have hAB : IsByte (a.toNat : Int) := u8_byte a
      have hBB : IsByte (b.toNat : Int) := u8_byte b
      obtain ⟨⟨a1, a2⟩, ⟨a3, a4⟩, a5, a6⟩ := hv_dgt hAB
      obtain ⟨⟨b1, b2⟩, ⟨b3, b4⟩, b5, b6⟩ := hv_dgt hBB
      refine s_req ⟨by decide, by rw [S_size]; simp; omega⟩ ?_
      rw [hext]
      refine s_call (pu_c (l := [a, b]) (errFr hE H.base) (by simp) (by simp)) ?_
      rintro e u ⟨⟨hall, rfl⟩ | ⟨hall, t, p, rfl⟩, f⟩
      · have H := H.fr0 f
        have ha := hall a (by simp)
        have hb := hall b (by simp)
        have hp : pval [a, b] = 16 * hv a.toNat + hv b.toNat := by simp [pval]
        have hpb : IsByte (pval [a, b]) := ⟨by rw [hp]; omega, by rw [hp]; omega⟩
        have hhex : hexL [pval [a, b]] = [dg (hv a.toNat).toNat, dg (hv b.toNat).toNat] := by
          show hexs [pval [a, b]] = _
          have e1 : (pval [a, b]) / 16 = hv a.toNat := by rw [hp]; omega
          have e2 : (pval [a, b]) % 16 = hv b.toNat := by rw [hp]; omega
          simp [hexs, hexW, e1, e2]
        refine ⟨_, rfl, s_asU (s_req rfl (s_asI (h_drew H fun u H => s_req (.inl rfl) (s_false rfl (s_req ⟨by decide, by rw [S_size]; simp; omega⟩ ?_)))))⟩
        rw [wrapU8 hpb]
        (refine h_new H fun n12 u H => ?_)
        refine s_chk c_nil (s_call (hex_c (l := [pval [a, b]]) (rowsAt_cells (ty := 5) (sp := []) (br1 _) (H.cells (by repeat (first | exact pick_head | apply pick_tail | apply pick_app)))) rfl (by intro c hc; simp at hc; subst hc; exact hpb) (by simp)) ?_)
        rintro _ u2 ⟨rfl, f2⟩
        have H := H.fr0 f2
        refine ⟨_, rfl, s_asT (s_chk c_nil ?_)⟩
        rw [hhex, S_toList, S_toList, beq_list]
        refine s_ite (fun g2 => ?_) (fun g2 => ?_)
        · have g2 : ¬ [dg (hv a.toNat).toNat, dg (hv b.toNat).toNat] = [a, b] := by intro e; rw [e] at g2; simp at g2
          refine s_ret ?_
          have hnot : ¬ (dgt a.toNat < 16 ∧ dgt b.toNat < 16) := by
            rintro ⟨h1, h2⟩
            have e1 := (a5.2 h1).2
            have e2 := (b5.2 h2).2
            refine g2 ?_
            rw [UInt8.toNat_inj.1 (by omega : (dg (hv a.toNat).toNat).toNat = a.toNat), UInt8.toNat_inj.1 (by omega : (dg (hv b.toNat).toNat).toNat = b.toNat)]
          rw [hR, hun, unhP, if_neg hnot]
          exact unhNil H.base
        · have g2 : [dg (hv a.toNat).toNat, dg (hv b.toNat).toNat] = [a, b] := by simpa using g2
          simp only [List.cons.injEq, and_true] at g2
          have h1 : dgt a.toNat < 16 := a5.1 ⟨ha, by rw [g2.1]⟩
          have h2 : dgt b.toNat < 16 := b5.1 ⟨hb, by rw [g2.2]⟩
          rw [unhP, if_pos ⟨h1, h2⟩] at hun
          (refine h_new H fun n15 u H => ?_)
          have hsl : acc.length + 2 ≤ 2097152 := by simp at hrl hal; omega
          have hrd : Reads u ⟨n15, 0, none⟩ (byts [pval [a, b]]) := (H.cells (by repeat (first | exact pick_head | apply pick_tail | apply pick_app))).reads
          refine h_app (j := 1) (news := byts [pval [a, b]]) elemB H (by repeat (first | exact cut_head | exact cut_all | apply cut_tail | apply cut_app)) ho rfl hrd (by intro u hu; simp [byts, br] at hu; subst hu; rfl) (by omega) (by omega) ?_
          intro v' c' u ho' H _
          obtain ⟨o', cap', rfl⟩ := ho'.slice
          refine s_asS (s_req ⟨by decide, by rw [S_size]; simp; omega⟩ (s_next (by first | exact ⟨rfl, rfl⟩ | trivial) ?_))
          simp (config := { decide := true }) only [if_true, if_false]
          have hext2 : (S (a :: b :: r)).extract 2 (S (a :: b :: r)).size = S r := by rw [S_ext, S_size]; simp
          rw [← byts_append] at ho'
          refine ⟨⟨r, acc ++ [pval [a, b]], _, c', by rw [hext2], by simp at hr2; omega, by simp at hrl; omega, by simp at hal hrl ⊢; omega, ?_, by rw [List.length_append]; exact ho', H.sub (by repeat (first | exact sb_refl | exact sb_nil | refine sb_cons (by repeat (first | exact pick_head | apply pick_tail | apply pick_app)) ?_ | refine sb_app (by repeat (first | exact cut_head | exact cut_all | apply cut_tail | apply cut_app)) ?_ | exact sb_one (by repeat (first | exact cut_head | exact cut_all | apply cut_tail | apply cut_app))))⟩, ?_⟩
          · rw [hun, hp, a6 h1, b6 h2, Option.map_map]
            congr 1
            funext l
            simp
          · show ByteArray.size _ < ByteArray.size _
            rw [hext2, S_size, S_size]
            simp
            omega
      · have H := H.fr0 f
        refine ⟨_, rfl, s_asU (s_req rfl (s_asI (h_drew H fun u H => s_req (.inr ⟨_, _, rfl⟩) (s_true rfl (s_chk c_nil (s_chk c_nil (s_ret ?_)))))))⟩
        have hnot : ¬ (dgt a.toNat < 16 ∧ dgt b.toNat < 16) := by
          rintro ⟨h1, h2⟩
          refine hall fun c hc => ?_
          simp at hc
          rcases hc with rfl | rfl
          · exact (a5.2 h1).1
          · exact (b5.2 h2).1
        rw [hR, hun, unhP, if_neg hnot]
        exact unhNil H.base
    · rw [S_toList, lit_toList, beq_list] at g1
      have he : rest = [] := by simpa using g1
      subst he
      refine s_ret ?_
      rw [hR, hun]
      simp only [unhP, Option.map_some, List.append_nil]
      exact ⟨_, c, rfl, ho, H⟩
  · rw [S_size]
    refine s_ite (fun g1 => ?_) (fun g1 => ?_)
    · have h0 : s.length = 0 := by simp at g1; simpa using g1
      refine s_ret ?_
      rw [unhR, if_neg g, if_pos (.inl h0)]
      exact unhNil (Fr.refl _ _)
    · have h0 : s.length ≠ 0 := by simp at g1; simpa using g1
      have ht : Int.tmod (s.length : Int) 2 = ((s.length % 2 : Nat) : Int) := by rw [Int.tmod_eq_emod_of_nonneg (by omega)]; omega
      refine s_req (by decide) ?_
      rw [ht]
      refine s_ite (fun g2 => ?_) (fun g2 => ?_)
      · have h2 : s.length % 2 ≠ 0 := by simp at g2; omega
        refine s_ret ?_
        rw [unhR, if_neg g, if_pos (.inr h2)]
        exact unhNil (Fr.refl _ _)
      · have h2 : s.length % 2 = 0 := by simp at g2; omega
        exact s_next ⟨rfl, rfl⟩ ⟨rfl, rfl, h0, h2⟩

theorem digit_c {x : Int} (h : IsByte x) : Calls Tryz.prog 118 #[.int .u8 x] w fun e w' => e = .returned (.int .u8 (dgt x)) ∧ Fr [] w w' := by
  have h0 := h.1
  have h1 := h.2
  apply c118
  refine s_blk (fun vs W => vs = [.bool (decide (48 ≤ x ∧ x ≤ 57))] ∧ W = w) ?_ ?_
  · rintro _ j W ⟨rfl, rfl⟩
    refine s_asB (s_ite (fun g => ?_) (fun g => ?_))
    · simp only [decide_eq_true_eq] at g
      refine s_ret ⟨?_, Fr.refl _ _⟩
      rw [dgt, if_pos g, wrapU8 (n := x - 48) ⟨by omega, by omega⟩]
    · simp only [decide_eq_false_iff_not] at g
      refine s_ite (fun g1 => ?_) (fun g1 => ?_)
      · simp only [decide_eq_true_eq] at g1
        refine s_ite (fun g2 => ?_) (fun g2 => ?_)
        · simp only [decide_eq_true_eq] at g2
          refine s_ret ⟨?_, Fr.refl _ _⟩
          rw [dgt, if_neg g, if_pos ⟨g1, g2⟩, wrapU8 (n := x - 97) ⟨by omega, by omega⟩, wrapU8 (n := x - 97 + 10) ⟨by omega, by omega⟩]
          congr 2
          omega
        · simp only [decide_eq_false_iff_not] at g2
          exact s_ret ⟨by rw [dgt, if_neg g, if_neg (fun h => g2 h.2)], Fr.refl _ _⟩
      · simp only [decide_eq_false_iff_not] at g1
        exact s_ret ⟨by rw [dgt, if_neg g, if_neg (fun h => g1 h.1)], Fr.refl _ _⟩
  · refine s_ite (fun g => ?_) (fun g => ?_)
    · simp only [decide_eq_true_eq] at g
      exact s_next ⟨rfl, rfl⟩ ⟨by simp [g], rfl⟩
    · simp only [decide_eq_false_iff_not] at g
      refine s_next ⟨rfl, rfl⟩ ⟨?_, rfl⟩
      have : ¬ (48 ≤ x) := by omega
      simp [this]

theorem runhex_c {s : List UInt8} (hsz : s.length ≤ 2097152) : Calls Tryz.prog 102 #[.string (S s)] w fun e w' => UnhRes w w' e (unhR s) := by
  apply c102
  refine s_ite (fun g => ?_) (fun g => ?_)
  · rw [S_toList, lit_toList, beq_list, decide_eq_true_eq] at g
    refine s_ret ?_
    rw [unhR, if_pos g]
    exact unhNil (Fr.refl _ _)
  rw [S_toList, lit_toList, beq_list, decide_eq_false_iff_not] at g
  refine s_blk (fun vs W => vs = [] ∧ W = w ∧ s.length ≠ 0 ∧ s.length % 2 = 0) ?_ ?_
  · rintro _ j W ⟨rfl, rfl, hs0, hs2⟩
    have hR : unhR s = match unhP s with | some l => (l, true) | none => ([], false) := by rw [unhR, if_neg g, if_neg (by omega)]
    refine s_loop (fun vs W' => ∃ (i : Nat) (acc : List Int) (v : Value) (c : Hp), vs = [v, .int .i64 (2 * i : Nat)] ∧ 2 * i ≤ s.length ∧ acc.length = i ∧ unhP s = (unhP (s.drop (2 * i))).map (fun l => acc ++ l) ∧ OwnC 5 1 v acc.length (byts acc) c ∧ Has W W' c)
      (fun vs _ => s.length - (intOf (vs.getD 1 undef)).toNat) ⟨0, [], _, [], rfl, by omega, rfl, by simp only [Nat.mul_zero, List.drop_zero]; cases unhP s <;> simp, OwnC.nil, Has.init W⟩ ?_
    rintro _ j W' ⟨i, acc, v, c, rfl, hi, hal, hun, ho, H⟩
    obtain ⟨ov, cv, rfl⟩ := ho.slice
    rw [S_size]
    refine s_asS (s_asI (s_ite (fun g1 => ?_) (fun g1 => ?_)))
    · simp only [decide_eq_true_eq] at g1
      have hlt : 2 * i + 1 < s.length := by omega
      have ha' : s[2 * i]? = some s[2 * i] := List.getElem?_eq_getElem (by omega)
      have hb' : s[2 * i + 1]? = some s[2 * i + 1] := List.getElem?_eq_getElem (by omega)
      have hdrop : s.drop (2 * i) = s[2 * i] :: s[2 * i + 1] :: s.drop (2 * (i + 1)) := by
        rw [List.drop_eq_getElem_cons (by omega), List.drop_eq_getElem_cons (by omega)]
        rfl
      generalize hax : s[2 * i] = a at hdrop ha'
      generalize hbx : s[2 * i + 1] = b at hdrop hb'
      have ga : ∀ k : UInt8, (S s).data.getD (2 * i) k = a := by
        intro k
        show (s.toArray).getD (2 * i) k = a
        rw [Array.getD_eq_getD_getElem?, List.getElem?_toArray, ha']
        rfl
      have gb : ∀ k : UInt8, (S s).data.getD (2 * i + 1) k = b := by
        intro k
        show (s.toArray).getD (2 * i + 1) k = b
        rw [Array.getD_eq_getD_getElem?, List.getElem?_toArray, hb']
        rfl
      refine h_drew H fun u H => ?_
      rw [w_succ (by omega)]
      refine s_req ⟨by omega, by omega⟩ (s_req ⟨by omega, by omega⟩ ?_)
      rw [Int.toNat_natCast, Int.toNat_natCast, ga, gb]
      obtain ⟨_, ⟨a3, a4⟩, _, _⟩ := hv_dgt (u8_byte a)
      obtain ⟨_, ⟨b3, b4⟩, _, _⟩ := hv_dgt (u8_byte b)
      refine s_call (digit_c (u8_byte a)) ?_
      rintro _ u1 ⟨rfl, f1⟩
      have H := H.fr0 f1
      refine ⟨_, rfl, s_asI (s_chk c_nil (s_call (digit_c (u8_byte b)) ?_))⟩
      rintro _ u2 ⟨rfl, f2⟩
      have H := H.fr0 f2
      refine ⟨_, rfl, s_asI (s_chk c_nil ?_)⟩
      refine s_blk (fun vs W2 => vs = [] ∧ W2 = u2 ∧ dgt a.toNat < 16 ∧ dgt b.toNat < 16) ?_ ?_
      · rintro _ j W2 ⟨rfl, rfl, h1, h2⟩
        rw [hdrop, unhP, if_pos ⟨h1, h2⟩] at hun
        rw [wrapU8 (n := 16 * dgt a.toNat) ⟨by omega, by omega⟩, wrapU8 (n := 16 * dgt a.toNat + dgt b.toNat) ⟨by omega, by omega⟩]
        (refine h_new H fun n15 u H => ?_)
        have hrd : Reads u ⟨n15, 0, none⟩ (byts [16 * dgt a.toNat + dgt b.toNat]) := (H.cells (by repeat (first | exact pick_head | apply pick_tail | apply pick_app))).reads
        refine h_app (j := 1) (news := byts [16 * dgt a.toNat + dgt b.toNat]) elemB H (by repeat (first | exact cut_head | exact cut_all | apply cut_tail | apply cut_app)) ho rfl hrd (by intro u hu; simp [byts, br] at hu; subst hu; rfl) (by omega) (by omega) ?_
        intro v' c' u ho' H _
        obtain ⟨o', cap', rfl⟩ := ho'.slice
        rw [← byts_append] at ho'
        refine s_asS (s_next (by first | exact ⟨rfl, rfl⟩ | trivial) ?_)
        simp (config := { decide := true }) only [if_true, if_false]
        have hw : IntKind.wrap .i64 (((2 * i : Nat) : Int) + 2) = ((2 * (i + 1) : Nat) : Int) := by rw [wrapI (by omega) (by omega)]; omega
        refine ⟨⟨i + 1, acc ++ [16 * dgt a.toNat + dgt b.toNat], _, c', by rw [hw], by omega, by simp; omega, ?_, by rw [List.length_append]; exact ho', H.sub (by repeat (first | exact sb_refl | exact sb_nil | refine sb_cons (by repeat (first | exact pick_head | apply pick_tail | apply pick_app)) ?_ | refine sb_app (by repeat (first | exact cut_head | exact cut_all | apply cut_tail | apply cut_app)) ?_ | exact sb_one (by repeat (first | exact cut_head | exact cut_all | apply cut_tail | apply cut_app))))⟩, by rw [hw]; simp [intOf] <;> omega⟩
        rw [hun, Option.map_map]
        congr 1
        funext l
        simp
      · refine s_ite (fun g2 => ?_) (fun g2 => ?_)
        · simp only [decide_eq_true_eq] at g2
          refine s_ret ?_
          rw [hR, hun, hdrop, unhP, if_neg (by omega)]
          exact unhNil H.base
        · simp only [decide_eq_false_iff_not] at g2
          refine s_ite (fun g3 => ?_) (fun g3 => ?_)
          · simp only [decide_eq_true_eq] at g3
            refine s_ret ?_
            rw [hR, hun, hdrop, unhP, if_neg (by omega)]
            exact unhNil H.base
          · simp only [decide_eq_false_iff_not] at g3
            exact s_next ⟨rfl, rfl⟩ ⟨rfl, rfl, by omega, by omega⟩
    · simp only [decide_eq_false_iff_not] at g1
      have he : s.drop (2 * i) = [] := List.drop_eq_nil_of_le (by omega)
      rw [he] at hun
      refine s_ret ?_
      rw [hR, hun]
      simp only [unhP, Option.map_some, List.append_nil]
      exact ⟨_, c, rfl, ho, H⟩
  · rw [S_size]
    refine s_ite (fun g1 => ?_) (fun g1 => ?_)
    · have h0 : s.length = 0 := by simp at g1; simpa using g1
      refine s_ret ?_
      rw [unhR, if_neg g, if_pos (.inl h0)]
      exact unhNil (Fr.refl _ _)
    · have h0 : s.length ≠ 0 := by simp at g1; simpa using g1
      have ht : Int.tmod (s.length : Int) 2 = ((s.length % 2 : Nat) : Int) := by rw [Int.tmod_eq_emod_of_nonneg (by omega)]; omega
      refine s_req (by decide) ?_
      rw [ht]
      refine s_ite (fun g2 => ?_) (fun g2 => ?_)
      · have h2 : s.length % 2 ≠ 0 := by simp at g2; omega
        refine s_ret ?_
        rw [unhR, if_neg g, if_pos (.inr h2)]
        exact unhNil (Fr.refl _ _)
      · have h2 : s.length % 2 = 0 := by simp at g2; omega
        exact s_next ⟨rfl, rfl⟩ ⟨rfl, rfl, h0, h2⟩
end
end Go.Proofs.YtihipcofjpnfbaaGreatDoor
