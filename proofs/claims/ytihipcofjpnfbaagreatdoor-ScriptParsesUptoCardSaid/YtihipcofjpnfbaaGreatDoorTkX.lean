/- The reference's reader: words, whole numbers. -/
import Derived.Test.YtihipcofjpnfbaaGreatDoorParX
import Derived.Test.YtihipcofjpnfbaaGreatDoorLiveW
set_option linter.unusedVariables false
set_option linter.unusedSimpArgs false
set_option maxRecDepth 100000
set_option maxHeartbeats 4000000
namespace Go.Proofs.YtihipcofjpnfbaaGreatDoor
open Go hiding Expr
open Go.RowKit Tr

theorem S_getD {s : List UInt8} {i : Nat} {a : UInt8} (h : s[i]? = some a) (k : UInt8) : (S s).data.getD i k = a := by
  show (s.toArray).getD i k = a
  rw [Array.getD_eq_getD_getElem?, List.getElem?_toArray, h]
  rfl
theorem strs_one (s : W) : strs [s] = [.string (S s)] := rfl
section
variable {w : World}
theorem words_c {s : List UInt8} (hsz : s.length ≤ 1048576) : Calls Tryz.prog 41 #[.string (S s)] w fun e w' => ∃ v c, e = .returned v ∧ OwnC 9 1 v (spl s).length (strs (spl s)) c ∧ Has w w' c := by
  apply c41
  refine s_loop (fun vs U => ∃ (i f : Nat) (l : List W) (v : Value) (c : Hp), vs = [v, .int .i64 f, .int .i64 i] ∧ i ≤ s.length + 1 ∧ (i ≤ s.length → f ≤ i ∧ NoBlank ((s.take i).drop f) ∧ l ++ spl (s.drop f) = spl s ∧ l.length ≤ f) ∧ (i = s.length + 1 → l = spl s) ∧
      OwnC 9 1 v l.length (strs l) c ∧ Has w U c)
    (fun vs _ => s.length + 1 - (intOf (vs.getD 2 undef)).toNat) ⟨0, 0, [], .slice none 0 0, [], rfl, by omega, fun _ => ⟨by omega, by simp [NoBlank], by simp, by simp⟩, fun h => by omega, OwnC.nil, Has.init w⟩ ?_
  rintro _ j U ⟨i, f, l, v, c, rfl, hi, hle, hend, ho, H⟩
  obtain ⟨o, cap, rfl⟩ := ho.slice
  refine s_asS (s_asI (s_asI ?_))
  rw [S_size]
  refine s_ite (fun g => ?_) (fun g => ?_)
  · simp only [decide_eq_true_eq] at g
    have hil : i ≤ s.length := by omega
    obtain ⟨hf, hnb, hsp, hll⟩ := hle hil
    refine s_blk (fun vs W' => vs = [.bool (decide (i = s.length ∨ s[i]? = some 32))] ∧ W' = U) ?_ ?_
    · rintro _ j2 W' ⟨rfl, rfl⟩
      refine s_asB (s_ite (fun g2 => ?_) (fun g2 => ?_))
      · simp only [decide_eq_true_eq] at g2
        refine s_req ⟨by omega, by omega, by omega, by omega⟩ ?_
        rw [Int.toNat_natCast, Int.toNat_natCast, S_ext]
        refine h_new H fun n11 u H => ?_
        refine h_app1 elemS H (c := c) (by repeat (first | exact cut_head | exact cut_all | apply cut_tail | apply cut_app)) ho (r := n11) (by repeat (first | exact pick_head | apply pick_tail | apply pick_app)) rfl (by intro u hu; simp at hu; subst hu; rfl) (by omega) (by omega) ?_
        intro v2 c2 w2 ho2 H
        obtain ⟨o2, cap2, rfl⟩ := ho2.slice
        refine s_asS (s_next ⟨rfl, rfl⟩ ?_)
        simp (config := { decide := true }) only [if_true, if_false]
        have hes : strs (l ++ [(s.take i).drop f]) = strs l ++ [.string (S ((s.take i).drop f))] := by rw [strs_append, strs_one]
        refine ⟨⟨i + 1, i + 1, l ++ [(s.take i).drop f], _, c2, by rw [w_succ (by omega)], by omega, ?_, ?_, by rw [List.length_append, hes]; exact ho2, H.sub (by repeat (first | exact sb_refl | exact sb_nil | refine sb_cons (by repeat (first | exact pick_head | apply pick_tail | apply pick_app)) ?_ | refine sb_app (by repeat (first | exact cut_head | exact cut_all | apply cut_tail | apply cut_app)) ?_ | exact sb_one (by repeat (first | exact cut_head | exact cut_all | apply cut_tail | apply cut_app))))⟩, by rw [w_succ (by omega)]; simp [intOf] <;> omega⟩
        · intro h
          have h32 : s[i]? = some 32 := g2.resolve_left (by omega)
          obtain ⟨hi2, hi3⟩ := List.getElem?_eq_some_iff.1 h32
          refine ⟨by omega, by rw [List.drop_eq_nil_of_le (by rw [List.length_take]; omega)]; simp [NoBlank], ?_, by simp; omega⟩
          have e : s.drop f = (s.take i).drop f ++ 32 :: s.drop (i + 1) := by
            conv => lhs; rw [← List.take_append_drop i s, List.drop_append_of_le_length (by rw [List.length_take]; omega)]
            rw [List.drop_eq_getElem_cons hi2, hi3]
          rw [← hsp, e, spl_app hnb, List.append_assoc]
          rfl
        · intro h
          have hi2 : i = s.length := by omega
          subst hi2
          rw [List.take_length] at hnb ⊢
          rw [← hsp, spl_word hnb]
      · simp only [decide_eq_false_iff_not] at g2
        refine s_next ⟨rfl, rfl⟩ ?_
        simp (config := { decide := true }) only [if_true, if_false]
        have hlt : i < s.length := by
          rcases Nat.lt_or_ge i s.length with h | h
          · exact h
          · exact absurd (.inl (by omega)) g2
        refine ⟨⟨i + 1, f, l, _, c, by rw [w_succ (by omega)], by omega, fun _ => ⟨by omega, ?_, hsp, hll⟩, fun h => by omega, ho, H⟩, by rw [w_succ (by omega)]; simp [intOf] <;> omega⟩
        have e : (s.take (i + 1)).drop f = (s.take i).drop f ++ [s[i]] := by
          rw [List.take_succ_eq_append_getElem hlt, List.drop_append_of_le_length (by rw [List.length_take]; omega)]
        rw [e]
        intro hm
        rcases List.mem_append.1 hm with hm | hm
        · exact hnb hm
        · simp only [List.mem_singleton] at hm
          exact g2 (.inr (by rw [List.getElem?_eq_getElem hlt, ← hm]))
    · refine s_ite (fun g2 => ?_) (fun g2 => ?_)
      · have g2 : i = s.length := by
          have g2 : (i : Int) = s.length := by simpa using g2
          omega
        exact s_next ⟨rfl, rfl⟩ (by simp only [if_true]; exact ⟨by simp [g2], trivial⟩)
      · have hne : i ≠ s.length := by
          have g2 : ¬ ((i : Int) = s.length) := by simpa using g2
          omega
        have hlt : i < s.length := by omega
        have hx := List.getElem?_eq_getElem hlt
        refine s_req ⟨by omega, by omega⟩ (s_next ⟨rfl, rfl⟩ ?_)
        simp only [if_true]
        refine ⟨?_, trivial⟩
        rw [Int.toNat_natCast, S_getD hx]
        congr 2
        rw [Bool.eq_iff_iff, decide_eq_true_iff, hx]
        constructor
        · intro h
          have h : (s[i].toNat : Int) = 32 := by simpa using h
          exact .inr (congrArg some (UInt8.toNat_inj.1 (by show s[i].toNat = 32; omega)))
        · rintro (h | h)
          · exact absurd h hne
          · rw [Option.some.inj h]
            rfl
  · simp only [decide_eq_false_iff_not] at g
    have he := hend (by omega)
    subst he
    exact s_ret ⟨_, c, rfl, ho, H⟩
end
end Go.Proofs.YtihipcofjpnfbaaGreatDoor

/- The reference's reader: whole numbers. -/
set_option linter.unusedVariables false
set_option linter.unusedSimpArgs false
set_option maxRecDepth 100000
set_option maxHeartbeats 4000000
namespace Go.Proofs.YtihipcofjpnfbaaGreatDoor
open Go hiding Expr
open Go.RowKit Tr

theorem valD_snoc (l : List UInt8) (c : UInt8) : valD (l ++ [c]) = 10 * valD l + (c.toNat - 48) := by simp [valD]
theorem valD_app (a b : List UInt8) : valD a ≤ valD (a ++ b) := by
  induction b generalizing a with
  | nil => simp
  | cons c r ih =>
    have h := ih (a ++ [c])
    rw [valD_snoc, List.append_assoc] at h
    have : a ++ c :: r = a ++ ([c] ++ r) := rfl
    rw [this]
    omega
theorem valD_take (l : List UInt8) (k : Nat) : valD (l.take k) ≤ valD l := by
  have := valD_app (l.take k) (l.drop k)
  rwa [List.take_append_drop] at this
theorem dI_split {m : Int} : (m < 0 ∧ dI m = 45 :: dU m.natAbs) ∨ (0 ≤ m ∧ dI m = dU m.natAbs) := by
  show (m < 0 ∧ Lib.itoa m = _) ∨ (0 ≤ m ∧ Lib.itoa m = _)
  unfold Lib.itoa
  split
  · rename_i h
    exact .inl ⟨h, rfl⟩
  · rename_i h
    refine .inr ⟨by omega, ?_⟩
    show dU m.toNat = dU m.natAbs
    congr 1
    omega
theorem wrapU8' {c : UInt8} (h1 : 48 ≤ c.toNat) (h2 : c.toNat ≤ 57) : IntKind.wrap .u8 ((c.toNat : Int) - 48) = ((c.toNat - 48 : Nat) : Int) := by
  rw [wrapU8 ⟨by omega, by omega⟩]
  omega
def signN (s : List UInt8) : Nat := if s.head? = some 45 then 1 else 0
/-- What the digits behind the sign are, where the word is a number's. -/
theorem dI_digits {m : Int} {s : List UInt8} (h : s = dI m) : s.drop (signN s) = dU m.natAbs ∧ (s.head? = some 45 ↔ m < 0) := by
  rcases dI_split (m := m) with ⟨h1, h2⟩ | ⟨h1, h2⟩
  · rw [h, h2]
    exact ⟨rfl, by simp [h1]⟩
  · have h3 : s.head? ≠ some 45 := by
      rw [h, h2]
      intro hh
      cases hd : dU m.natAbs with
      | nil => rw [hd] at hh; cases hh
      | cons a r =>
        rw [hd] at hh
        simp at hh
        subst hh
        exact dU_no45 _ _ hd
    refine ⟨?_, ?_⟩
    · unfold signN
      rw [if_neg h3, h, h2]
      rfl
    · exact ⟨fun h => absurd h h3, fun h => by omega⟩
section
variable {w : World}
theorem whole_c {s : List UInt8} (hsz : s.length ≤ 2097152) : Calls Tryz.prog 101 #[.string (S s)] w fun e w' => ∃ (n : Int) (b : Bool), e = .returned (.tuple #[.int .i64 n, .bool b]) ∧ In64 n ∧ (∀ m, In64 m → s = dI m → n = m ∧ b = true) ∧ w' = w := by
  apply c101
  have hbad : ∀ {x : Int} {b : Bool}, In64 x → (∀ m, In64 m → s ≠ dI m) → ∃ (n : Int) (b' : Bool), Ending.returned (.tuple #[.int .i64 x, .bool b]) = .returned (.tuple #[.int .i64 n, .bool b']) ∧ In64 n ∧ (∀ m, In64 m → s = dI m → n = m ∧ b' = true) ∧ w = w :=
    fun hx hn => ⟨_, _, rfl, hx, fun m hm h => absurd h (hn m hm), rfl⟩
  have z0 : In64 0 := ⟨by decide, by decide⟩
  refine s_blk (fun vs W => vs = [.bool (decide (s.head? = some 45))] ∧ W = w) ?_ ?_
  rotate_left
  · rw [S_size]
    refine s_ite (fun g => ?_) (fun g => ?_)
    · have g : 0 < s.length := by
        have g : 0 < (s.length : Int) := by simpa using g
        omega
      obtain ⟨a, r, rfl⟩ : ∃ a r, s = a :: r := by cases s with
        | nil => simp at g
        | cons a r => exact ⟨a, r, rfl⟩
      refine s_req ⟨by decide, by simp⟩ (s_next ⟨rfl, rfl⟩ ?_)
      simp only [if_true]
      refine ⟨?_, trivial⟩
      rw [S_getD (i := 0) (a := a) rfl]
      congr 2
      rw [Bool.eq_iff_iff, decide_eq_true_iff]
      constructor
      · intro h
        have h : (a.toNat : Int) = 45 := by simpa using h
        exact congrArg some (UInt8.toNat_inj.1 (by show a.toNat = 45; omega))
      · intro h
        have h : a = 45 := by simpa using h
        subst h
        rfl
    · have g : s.length = 0 := by
        have g : ¬ (0 < (s.length : Int)) := by simpa using g
        omega
      have : s = [] := List.eq_nil_of_length_eq_zero g
      subst this
      exact s_next ⟨rfl, rfl⟩ (by simp)
  rintro _ j W ⟨rfl, rfl⟩
  refine s_asB (s_blk (fun vs W' => vs = [.int .i64 (signN s : Nat)] ∧ W' = W) ?_ ?_)
  rotate_left
  · refine s_ite (fun g => ?_) (fun g => ?_)
    · have g : s.head? = some 45 := by simpa using g
      exact s_next ⟨rfl, rfl⟩ (by simp [signN, g])
    · have g : ¬ s.head? = some 45 := by simpa using g
      exact s_next ⟨rfl, rfl⟩ (by simp [signN, g])
  rintro _ j2 W' ⟨rfl, rfl⟩
  have hsg : signN s ≤ 1 := by unfold signN; split <;> omega
  have hsl : signN s ≤ s.length := by
    unfold signN
    split
    · rename_i h
      cases s with
      | nil => cases h
      | cons a r => simp
    · omega
  refine s_asI ?_
  rw [S_size]
  refine s_ite (fun g => ?_) (fun g => ?_)
  · have g : signN s = s.length := by
      have g : (signN s : Int) = s.length := by simpa using g
      omega
    refine s_ret (hbad z0 fun m hm h => ?_)
    have := (dI_digits h).1
    rw [g, List.drop_length] at this
    exact dU_ne _ this.symm
  · generalize hD : s.drop (signN s) = D
    have hDl : D.length + signN s = s.length := by rw [← hD, List.length_drop]; omega
    refine s_loop (fun vs U => ∃ (k : Nat) (n : Int), vs = [.int .i64 (signN s + k : Nat), .int .i64 n] ∧ k ≤ D.length ∧ -9223372036854775808 ≤ n ∧ n ≤ 0 ∧ (∀ m, In64 m → s = dI m → n = -(valD (D.take k) : Int)) ∧ U = W')
      (fun vs _ => s.length - (intOf (vs.getD 0 undef)).toNat) ⟨0, 0, rfl, by omega, by decide, by decide, fun m hm h => by simp [valD], rfl⟩ ?_
    rintro _ j3 U ⟨k, n, rfl, hk, hn1, hn2, hval, rfl⟩
    refine s_asI (s_asI (s_ite (fun g1 => ?_) (fun g1 => ?_)))
    · have g1 : signN s + k < s.length := by
        have g1 : ((signN s + k : Nat) : Int) < s.length := by simpa using g1
        omega
      have hkd : k < D.length := by omega
      have hx : s[signN s + k]? = some D[k] := by
        have e : D[k]? = s[signN s + k]? := by rw [← hD, List.getElem?_drop]
        rw [← e]
        exact List.getElem?_eq_getElem hkd
      generalize hc : D[k] = c at hx
      have hmem : c ∈ D := by rw [← hc]; exact List.getElem_mem hkd
      have htk : D.take (k + 1) = D.take k ++ [c] := by rw [List.take_succ_eq_append_getElem hkd, hc]
      have hdig : ∀ m, In64 m → s = dI m → 48 ≤ c.toNat ∧ c.toNat ≤ 57 := by
        intro m hm h
        have h1 := (dI_digits h).1
        rw [hD] at h1
        rw [h1] at hmem
        exact dU_mem _ c hmem
      refine s_blk (fun vs W2 => vs = [] ∧ 48 ≤ c.toNat ∧ c.toNat ≤ 57 ∧ W2 = U) ?_ ?_
      rotate_left
      · refine s_req ⟨by omega, by omega⟩ ?_
        rw [Int.toNat_natCast, S_getD hx]
        refine s_ite (fun g2 => ?_) (fun g2 => s_req ⟨by omega, by omega⟩ ?_)
        · have g2 : (c.toNat : Int) < 48 := by simpa using g2
          exact s_ret (hbad z0 fun m hm h => by have := hdig m hm h; omega)
        · have g2 : ¬ ((c.toNat : Int) < 48) := by simpa using g2
          refine s_ite (fun g3 => ?_) (fun g3 => s_next ⟨rfl, rfl⟩ ?_)
          · have g3 : 57 < (c.toNat : Int) := by simpa using g3
            exact s_ret (hbad z0 fun m hm h => by have := hdig m hm h; omega)
          · have g3 : ¬ (57 < (c.toNat : Int)) := by simpa using g3
            simp only [if_true]
            exact ⟨trivial, by omega, by omega, trivial⟩
      rintro _ j4 W2 ⟨rfl, h48, h57, rfl⟩
      refine s_req ⟨by omega, by omega⟩ (s_req (by decide) ?_)
      rw [Int.toNat_natCast, S_getD hx, wrapU8' h48 h57, wrapI (n := ((c.toNat - 48 : Nat) : Int)) (by omega) (by omega), wrapI (n := -9223372036854775808 + ((c.toNat - 48 : Nat) : Int)) (by omega) (by omega)]
      generalize hdd : c.toNat - 48 = d
      have hd9 : d ≤ 9 := by omega
      have htd : Int.tdiv (-9223372036854775808 + (d : Int)) 10 = -((9223372036854775808 - (d : Int)) / 10) := by
        rw [show (-9223372036854775808 + (d : Int)) = -(9223372036854775808 - (d : Int)) by omega, Int.neg_tdiv, Int.tdiv_eq_ediv_of_nonneg (by omega)]
      rw [htd, wrapI (n := -((9223372036854775808 - (d : Int)) / 10)) (by omega) (by omega)]
      have hnx : ∀ m, In64 m → s = dI m → -(10 * n - d) ≤ 9223372036854775808 := by
        intro m hm h
        have h1 := hval m hm h
        have h2 := (dI_digits h).1
        rw [hD] at h2
        have h3 := valD_take D (k + 1)
        rw [htk, valD_snoc, hdd, h2, valD_dU] at h3
        rw [h2] at h1
        have := hm.1
        have := hm.2
        omega
      refine s_ite (fun g2 => ?_) (fun g2 => s_next ⟨rfl, rfl⟩ ?_)
      · have g2 : n < -((9223372036854775808 - (d : Int)) / 10) := by simpa using g2
        exact s_ret (hbad z0 fun m hm h => by have := hnx m hm h; omega)
      · have g2 : ¬ (n < -((9223372036854775808 - (d : Int)) / 10)) := by simpa using g2
        simp (config := { decide := true }) only [if_true, if_false]
        rw [wrapI (n := 10 * n) (by omega) (by omega), wrapI (n := 10 * n - (d : Int)) (by omega) (by omega), w_succ (by omega)]
        refine ⟨⟨k + 1, _, rfl, by omega, by omega, by omega, fun m hm h => ?_, trivial⟩, by simp [intOf] <;> omega⟩
        have h1 := hval m hm h
        rw [htk, valD_snoc, hdd]
        omega
    · have g1 : k = D.length := by
        have g1 : ¬ (((signN s + k : Nat) : Int) < s.length) := by simpa using g1
        omega
      subst g1
      rw [List.take_length] at hval
      have hv2 : ∀ m, In64 m → s = dI m → n = -(m.natAbs : Int) := by
        intro m hm h
        have h1 := hval m hm h
        have h2 := (dI_digits h).1
        rw [hD] at h2
        rw [h2, valD_dU] at h1
        exact h1
      refine s_ite (fun g2 => ?_) (fun g2 => ?_)
      · have g2 : s.head? = some 45 := by simpa using g2
        refine s_ret ⟨n, true, rfl, ⟨by omega, by omega⟩, fun m hm h => ⟨?_, rfl⟩, rfl⟩
        have := (dI_digits h).2.1 g2
        have := hv2 m hm h
        omega
      · have g2 : ¬ s.head? = some 45 := by simpa using g2
        refine s_ite (fun g3 => ?_) (fun g3 => ?_)
        · have g3 : n = -9223372036854775808 := by simpa using g3
          refine s_ret (hbad z0 fun m hm h => ?_)
          have h1 := hv2 m hm h
          have h2 : ¬ m < 0 := fun hh => g2 ((dI_digits h).2.2 hh)
          have := hm.2
          omega
        · have g3 : ¬ (n = -9223372036854775808) := by simpa using g3
          rw [wrapI (n := 0 - n) (by omega) (by omega)]
          refine s_ret ⟨_, true, rfl, ⟨by omega, by omega⟩, fun m hm h => ⟨?_, rfl⟩, rfl⟩
          have h1 := hv2 m hm h
          have h2 : ¬ m < 0 := fun hh => g2 ((dI_digits h).2.2 hh)
          omega
end
end Go.Proofs.YtihipcofjpnfbaaGreatDoor

/- The reference's reader: words taken one by one, numbers. -/
set_option linter.unusedVariables false
set_option linter.unusedSimpArgs false
set_option maxRecDepth 100000
set_option maxHeartbeats 4000000
namespace Go.Proofs.YtihipcofjpnfbaaGreatDoor
open Go hiding Expr
open Go.RowKit Tr

/-- The document's reader at p: the words ws before it lie in b; ok: nothing was amiss yet; x is what stands beside. -/
def Tk (w0 w : World) (p : Nat) (ok : Bool) (ws : List W) (b x : Hp) : Prop := ∃ o n cap, WS w0 b o n cap ws ∧ Has w0 w (cl p 100 [.slice o n cap, .bool ok] :: (x ++ b))
section
variable {w0 w w' : World} {p : Nat} {ok : Bool} {ws : List W} {b x x' c : Hp}
theorem Tk.fr0 (h : Tk w0 w p ok ws b x) (hf : Fr [] w w') : Tk w0 w' p ok ws b x := by
  obtain ⟨o, n, cap, h1, h2⟩ := h
  exact ⟨o, n, cap, h1, h2.fr0 hf⟩
theorem Tk.base (h : Tk w0 w p ok ws b x) : Fr [] w0 w := by
  obtain ⟨o, n, cap, h1, h2⟩ := h
  exact h2.base
theorem Tk.wb (h : Tk w0 w p ok ws b x) : WC ws := by
  obtain ⟨o, n, cap, h1, h2⟩ := h
  exact h1.2.2.1
/-- What stands beside it may turn, and its mark too. -/
theorem Tk.turn (h : Tk w0 w p ok ws b x) : ∃ v, Has w0 w (cl p 100 [v, .bool ok] :: (x ++ b)) ∧ ∀ {w' : World} {x' : Hp} {ok' : Bool}, Has w0 w' (cl p 100 [v, .bool ok'] :: (x' ++ b)) → Tk w0 w' p ok' ws b x' := by
  obtain ⟨o, n, cap, h1, h2⟩ := h
  exact ⟨_, h2, fun H => ⟨o, n, cap, h1, H⟩⟩
theorem Tk.join (h : Tk w0 w p ok ws b x) (h2 : Has w w' c) : Tk w0 w' p ok ws b (c ++ x) := by
  obtain ⟨v, H, hk⟩ := h.turn
  have H := H.join h2
  refine hk ?_
  rw [List.append_assoc]
  exact H.sub (by repeat (first | exact sb_refl | exact sb_nil | refine sb_cons (by repeat (first | exact pick_head | apply pick_tail | apply pick_app)) ?_ | refine sb_app (by repeat (first | exact cut_head | exact cut_all | apply cut_tail | apply cut_app)) ?_ | exact sb_one (by repeat (first | exact cut_head | exact cut_all | apply cut_tail | apply cut_app))))
theorem Tk.sub (h : Tk w0 w p ok ws b x) (hs : Sb x' x) : Tk w0 w p ok ws b x' := by
  obtain ⟨v, H, hk⟩ := h.turn
  refine hk ?_
  obtain ⟨y, hy⟩ := hs
  have H1 : Has w0 w (cl p 100 [v, .bool ok] :: ((x' ++ y) ++ b)) := H.perm (List.Perm.cons _ (hy.append_right b))
  rw [List.append_assoc] at H1
  exact H1.sub (by repeat (first | exact sb_refl | exact sb_nil | refine sb_cons (by repeat (first | exact pick_head | apply pick_tail | apply pick_app)) ?_ | refine sb_app (by repeat (first | exact cut_head | exact cut_all | apply cut_tail | apply cut_app)) ?_ | exact sb_one (by repeat (first | exact cut_head | exact cut_all | apply cut_tail | apply cut_app))))
/-- A store of the mark. -/
theorem t_mark {Q : Ending → World → Prop} {ρ : Lv} {k : T} {v : Bool} (h : Tk w0 w p ok ws b x) (hk : ∀ w', Tk w0 w' p v ws b x → k.sem Tryz.prog Q ρ w') : (T.st p 1 (.bool v) k).sem Tryz.prog Q ρ w := by
  obtain ⟨o, n, cap, h1, H⟩ := h
  refine h_st H pick_head (by simp) rfl fun u H => ?_
  exact hk u ⟨o, n, cap, h1, H⟩
theorem t_ok {Q : Ending → World → Prop} {ρ : Lv} {k : Bool → T} (h : Tk w0 w p ok ws b x) (hk : (k ok).sem Tryz.prog Q ρ w) : (T.ldB p 1 k).sem Tryz.prog Q ρ w := by
  obtain ⟨o, n, cap, h1, H⟩ := h
  exact h_ldB H pick_head rfl hk
theorem tword_c (h : Tk w0 w p ok ws b x) : Calls Tryz.prog 67 #[.pointer (some ⟨p, 0, none⟩)] w fun e w' =>
    ∃ ok', e = .returned (.string (S (ws.headD []))) ∧ (∀ s r, ws = s :: r → ok' = ok) ∧ Tk w0 w' p ok' ws.tail b x := by
  have hh := h
  obtain ⟨o, n, cap, ⟨h1, h3, h4, h5⟩, H⟩ := h
  subst h1
  apply c67
  cases ws with
  | nil =>
    refine h_ldS H pick_head rfl (s_true rfl (t_mark hh fun u h => s_ret ⟨false, rfl, fun s r hr => (by cases hr), h⟩))
  | cons s r =>
    refine h_ldS H pick_head rfl (s_false (by simp; omega) (h_ldS H pick_head rfl (s_req ⟨by decide, by simp <;> omega⟩ ?_)))
    obtain ⟨g, off, rfl, _, hc⟩ := RowsAt.at (h5 w H.drop.right) (j := 0) (r := sr s) rfl
    simp only [List.length_cons] at h3
    refine s_sm (s_loadT (hc 0 _ rfl) (h_ldS H pick_head rfl (s_req ⟨by decide, by simp <;> omega⟩ ?_)))
    refine h_st H pick_head (by simp) rfl fun u H => s_ret ⟨ok, rfl, fun _ _ _ => rfl, sliceBase (some ⟨g, off, none⟩) 1 cap 1, (s :: r).length - 1, cap - 1, ⟨by simp, by simp; omega, h4.tail, fun u' hu => ?_⟩, H⟩
    exact RowsAt.sub (k := 1) (cap := cap) (h5 u' hu) (by simp; omega)
theorem tis_c (h : Tk w0 w p ok ws b x) {t : W} : Calls Tryz.prog 42 #[.pointer (some ⟨p, 0, none⟩), .string (S t)] w fun e w' =>
    ∃ ok', e = .returned (.tuple #[]) ∧ (∀ r, ws = t :: r → ok' = ok) ∧ Tk w0 w' p ok' ws.tail b x := by
  apply c42
  refine s_call (tword_c h) ?_
  rintro _ u ⟨ok', rfl, hok, h⟩
  refine ⟨_, rfl, s_asT ?_⟩
  rw [S_toList, S_toList]
  refine s_ite (fun g => t_ok h (t_mark h fun u h => s_ret ⟨ok', rfl, fun r hr => hok _ _ hr, h⟩)) (fun g => t_mark h fun u h => s_ret ⟨false, rfl, fun r hr => ?_, h⟩)
  subst hr
  simp at g
theorem tlong_c (h : Tk w0 w p ok ws b x) : Calls Tryz.prog 68 #[.pointer (some ⟨p, 0, none⟩)] w fun e w' =>
    ∃ n ok', e = .returned (.int .i64 n) ∧ In64 n ∧ (∀ m r, In64 m → ws = dI m :: r → n = m ∧ ok' = ok) ∧ Tk w0 w' p ok' ws.tail b x := by
  have hwb := h.wb
  apply c68
  refine s_call (tword_c h) ?_
  rintro _ u ⟨ok', rfl, hok, h⟩
  refine ⟨_, rfl, s_asT (s_call (whole_c (s := ws.headD []) ?_) ?_)⟩
  · cases ws with
    | nil => simp
    | cons s r => exact hwb.2 s (by simp)
  rintro _ u ⟨n, bb, rfl, hn, hc, rfl⟩
  refine ⟨_, rfl, s_asU (s_req rfl (s_asI (s_asB (t_ok h (s_ite (fun g => t_mark h fun u h => s_ret ⟨n, bb, rfl, hn, fun m r hm hr => ?_, h⟩) (fun g => t_mark h fun u h => s_ret ⟨n, false, rfl, hn, fun m r hm hr => ?_, h⟩))))))⟩
  · obtain ⟨h1, h2⟩ := hc m hm (by rw [hr]; rfl)
    exact ⟨h1, by rw [h2, ← hok _ _ hr, g]⟩
  · obtain ⟨h1, h2⟩ := hc m hm (by rw [hr]; rfl)
    exact ⟨h1, by rw [← hok _ _ hr, g]⟩
theorem tint_c (h : Tk w0 w p ok ws b x) : Calls Tryz.prog 43 #[.pointer (some ⟨p, 0, none⟩)] w fun e w' =>
    ∃ n ok', e = .returned (.int .i64 n) ∧ In64 n ∧ (∀ m r, In64 m → ws = dI m :: r → n = m ∧ ok' = ok) ∧ Tk w0 w' p ok' ws.tail b x := by
  apply c43
  refine s_call (tlong_c h) ?_
  rintro _ u ⟨n, ok', rfl, hn, hc, h⟩
  exact ⟨_, rfl, s_asI (s_ret ⟨n, ok', rfl, hn, hc, h⟩)⟩
theorem tmany_c (h : Tk w0 w p ok ws b x) : Calls Tryz.prog 103 #[.pointer (some ⟨p, 0, none⟩)] w fun e w' =>
    ∃ (n : Nat) (ok' : Bool), e = .returned (.int .i64 n) ∧ n ≤ 1048576 ∧ (∀ (m : Nat) r, m ≤ r.length → ws = dI m :: r → n = m ∧ ok' = ok) ∧ Tk w0 w' p ok' ws.tail b x := by
  have hwb := h.wb
  apply c103
  refine s_call (tlong_c h) ?_
  rintro _ u ⟨n, ok', rfl, hn, hc, h⟩
  have hin : ∀ (m : Nat) (r : List W), m ≤ r.length → ws = dI m :: r → In64 (m : Int) := by
    intro m r hm hr
    have h1 := hwb.1
    rw [hr] at h1
    simp at h1
    exact ⟨by omega, by omega⟩
  refine ⟨_, rfl, s_asI (s_ite (fun g => ?_) (fun g => ?_))⟩
  · have g : n < 0 := by simpa using g
    refine t_mark h fun u h => s_ret ⟨0, false, rfl, by omega, fun m r hm hr => ?_, h⟩
    have := (hc m r (hin m r hm hr) hr).1
    omega
  · have g : ¬ n < 0 := by simpa using g
    have hh := h
    obtain ⟨o, k, cap, ⟨h1, h3, h4, h5⟩, H⟩ := h
    have hk : k ≤ 1048576 := by
      have h1' := hwb.1
      cases ws with
      | nil => simp at h1; omega
      | cons s r => simp at h1 h1'; omega
    refine h_ldS H pick_head rfl (s_ite (fun g2 => ?_) (fun g2 => ?_))
    · have g2 : (k : Int) < n := by simpa using g2
      refine t_mark hh fun u h => s_ret ⟨0, false, rfl, by omega, fun m r hm hr => ?_, h⟩
      have := (hc m r (hin m r hm hr) hr).1
      rw [hr] at h1
      simp at h1
      omega
    · have g2 : ¬ ((k : Int) < n) := by simpa using g2
      refine s_ret ⟨n.toNat, ok', by rw [Int.toNat_of_nonneg (by omega)], by omega, fun m r hm hr => ?_, hh⟩
      have := hc m r (hin m r hm hr) hr
      exact ⟨by omega, this.2⟩
end
end Go.Proofs.YtihipcofjpnfbaaGreatDoor

/- The reference's reader: seeds, kinds, keys. -/
set_option linter.unusedVariables false
set_option linter.unusedSimpArgs false
set_option maxRecDepth 100000
set_option maxHeartbeats 4000000
namespace Go.Proofs.YtihipcofjpnfbaaGreatDoor
open Go hiding Expr
open Go.RowKit Tr
section
variable {w0 w w' : World} {p : Nat} {ok : Bool} {ws : List W} {b x : Hp}
theorem tseed_c (h : Tk w0 w p ok ws b x) : Calls Tryz.prog 44 #[.pointer (some ⟨p, 0, none⟩)] w fun e w' =>
    ∃ (n : Nat) (ok' : Bool), e = .returned (.int .u64 n) ∧ n < 18446744073709551616 ∧ (∀ m r, m < 18446744073709551616 → ws = dU m :: r → n = m ∧ ok' = ok) ∧ Tk w0 w' p ok' ws.tail b x := by
  have hwb := h.wb
  apply c44
  refine s_call (tword_c h) ?_
  rintro _ u ⟨ok', rfl, hok, h⟩
  refine ⟨_, rfl, s_asT ?_⟩
  generalize hs : ws.headD [] = s
  have hsz : s.length ≤ 2097152 := by
    rw [← hs]
    cases ws with
    | nil => simp
    | cons s r => exact hwb.2 s (by simp)
  have hdU : ∀ m r, ws = dU m :: r → s = dU m := fun m r hr => by rw [← hs, hr]; rfl
  have hokc : ∀ m r, ws = dU m :: r → ok' = ok := fun m r hr => hok _ _ hr
  clear hok
  refine s_loop (fun vs U => ∃ (k n : Nat), vs = [.int .u64 n, .int .i64 k] ∧ k ≤ s.length ∧ n < 18446744073709551616 ∧ (∀ m, s = dU m → n = valD (s.take k)) ∧ Tk w0 U p ok' ws.tail b x)
    (fun vs _ => s.length - (intOf (vs.getD 1 undef)).toNat) ⟨0, 0, rfl, by omega, by decide, fun m h => by simp [valD], h⟩ ?_
  clear h
  rintro _ j U ⟨k, n, rfl, hk, hn, hval, h⟩
  have hout : ∀ {U'}, (∀ m, m < 18446744073709551616 → s ≠ dU m) → Tk w0 U' p false ws.tail b x → ∃ (n : Nat) (ok' : Bool), Ending.returned (.int .u64 0) = .returned (.int .u64 n) ∧ n < 18446744073709551616 ∧ (∀ m r, m < 18446744073709551616 → ws = dU m :: r → n = m ∧ ok' = ok) ∧ Tk w0 U' p ok' ws.tail b x :=
    fun hno h => ⟨0, false, rfl, by decide, fun m r hm hr => absurd (hdU m r hr) (hno m hm), h⟩
  rw [S_size]
  refine s_asI (s_asI (s_ite (fun g1 => ?_) (fun g1 => ?_)))
  · have g1 : k < s.length := by
      have g1 : (k : Int) < s.length := by simpa using g1
      omega
    have hx : s[k]? = some s[k] := List.getElem?_eq_getElem g1
    generalize hc : s[k] = c at hx
    have hmem : c ∈ s := by rw [← hc]; exact List.getElem_mem g1
    have htk : s.take (k + 1) = s.take k ++ [c] := by rw [List.take_succ_eq_append_getElem g1, hc]
    have hdig : ∀ m, s = dU m → 48 ≤ c.toNat ∧ c.toNat ≤ 57 := fun m h => dU_mem m c (h ▸ hmem)
    refine s_blk (fun vs W2 => vs = [] ∧ 48 ≤ c.toNat ∧ c.toNat ≤ 57 ∧ n ≤ (18446744073709551615 - (c.toNat - 48)) / 10 ∧ W2 = U) ?_ ?_
    · rintro _ j4 W2 ⟨rfl, h48, h57, hle, rfl⟩
      refine s_req ⟨by omega, by omega⟩ (s_next ⟨rfl, rfl⟩ ?_)
      rw [Int.toNat_natCast, S_getD hx, wrapU8' h48 h57]
      simp (config := { decide := true }) only [if_true, if_false]
      generalize hdd : c.toNat - 48 = d at hle
      rw [wrapU64 (n := 10 * (n : Int)) (by omega) (by omega), wrapU64 (n := (d : Int)) (by omega) (by omega), wrapU64 (n := 10 * (n : Int) + (d : Int)) (by omega) (by omega), w_succ (by omega)]
      refine ⟨⟨k + 1, 10 * n + d, by simp, by omega, by omega, fun m hm => ?_, h⟩, by simp [intOf] <;> omega⟩
      have h1 := hval m hm
      rw [htk, valD_snoc, hdd, h1]
    · rw [Int.toNat_natCast, S_getD hx]
      refine s_req ⟨by omega, by omega⟩ (s_ite (fun g2 => ?_) (fun g2 => s_req ⟨by omega, by omega⟩ ?_))
      · have g2 : (c.toNat : Int) < 48 := by simpa using g2
        exact t_mark h fun u h => s_ret (hout (fun m _ h => by have := hdig m h; omega) h)
      have g2 : ¬ ((c.toNat : Int) < 48) := by simpa using g2
      refine s_ite (fun g3 => ?_) (fun g3 => s_req ⟨by omega, by omega⟩ (s_req (by decide) ?_))
      · have g3 : 57 < (c.toNat : Int) := by simpa using g3
        exact t_mark h fun u h => s_ret (hout (fun m _ h => by have := hdig m h; omega) h)
      have g3 : ¬ (57 < (c.toNat : Int)) := by simpa using g3
      rw [wrapU8' (by omega) (by omega)]
      generalize hdd : c.toNat - 48 = d
      have htd : Int.tdiv (18446744073709551615 - (d : Int)) 10 = (((18446744073709551615 - d) / 10 : Nat) : Int) := by
        rw [Int.tdiv_eq_ediv_of_nonneg (by omega)]
        omega
      rw [wrapU64 (n := (d : Int)) (by omega) (by omega), wrapU64 (n := 18446744073709551615 - (d : Int)) (by omega) (by omega), htd, wrapU64 (n := (((18446744073709551615 - d) / 10 : Nat) : Int)) (by omega) (by omega)]
      refine s_ite (fun g4 => ?_) (fun g4 => s_next ⟨rfl, rfl⟩ ?_)
      · have g4 : (((18446744073709551615 - d) / 10 : Nat) : Int) < n := by simpa using g4
        refine t_mark h fun u h => s_ret (hout (fun m hm h => ?_) h)
        have h1 := hval m h
        have h3 := valD_take s (k + 1)
        rw [htk, valD_snoc, hdd, h, valD_dU] at h3
        rw [h] at h1
        omega
      · have g4 : ¬ ((((18446744073709551615 - d) / 10 : Nat) : Int) < n) := by simpa using g4
        simp only [if_true]
        exact ⟨trivial, by omega, by omega, by omega, trivial⟩
  · have g1 : k = s.length := by
      have g1 : ¬ ((k : Int) < s.length) := by simpa using g1
      omega
    subst g1
    rw [List.take_length] at hval
    refine s_ret ⟨n, ok', rfl, hn, fun m r hm hr => ⟨?_, hokc m r hr⟩, h⟩
    have h1 := hdU m r hr
    rw [hval m h1, h1, valD_dU]
theorem kind_c {s : W} : Calls Tryz.prog 69 #[.string (S s)] w fun e w' => ∃ k : Int, e = .returned (.int .i64 k) ∧ 0 ≤ k ∧ k ≤ 20 ∧ (∀ y : Int, 1 ≤ y → y ≤ 20 → s = wordK y → k = y) ∧ Fr [] w w' := by
  apply c69
  refine s_loop (fun vs U => ∃ k : Nat, vs = [.int .i64 k] ∧ 1 ≤ k ∧ k ≤ 21 ∧ (∀ j : Nat, 1 ≤ j → j < k → wordK j ≠ s) ∧ Fr [] w U) (fun vs _ => 21 - (intOf (vs.getD 0 undef)).toNat) ⟨1, rfl, by omega, by omega, fun j h1 h2 => by omega, Fr.refl _ _⟩ ?_
  rintro _ j U ⟨k, rfl, h1, h2, hno, hf⟩
  refine s_asI (s_ite (fun g1 => ?_) (fun g1 => ?_))
  · have g1 : (k : Int) ≤ 20 := by simpa using g1
    refine s_call word_c ?_
    rintro _ u ⟨rfl, f⟩
    refine ⟨_, rfl, s_asT ?_⟩
    rw [S_toList, S_toList]
    refine s_ite (fun g2 => ?_) (fun g2 => s_next ⟨rfl, rfl⟩ ?_)
    · have g2 : wordK k = s := by simpa using g2
      refine s_ret ⟨k, rfl, by omega, by omega, fun y hy1 hy2 hs => ?_, hf.trans f⟩
      rw [← kindOf_of (k := (k : Int)) (by omega) (by omega), ← kindOf_of hy1 hy2, g2, hs]
    · have g2 : ¬ wordK k = s := by simpa using g2
      simp (config := { decide := true }) only [if_true, if_false]
      refine ⟨⟨k + 1, by rw [w_succ (by omega)], by omega, by omega, fun i hi1 hi2 => ?_, hf.trans f⟩, by rw [w_succ (by omega)]; simp [intOf] <;> omega⟩
      rcases Nat.lt_or_ge i k with h | h
      · exact hno i hi1 h
      · have : i = k := by omega
        rw [this]
        exact g2
  · have g1 : ¬ ((k : Int) ≤ 20) := by simpa using g1
    refine s_ret ⟨0, rfl, by omega, by omega, fun y hy1 hy2 hs => ?_, hf⟩
    have := hno y.toNat (by omega) (by omega)
    rw [Int.toNat_of_nonneg (by omega)] at this
    exact absurd hs.symm this
end
end Go.Proofs.YtihipcofjpnfbaaGreatDoor

/- The reference's reader: keys. -/
set_option linter.unusedVariables false
set_option linter.unusedSimpArgs false
set_option maxRecDepth 100000
set_option maxHeartbeats 4000000
namespace Go.Proofs.YtihipcofjpnfbaaGreatDoor
open Go hiding Expr
open Go.RowKit Tr
theorem wrap32_bd (n : Int) : -2147483648 ≤ IntKind.wrap .i32 n ∧ IntKind.wrap .i32 n ≤ 2147483647 := by
  have e : IntKind.wrap .i32 n = (n + 2147483648) % 4294967296 - 2147483648 := by
    simp [IntKind.wrap, IntKind.bits, IntKind.signed]
    omega
  rw [e]
  omega
theorem wrap32_id {n : Int} (h0 : -2147483648 ≤ n) (h1 : n ≤ 2147483647) : IntKind.wrap .i32 n = n := by
  have e : IntKind.wrap .i32 n = (n + 2147483648) % 4294967296 - 2147483648 := by
    simp [IntKind.wrap, IntKind.bits, IntKind.signed]
    omega
  rw [e]
  omega
theorem kw_cons (k : K) (l : List K) : kw (k :: l) = dI k.t :: dI k.r :: kw l := by simp [kw]
section
variable {w0 w w' : World} {p : Nat} {ok : Bool} {ws : List W} {b x : Hp}
theorem tkeys_c (h : Tk w0 w p ok ws b x) : Calls Tryz.prog 71 #[.pointer (some ⟨p, 0, none⟩)] w fun e w' =>
    ∃ (l : List K) (ok' : Bool) (r : List W) (v : Value) (c y : Hp), e = .returned v ∧ (∀ k ∈ l, InK k) ∧ l.length ≤ 1048576 ∧ OwnC 63 2 v l.length (encK l) c ∧
      (∀ (l0 : List K) r0, (∀ k ∈ l0, InK k) → ok = true → ws = keysW l0 ++ r0 → l = l0 ∧ r = r0 ∧ ok' = true) ∧ Tk w0 w' p ok' r b (c ++ (y ++ x)) := by
  have hwb := h.wb
  apply c71
  refine s_call (tmany_c h) ?_
  rintro _ u ⟨n, ok1, rfl, hn, hcan, h⟩
  refine ⟨_, rfl, s_asI ?_⟩
  have hcan1 : ∀ (l0 : List K) r0, (∀ k ∈ l0, InK k) → ok = true → ws = keysW l0 ++ r0 → n = l0.length ∧ ok1 = true ∧ ws.tail = kw l0 ++ r0 := by
    intro l0 r0 hin hok hw
    have e : ws = dI l0.length :: (kw l0 ++ r0) := by rw [hw]; rfl
    obtain ⟨h1, h2⟩ := hcan l0.length (kw l0 ++ r0) (by rw [List.length_append, kw_len]; omega) e
    exact ⟨h1, by rw [h2, hok], by rw [e]; rfl⟩
  refine s_loop (fun vs U => ∃ (v : Value) (l : List K) (okc : Bool) (rest : List W) (c y : Hp), vs = [v, .int .i64 l.length] ∧ l.length ≤ n ∧ (∀ k ∈ l, InK k) ∧ OwnC 63 2 v l.length (encK l) c ∧
      (∀ (l0 : List K) r0, (∀ k ∈ l0, InK k) → ok = true → ws = keysW l0 ++ r0 → okc = true ∧ l = l0.take l.length ∧ rest = kw (l0.drop l.length) ++ r0) ∧ Tk w0 U p okc rest b (c ++ (y ++ x)))
    (fun vs _ => n - (intOf (vs.getD 1 undef)).toNat) ⟨_, [], ok1, ws.tail, [], [], rfl, by simp, by simp, OwnC.nil, fun l0 r0 hin hok hw => ⟨(hcan1 l0 r0 hin hok hw).2.1, by simp, (hcan1 l0 r0 hin hok hw).2.2⟩, h⟩ ?_
  clear h
  rintro _ j U ⟨v, l, okc, rest, c, y, rfl, hln, hin, ho, hinv, h⟩
  obtain ⟨o2, cap2, rfl⟩ := ho.slice
  have hend : ∀ {U'}, (l.length < n → okc = false) → Tk w0 U' p okc rest b (c ++ (y ++ x)) → ∃ (l' : List K) (ok' : Bool) (r : List W) (v : Value) (c y : Hp), Ending.returned (.slice o2 l.length cap2) = .returned v ∧ (∀ k ∈ l', InK k) ∧ l'.length ≤ 1048576 ∧ OwnC 63 2 v l'.length (encK l') c ∧
      (∀ (l0 : List K) r0, (∀ k ∈ l0, InK k) → ok = true → ws = keysW l0 ++ r0 → l' = l0 ∧ r = r0 ∧ ok' = true) ∧ Tk w0 U' p ok' r b (c ++ (y ++ x)) := by
    intro U' hlt hT
    refine ⟨l, okc, rest, _, c, y, rfl, hin, by omega, ho, fun l0 r0 h1 h2 h3 => ?_, hT⟩
    obtain ⟨a1, a2, a3⟩ := hinv l0 r0 h1 h2 h3
    obtain ⟨b1, _, _⟩ := hcan1 l0 r0 h1 h2 h3
    have hll : l.length = l0.length := by
      rcases Nat.lt_or_ge l.length n with hh | hh
      · have := hlt hh
        rw [a1] at this
        cases this
      · omega
    refine ⟨?_, ?_, a1⟩
    · rw [a2, hll, List.take_length]
    · rw [a3, hll, List.drop_length]
      rfl
  refine s_asS (s_asI (s_blk (fun vs W2 => vs = [] ∧ l.length < n ∧ okc = true ∧ W2 = U) ?_ ?_))
  · rintro _ j2 W2 ⟨rfl, hlt, rfl, rfl⟩
    have hnext : ∀ (l0 : List K) r0, (∀ k ∈ l0, InK k) → ok = true → ws = keysW l0 ++ r0 → ∃ k, InK k ∧ l0.take (l.length + 1) = l ++ [k] ∧ rest = dI k.t :: dI k.r :: (kw (l0.drop (l.length + 1)) ++ r0) := by
      intro l0 r0 h1 h2 h3
      obtain ⟨a1, a2, a3⟩ := hinv l0 r0 h1 h2 h3
      obtain ⟨b1, _, _⟩ := hcan1 l0 r0 h1 h2 h3
      have hl0 : l.length < l0.length := by omega
      refine ⟨l0[l.length], h1 _ (List.getElem_mem hl0), ?_, ?_⟩
      · rw [List.take_succ_eq_append_getElem hl0, ← a2]
      · rw [a3, List.drop_eq_getElem_cons hl0, kw_cons]
        rfl
    refine s_call (tlong_c h) ?_
    rintro _ u ⟨n1, okA, rfl, hn1, hc1, h⟩
    refine ⟨_, rfl, s_asI (s_call (tlong_c h) ?_)⟩
    rintro _ u ⟨n2, okB, rfl, hn2, hc2, h⟩
    refine ⟨_, rfl, s_asI ?_⟩
    obtain ⟨vw, H, hk⟩ := h.turn
    refine h_new H fun n16 u H => ?_
    refine h_st H (b := n16) pick_head (by simp) rfl fun u H => ?_
    simp only [List.set_cons_zero, List.set_cons_succ] at H
    refine h_st H (b := n16) pick_head (by simp) rfl fun u H => ?_
    simp only [List.set_cons_zero, List.set_cons_succ] at H
    have hT : Tk w0 u p okB rest.tail.tail b (cl n16 63 (kr ⟨IntKind.wrap .i32 n1, n2⟩) :: (c ++ (y ++ x))) := hk (x' := cl n16 63 (kr ⟨IntKind.wrap .i32 n1, n2⟩) :: (c ++ (y ++ x))) (H.sub (by repeat (first | exact sb_refl | exact sb_nil | refine sb_cons (by repeat (first | exact pick_head | apply pick_tail | apply pick_app)) ?_ | refine sb_app (by repeat (first | exact cut_head | exact cut_all | apply cut_tail | apply cut_app)) ?_ | exact sb_one (by repeat (first | exact cut_head | exact cut_all | apply cut_tail | apply cut_app)))))
    clear H hk
    have hK : InK ⟨IntKind.wrap .i32 n1, n2⟩ := ⟨(wrap32_bd n1).1, (wrap32_bd n1).2, hn2⟩
    have hgood : ∀ (l0 : List K) r0, (∀ k ∈ l0, InK k) → ok = true → ws = keysW l0 ++ r0 → okB = true ∧ IntKind.wrap .i32 n1 = n1 ∧ l ++ [⟨IntKind.wrap .i32 n1, n2⟩] = l0.take (l.length + 1) ∧ rest.tail.tail = kw (l0.drop (l.length + 1)) ++ r0 := by
      intro l0 r0 h1 h2 h3
      obtain ⟨k, hk, e1, e2⟩ := hnext l0 r0 h1 h2 h3
      obtain ⟨d1, d2⟩ := hc1 k.t _ hk.in64 e2
      obtain ⟨d3, d4⟩ := hc2 k.r (kw (l0.drop (l.length + 1)) ++ r0) hk.r (by rw [e2]; rfl)
      have e3 : IntKind.wrap .i32 n1 = n1 := by rw [d1]; exact wrap32_id hk.t0 hk.t1
      refine ⟨by rw [d4, d2], e3, ?_, by rw [e2]; rfl⟩
      rw [e1, e3, d1, d3]
    have hstep : ∀ {U' : World} (okc' : Bool) {Q : Ending → World → Prop} {kk : Value → T} {ρ : Lv}, Tk w0 U' p okc' rest.tail.tail b (cl n16 63 (kr ⟨IntKind.wrap .i32 n1, n2⟩) :: (c ++ (y ++ x))) →
        (∀ o3 cap3 c3 y3 U3, OwnC 63 2 (.slice o3 (l.length + 1) cap3) (l.length + 1) (encK (l ++ [⟨IntKind.wrap .i32 n1, n2⟩])) c3 → Tk w0 U3 p okc' rest.tail.tail b (c3 ++ (y3 ++ x)) → (kk (.slice o3 (l.length + 1) cap3)).sem Tryz.prog Q ρ U3) →
        (T.ldI .i32 n16 0 fun a => T.ldI .i64 n16 1 fun d => T.new (.cells #[.int .i32 a, .int .i64 d] 63) fun g => T.run (biV .append #[50, 50] 50 #[.slice o2 l.length cap2, .slice (some ⟨g, 0, none⟩) 1 1]) kk).sem Tryz.prog Q ρ U' := by
      intro U' okc' Q kk ρ hT hq
      obtain ⟨vw, H, hk⟩ := hT.turn
      simp only [List.cons_append, List.append_assoc, kr] at H
      refine h_ldI H (b := n16) (by repeat (first | exact pick_head | apply pick_tail | apply pick_app)) rfl (h_ldI H (b := n16) (by repeat (first | exact pick_head | apply pick_tail | apply pick_app)) rfl (h_new H fun n21 u H => ?_))
      refine h_app1 elemKW H (c := c) (by repeat (first | exact cut_head | exact cut_all | apply cut_tail | apply cut_app)) ho (r := n21) (l := kr ⟨IntKind.wrap .i32 n1, n2⟩) (by repeat (first | exact pick_head | apply pick_tail | apply pick_app)) rfl (kr_one' _) (by omega) (by omega) ?_
      intro v' c' u ho' H
      obtain ⟨o3, cap3, rfl⟩ := ho'.slice
      refine hq o3 cap3 c' (cl n21 63 (kr ⟨IntKind.wrap .i32 n1, n2⟩) :: cl n16 63 (kr ⟨IntKind.wrap .i32 n1, n2⟩) :: y) u ?_ (hk ?_)
      · rw [encK_app]
        simpa [encK] using ho'
      · simp only [List.cons_append, List.append_assoc]
        exact H.sub (by repeat (first | exact sb_refl | exact sb_nil | refine sb_cons (by repeat (first | exact pick_head | apply pick_tail | apply pick_app)) ?_ | refine sb_app (by repeat (first | exact cut_head | exact cut_all | apply cut_tail | apply cut_app)) ?_ | exact sb_one (by repeat (first | exact cut_head | exact cut_all | apply cut_tail | apply cut_app))))
    refine t_ok hT (s_ite (fun g => ?_) (fun g => ?_))
    · obtain ⟨vw, H, hk⟩ := hT.turn
      simp only [List.cons_append, kr] at H
      refine h_ldI H (b := n16) (by repeat (first | exact pick_head | apply pick_tail | apply pick_app)) rfl ?_
      clear H hk
      refine t_mark hT fun u hT => hstep _ hT ?_
      intro o3 cap3 c3 y3 U3 ho3 hT
      refine s_asS (s_next ⟨rfl, rfl⟩ ?_)
      simp (config := { decide := true }) only [if_true, if_false]
      refine ⟨⟨.slice o3 (l.length + 1) cap3, l ++ [⟨IntKind.wrap .i32 n1, n2⟩], _, _, c3, y3, by rw [w_succ (by omega)]; simp, by simp; omega, ?_, by rw [List.length_append]; exact ho3, fun l0 r0 h1 h2 h3 => ?_, hT⟩, by rw [w_succ (by omega)]; simp [intOf] <;> omega⟩
      · intro k hk
        rcases List.mem_append.1 hk with hk | hk
        · exact hin k hk
        · rw [List.mem_singleton] at hk
          subst hk
          exact hK
      · obtain ⟨e1, e2, e3, e4⟩ := hgood l0 r0 h1 h2 h3
        refine ⟨?_, ?_, ?_⟩
        · rw [wrapI (by have := (wrap32_bd n1).1; omega) (by have := (wrap32_bd n1).2; omega), e2]
          simp
        · rw [List.length_append]
          exact e3
        · rw [List.length_append]
          exact e4
    · refine t_mark hT fun u hT => hstep _ hT ?_
      intro o3 cap3 c3 y3 U3 ho3 hT
      refine s_asS (s_next ⟨rfl, rfl⟩ ?_)
      simp (config := { decide := true }) only [if_true, if_false]
      refine ⟨⟨.slice o3 (l.length + 1) cap3, l ++ [⟨IntKind.wrap .i32 n1, n2⟩], _, _, c3, y3, by rw [w_succ (by omega)]; simp, by simp; omega, ?_, by rw [List.length_append]; exact ho3, fun l0 r0 h1 h2 h3 => ?_, hT⟩, by rw [w_succ (by omega)]; simp [intOf] <;> omega⟩
      · intro k hk
        rcases List.mem_append.1 hk with hk | hk
        · exact hin k hk
        · rw [List.mem_singleton] at hk
          subst hk
          exact hK
      · obtain ⟨e1, e2, e3, e4⟩ := hgood l0 r0 h1 h2 h3
        rw [g] at e1
        cases e1
  · refine s_ite (fun g => t_ok h (s_ite (fun g2 => s_next ⟨rfl, rfl⟩ ?_) (fun g2 => s_ret (hend (fun _ => g2) h)))) (fun g => s_ret (hend (fun hh => ?_) h))
    · have g : (l.length : Int) < n := by simpa using g
      simp only [if_true]
      exact ⟨trivial, by omega, g2, trivial⟩
    · have g : ¬ ((l.length : Int) < n) := by simpa using g
      omega
end
end Go.Proofs.YtihipcofjpnfbaaGreatDoor

/- The reference's reader: a transaction. -/
set_option linter.unusedVariables false
set_option linter.unusedSimpArgs false
set_option maxRecDepth 100000
set_option maxHeartbeats 4000000
namespace Go.Proofs.YtihipcofjpnfbaaGreatDoor
open Go hiding Expr
open Go.RowKit Tr

theorem unh_bytes (s : List UInt8) : (∀ c ∈ (unhR s).1, IsByte c) ∧ 2 * (unhR s).1.length ≤ s.length := by
  cases h : (unhR s).2 with
  | true => exact (unh_true h).2
  | false =>
    have : (unhR s).1 = [] := by
      unfold unhR at h ⊢
      split
      · rfl
      · split
        · rfl
        · rename_i h1 h2
          rw [if_neg h1, if_neg h2] at h
          cases hp : unhP s with
          | none => rfl
          | some l => rw [hp] at h; cases h
    rw [this]
    simp
section
variable {w0 w w' : World} {p : Nat} {ok : Bool} {ws : List W} {b x : Hp}
theorem ttxn_c (h : Tk w0 w p ok ws b x) : Calls Tryz.prog 70 #[.pointer (some ⟨p, 0, none⟩)] w fun e w' =>
    ∃ (t : TX) (v : TV) (ok' : Bool) (r : List W) (c : Hp), e = .returned (.agg ⟨txv t v⟩) ∧ TxOk t ∧ t.s = 0 ∧ t.q = 0 ∧ HeldT c t v ∧
      (∀ (t0 : TX) r0, TxOk t0 → t0.s = 0 → t0.q = 0 → ok = true → ws = txW t0 ++ r0 → t = t0 ∧ r = r0 ∧ ok' = true) ∧ Tk w0 w' p ok' r b (c ++ x) := by
  have hwb := h.wb
  apply c70
  obtain ⟨vw, H, hk⟩ := h.turn
  refine h_new H fun n2 u H => ?_
  have h : Tk w0 u p ok ws b (cl n2 52 [.int .i64 0, .int .i64 0, .slice none 0 0, .slice none 0 0, .slice none 0 0, .slice none 0 0] :: x) := hk (by simp only [List.cons_append]; exact H.sub (by repeat (first | exact sb_refl | exact sb_nil | refine sb_cons (by repeat (first | exact pick_head | apply pick_tail | apply pick_app)) ?_ | refine sb_app (by repeat (first | exact cut_head | exact cut_all | apply cut_tail | apply cut_app)) ?_ | exact sb_one (by repeat (first | exact cut_head | exact cut_all | apply cut_tail | apply cut_app)))))
  clear H hk
  refine s_call (tis_c h (t := wCode)) ?_
  rintro _ u ⟨ok1, rfl, hc1, h⟩
  have hwb1 := h.wb
  refine ⟨_, rfl, s_call (tword_c h) ?_⟩
  rintro _ u ⟨ok2, rfl, hc2, h⟩
  generalize hs : ws.tail.headD [] = s
  have hs1 : s.length ≤ 2097152 := by
    rw [← hs]
    cases ht : ws.tail with
    | nil => simp
    | cons a r => exact hwb1.2 a (by rw [ht]; simp)
  refine ⟨_, rfl, s_asT (s_call (runhex_c hs1) ?_)⟩
  rintro _ u ⟨vc, cc, rfl, hoc, H2⟩
  obtain ⟨oc, capc, rfl⟩ := hoc.slice
  have h := h.join H2
  clear H2
  obtain ⟨hbytes, hlen⟩ := unh_bytes s
  have can1 : ∀ (t0 : TX) r0, TxOk t0 → ok = true → ws = txW t0 ++ r0 → ok2 = true ∧ unhR s = (t0.code, true) ∧ ws.tail.tail = wArgs :: dI t0.args.length :: (t0.args.map dI ++ (wReads :: (keysW t0.rd ++ (wWrites :: (keysW t0.wr ++ r0))))) := by
    intro t0 r0 ht hok hw
    rw [txW_split] at hw
    simp only [List.cons_append, List.append_assoc] at hw
    have e1 : ok1 = true := by rw [hc1 _ hw, hok]
    have e2 : ws.tail = hexL t0.code :: wArgs :: dI t0.args.length :: (t0.args.map dI ++ (wReads :: (keysW t0.rd ++ (wWrites :: (keysW t0.wr ++ r0))))) := by rw [hw]; rfl
    have e3 : s = hexL t0.code := by rw [← hs, e2]; rfl
    exact ⟨by rw [hc2 _ _ e2, e1], by rw [e3, unh_hexL ht.code], by rw [e2]; rfl⟩
  clear hc1 hc2
  generalize hcd : (unhR s).1 = code at hoc hbytes hlen
  refine ⟨_, rfl, s_asU (s_req rfl (s_asS (s_asB ?_)))⟩
  refine s_blk (fun vs U => vs = [] ∧ ∃ ok3, (∀ (t0 : TX) r0, TxOk t0 → ok = true → ws = txW t0 ++ r0 → ok3 = true) ∧ Tk w0 U p ok3 ws.tail.tail b (cc ++ (cl n2 52 [.int .i64 0, .int .i64 0, .slice none 0 0, .slice none 0 0, .slice none 0 0, .slice none 0 0] :: x))) ?_ ?_
  rotate_left
  · refine t_ok h (s_ite (fun g => t_mark h fun u h => s_next ⟨rfl, rfl⟩ ?_) (fun g => t_mark h fun u h => s_next ⟨rfl, rfl⟩ ?_))
    · simp only [if_true]
      exact ⟨trivial, _, fun t0 r0 a1 a2 a3 => by rw [(can1 t0 r0 a1 a2 a3).2.1], h⟩
    · simp only [if_true]
      refine ⟨trivial, _, fun t0 r0 a1 a2 a3 => ?_, h⟩
      rw [(can1 t0 r0 a1 a2 a3).1] at g
      cases g
  clear h
  rintro _ j U ⟨rfl, ok3, hc3, h⟩
  obtain ⟨vw, H, hk⟩ := h.turn
  refine h_new H fun n3 u H => ?_
  iterate 6 (refine h_st H (b := n3) pick_head (by first | (simp; done) | exact Nat.le_of_ble_eq_true rfl) rfl fun u H => ?_; simp only [List.set_cons_zero, List.set_cons_succ] at H)
  have h : Tk w0 u p ok3 ws.tail.tail b (cl n3 52 [.int .i64 0, .int .i64 0, .slice oc code.length capc, .slice none 0 0, .slice none 0 0, .slice none 0 0] :: (cc ++ (cl n2 52 [.int .i64 0, .int .i64 0, .slice none 0 0, .slice none 0 0, .slice none 0 0, .slice none 0 0] :: x))) := hk (by simp only [List.cons_append, List.append_assoc] at H ⊢; exact H.sub (by repeat (first | exact sb_refl | exact sb_nil | refine sb_cons (by repeat (first | exact pick_head | apply pick_tail | apply pick_app)) ?_ | refine sb_app (by repeat (first | exact cut_head | exact cut_all | apply cut_tail | apply cut_app)) ?_ | exact sb_one (by repeat (first | exact cut_head | exact cut_all | apply cut_tail | apply cut_app)))))
  clear H hk
  refine s_call (tis_c h (t := wArgs)) ?_
  rintro _ u ⟨ok4, rfl, hc4, h⟩
  refine ⟨_, rfl, s_call (tmany_c h) ?_⟩
  rintro _ u ⟨n, ok5, rfl, hn, hc5, h⟩
  have can2 : ∀ (t0 : TX) r0, TxOk t0 → ok = true → ws = txW t0 ++ r0 → ok5 = true ∧ n = t0.args.length ∧ ws.tail.tail.tail.tail = t0.args.map dI ++ (wReads :: (keysW t0.rd ++ (wWrites :: (keysW t0.wr ++ r0)))) := by
    intro t0 r0 a1 a2 a3
    obtain ⟨e1, e2, e3⟩ := can1 t0 r0 a1 a2 a3
    have e4 := hc4 _ e3
    have e5 : ws.tail.tail.tail = dI t0.args.length :: (t0.args.map dI ++ (wReads :: (keysW t0.rd ++ (wWrites :: (keysW t0.wr ++ r0))))) := by rw [e3]; rfl
    obtain ⟨e6, e7⟩ := hc5 _ _ (by simp) e5
    exact ⟨by rw [e7, e4, hc3 t0 r0 a1 a2 a3], e6, by rw [e5]; rfl⟩
  clear hc3 hc4 hc5
  generalize hw4 : ws.tail.tail.tail.tail = ws4 at h can2
  refine ⟨_, rfl, s_asI ?_⟩
  refine s_loop (fun vs U => ∃ (oa : Option Addr) (ca : Nat) (l : List Int) (okc : Bool) (rest : List W) (c y : Hp), vs = [.int .i64 l.length] ∧ l.length ≤ n ∧ (∀ k ∈ l, In64 k) ∧ OwnC 2 1 (.slice oa l.length ca) l.length (ints64 l) c ∧
      (∀ (t0 : TX) r0, TxOk t0 → ok = true → ws = txW t0 ++ r0 → okc = true ∧ l = t0.args.take l.length ∧ rest = (t0.args.drop l.length).map dI ++ (wReads :: (keysW t0.rd ++ (wWrites :: (keysW t0.wr ++ r0))))) ∧
      Tk w0 U p okc rest b (cl n3 52 [.int .i64 0, .int .i64 0, .slice oc code.length capc, .slice oa l.length ca, .slice none 0 0, .slice none 0 0] :: (c ++ (cc ++ (y ++ (cl n2 52 [.int .i64 0, .int .i64 0, .slice none 0 0, .slice none 0 0, .slice none 0 0, .slice none 0 0] :: x))))))
    (fun vs _ => n - (intOf (vs.getD 0 undef)).toNat) ⟨none, 0, [], ok5, ws4, [], [], rfl, by simp, by simp, OwnC.nil, fun t0 r0 a1 a2 a3 => ⟨(can2 t0 r0 a1 a2 a3).1, by simp, (can2 t0 r0 a1 a2 a3).2.2⟩, h⟩ ?_
  clear h
  rintro _ j U ⟨oa, ca, l, okc, rest, c, y, rfl, hln, hin, ho, hinv, h⟩
  refine s_asI (s_ite (fun g1 => ?_) (fun g1 => ?_))
  · simp only [decide_eq_true_eq] at g1
    have hlt : l.length < n := by omega
    obtain ⟨vw, H, hk⟩ := h.turn
    simp only [List.cons_append, List.append_assoc] at H
    refine h_drew H fun u H => h_ldS H (b := n3) (by repeat (first | exact pick_head | apply pick_tail | apply pick_app)) rfl ?_
    have h : Tk w0 u p okc rest b (cl n3 52 [.int .i64 0, .int .i64 0, .slice oc code.length capc, .slice oa l.length ca, .slice none 0 0, .slice none 0 0] :: (c ++ (cc ++ (y ++ (cl n2 52 [.int .i64 0, .int .i64 0, .slice none 0 0, .slice none 0 0, .slice none 0 0, .slice none 0 0] :: x))))) := hk (by simp only [List.cons_append, List.append_assoc]; exact H)
    clear H hk
    refine s_call (tlong_c h) ?_
    rintro _ u ⟨n1, okd, rfl, hn1', hcl, h⟩
    obtain ⟨vw, H, hk⟩ := h.turn
    refine ⟨_, rfl, s_asI (s_chk (hc_cons H (b := n3) (by repeat (first | exact pick_head | apply pick_tail | apply pick_app)) rfl c_nil) (h_new H fun n26 u H => s_chk (hc_cons H (b := n3) (by repeat (first | exact pick_head | apply pick_tail | apply pick_app)) rfl c_nil) ?_))⟩
    have H : Has w0 u (c ++ (cl n26 2 (ir n1) :: cl n3 52 [.int .i64 0, .int .i64 0, .slice oc code.length capc, .slice oa l.length ca, .slice none 0 0, .slice none 0 0] :: cl p 100 [vw, .bool okd] :: (cc ++ (y ++ (cl n2 52 [.int .i64 0, .int .i64 0, .slice none 0 0, .slice none 0 0, .slice none 0 0, .slice none 0 0] :: (x ++ b)))))) := by
      simp only [List.append_assoc, List.cons_append] at H
      exact H.sub (by repeat (first | exact sb_refl | exact sb_nil | refine sb_cons (by repeat (first | exact pick_head | apply pick_tail | apply pick_app)) ?_ | refine sb_app (by repeat (first | exact cut_head | exact cut_all | apply cut_tail | apply cut_app)) ?_ | exact sb_one (by repeat (first | exact cut_head | exact cut_all | apply cut_tail | apply cut_app))))
    refine h_app1 elemI64 H cut_head ho (r := n26) (l := ir n1) (pick_app pick_head) rfl (by intro u hu; simp [ir] at hu; subst hu; rfl) (by omega) (by omega) ?_
    intro v' c' u ho' H
    obtain ⟨o3, cap3, rfl⟩ := ho'.slice
    refine s_asS (s_chk c_nil (h_st H (b := n3) (by repeat (first | exact pick_head | apply pick_tail | apply pick_app)) (by simp) rfl fun u H => s_chk c_nil (s_next ⟨rfl, rfl⟩ ?_)))
    simp (config := { decide := true }) only [if_true, if_false]
    simp only [List.set_cons_zero, List.set_cons_succ] at H
    refine ⟨⟨o3, cap3, l ++ [n1], okd, rest.tail, c', cl n26 2 (ir n1) :: y, ?_, by simp; omega, ?_, ?_, ?_, hk ?_⟩, by rw [w_succ (by omega)]; simp [intOf] <;> omega⟩
    · rw [w_succ (by omega)]
      simp
    · intro k hk'
      rcases List.mem_append.1 hk' with hk' | hk'
      · exact hin k hk'
      · rw [List.mem_singleton] at hk'
        subst hk'
        exact hn1'
    · rw [ints64_app, List.length_append]
      simpa [ints64] using ho'
    · intro t0 r0 a1 a2 a3
      obtain ⟨e1, e2, e3⟩ := hinv t0 r0 a1 a2 a3
      obtain ⟨_, f2, _⟩ := can2 t0 r0 a1 a2 a3
      have hl0 : l.length < t0.args.length := by omega
      rw [List.drop_eq_getElem_cons hl0, List.map_cons, List.cons_append] at e3
      obtain ⟨d1, d2⟩ := hcl t0.args[l.length] _ (a1.args _ (List.getElem_mem hl0)) e3
      refine ⟨by rw [d2, e1], ?_, ?_⟩
      · rw [List.length_append, List.length_singleton, List.take_succ_eq_append_getElem hl0, ← e2, d1]
      · rw [List.length_append, List.length_singleton, e3]
        rfl
    · simp only [List.append_assoc, List.cons_append, List.length_append, List.length_singleton]
      exact H.sub (by repeat (first | exact sb_refl | exact sb_nil | refine sb_cons (by repeat (first | exact pick_head | apply pick_tail | apply pick_app)) ?_ | refine sb_app (by repeat (first | exact cut_head | exact cut_all | apply cut_tail | apply cut_app)) ?_ | exact sb_one (by repeat (first | exact cut_head | exact cut_all | apply cut_tail | apply cut_app))))
  · simp only [decide_eq_false_iff_not] at g1
    have hle : l.length = n := by omega
    have can3 : ∀ (t0 : TX) r0, TxOk t0 → ok = true → ws = txW t0 ++ r0 → okc = true ∧ l = t0.args ∧ rest = wReads :: (keysW t0.rd ++ (wWrites :: (keysW t0.wr ++ r0))) := by
      intro t0 r0 a1 a2 a3
      obtain ⟨e1, e2, e3⟩ := hinv t0 r0 a1 a2 a3
      obtain ⟨_, f2, _⟩ := can2 t0 r0 a1 a2 a3
      rw [hle, f2, List.take_length] at e2
      rw [hle, f2, List.drop_length] at e3
      exact ⟨e1, e2, e3⟩
    clear hinv
    refine s_call (tis_c h (t := wReads)) ?_
    rintro _ u ⟨ok6, rfl, hc6, h⟩
    refine ⟨_, rfl, s_call (tkeys_c h) ?_⟩
    rintro _ u ⟨rd, ok7, r7, vd, cd, yd, rfl, hrd, hrl, hod, hc7, h⟩
    obtain ⟨od, capd, rfl⟩ := hod.slice
    obtain ⟨vw, H, hk⟩ := h.turn
    simp only [List.cons_append, List.append_assoc] at H
    refine ⟨_, rfl, s_asS (h_st H (b := n3) (by repeat (first | exact pick_head | apply pick_tail | apply pick_app)) (by simp) rfl fun u H => ?_)⟩
    simp only [List.set_cons_zero, List.set_cons_succ] at H
    have h : Tk w0 u p ok7 r7 b (cl n3 52 [.int .i64 0, .int .i64 0, .slice oc code.length capc, .slice oa l.length ca, .slice od rd.length capd, .slice none 0 0] :: (cd ++ (yd ++ (c ++ (cc ++ (y ++ (cl n2 52 [.int .i64 0, .int .i64 0, .slice none 0 0, .slice none 0 0, .slice none 0 0, .slice none 0 0] :: x))))))) := hk (by simp only [List.cons_append, List.append_assoc]; exact H.sub (by repeat (first | exact sb_refl | exact sb_nil | refine sb_cons (by repeat (first | exact pick_head | apply pick_tail | apply pick_app)) ?_ | refine sb_app (by repeat (first | exact cut_head | exact cut_all | apply cut_tail | apply cut_app)) ?_ | exact sb_one (by repeat (first | exact cut_head | exact cut_all | apply cut_tail | apply cut_app)))))
    clear H hk
    refine s_call (tis_c h (t := wWrites)) ?_
    rintro _ u ⟨ok8, rfl, hc8, h⟩
    refine ⟨_, rfl, s_call (tkeys_c h) ?_⟩
    rintro _ u ⟨wr, ok9, r9, vr, cr, yr, rfl, hwr, hwl, how, hc9, h⟩
    obtain ⟨ow, capw, rfl⟩ := how.slice
    obtain ⟨vw, H, hk⟩ := h.turn
    simp only [List.cons_append, List.append_assoc] at H
    refine ⟨_, rfl, s_asS (h_st H (b := n3) (by repeat (first | exact pick_head | apply pick_tail | apply pick_app)) (by simp) rfl fun u H => ?_)⟩
    simp only [List.set_cons_zero, List.set_cons_succ] at H
    iterate 2 refine h_ldI H (b := n3) (by repeat (first | exact pick_head | apply pick_tail | apply pick_app)) rfl ?_
    iterate 4 refine h_ldS H (b := n3) (by repeat (first | exact pick_head | apply pick_tail | apply pick_app)) rfl ?_
    iterate 6 (refine h_st H (b := n2) (by repeat (first | exact pick_head | apply pick_tail | apply pick_app)) (by first | (simp; done) | exact Nat.le_of_ble_eq_true rfl) rfl fun u H => ?_; simp only [List.set_cons_zero, List.set_cons_succ] at H)
    iterate 2 refine h_ldI H (b := n2) (by repeat (first | exact pick_head | apply pick_tail | apply pick_app)) rfl ?_
    iterate 4 refine h_ldS H (b := n2) (by repeat (first | exact pick_head | apply pick_tail | apply pick_app)) rfl ?_
    refine s_ret ⟨⟨0, 0, code, l, rd, wr⟩, ⟨oc, capc, oa, ca, od, capd, ow, capw⟩, ok9, r9, cr ++ (cd ++ (c ++ cc)), rfl, ⟨zero64, zero64, hbytes, hin, hrd, hwr, by simp only; omega, by simp only; omega, hrl, hwl⟩, rfl, rfl, ?_, ?_, ?_⟩
    · intro w1 u1 H1
      exact ⟨bytAt_own hoc H1 (by repeat (first | exact cut_head | exact cut_all | apply cut_tail | apply cut_app)), rowsAt_own (ir1 l) (by decide) ho H1 (by repeat (first | exact cut_head | exact cut_all | apply cut_tail | apply cut_app)), rowsAt_own (kr2 rd) (by decide) hod H1 (by repeat (first | exact cut_head | exact cut_all | apply cut_tail | apply cut_app)), rowsAt_own (kr2 wr) (by decide) how H1 (by repeat (first | exact cut_head | exact cut_all | apply cut_tail | apply cut_app))⟩
    · intro t0 r0 a1 hs0 hq0 a2 a3
      obtain ⟨_, e2, _⟩ := can1 t0 r0 a1 a2 a3
      obtain ⟨f1, f2, f3⟩ := can3 t0 r0 a1 a2 a3
      have f4 : ok6 = true := by rw [hc6 _ f3, f1]
      obtain ⟨f5, f6, f7⟩ := hc7 t0.rd (wWrites :: (keysW t0.wr ++ r0)) a1.rd f4 (by rw [f3]; rfl)
      have f8 : ok8 = true := by rw [hc8 _ f6, f7]
      obtain ⟨f9, f10, f11⟩ := hc9 t0.wr r0 a1.wr f8 (by rw [f6]; rfl)
      refine ⟨?_, f10, f11⟩
      have : code = t0.code := by rw [← hcd, e2]
      subst this f2 f5 f9
      cases t0
      simp only [TX.mk.injEq] at *
      exact ⟨hs0.symm, hq0.symm, trivial, trivial, trivial, trivial⟩
    · refine hk ?_
      simp only [List.append_assoc, List.cons_append] at H ⊢
      exact H.sub (by repeat (first | exact sb_refl | exact sb_nil | refine sb_cons (by repeat (first | exact pick_head | apply pick_tail | apply pick_app)) ?_ | refine sb_app (by repeat (first | exact cut_head | exact cut_all | apply cut_tail | apply cut_app)) ?_ | exact sb_one (by repeat (first | exact cut_head | exact cut_all | apply cut_tail | apply cut_app))))
end
end Go.Proofs.YtihipcofjpnfbaaGreatDoor

/- The reference's reader: a step. -/
set_option linter.unusedVariables false
set_option linter.unusedSimpArgs false
set_option maxRecDepth 100000
set_option maxHeartbeats 8000000
namespace Go.Proofs.YtihipcofjpnfbaaGreatDoor
open Go hiding Expr
open Go.RowKit Tr

theorem Val.bare {y : ST} (h : Val y) : bareS y = y := (stepR_ok h.2).2.1
theorem Val.txz {y : ST} (h : Val y) : y.tx.s = 0 ∧ y.tx.q = 0 := by
  obtain ⟨_, h1, h2, _⟩ := stepR_ok h.2
  by_cases hk : y.kind = 2
  · unfold rline at h2
    rw [if_neg (by omega), if_pos hk] at h2
    unfold resT at h2
    by_cases hs : y.tx.s ≠ 0 ∨ y.tx.q ≠ 0
    · rw [if_pos hs] at h2
      simp at h2
    · omega
  · have e : (bareS y).tx = TX.none := by
      unfold bareS
      repeat' split
      all_goals first | rfl | contradiction
    rw [h1] at e
    rw [e]
    exact ⟨rfl, rfl⟩
section
variable {w0 w w' : World} {p n7 : Nat} {ok : Bool} {ws : List W} {b x z : Hp} {y : ST} {v : SV27} {ρ : Lv} {Q : Ending → World → Prop}
theorem t_int {C : ST → List W → Prop} {g : ST → Int} {F : ST → List W → List W} {K : T} {off : Nat} {set : Int → ST} (h : Tk w0 w p ok ws b (cl n7 56 (stv y v) :: z)) (hoff : off < 16)
    (hset : ∀ n, (stv y v).set off (.int .i64 n) = stv (set n) v) (hC : ∀ y0 r0, C y0 r0 → ok = true ∧ In64 (g y0) ∧ ws = dI (g y0) :: F y0 r0)
    (hk : ∀ n ok' ws' U, In64 n → (∀ y0 r0, C y0 r0 → ok' = true ∧ n = g y0 ∧ ws' = F y0 r0) → Tk w0 U p ok' ws' b (cl n7 56 (stv (set n) v) :: z) → K.sem Tryz.prog Q ρ U) :
    (T.call 43 [.pointer (some ⟨p, 0, none⟩)] fun v => T.asI .i64 v fun i => T.st n7 off (.int .i64 i) K).sem Tryz.prog Q ρ w := by
  refine s_call (tint_c h) ?_
  rintro _ u ⟨n, ok', rfl, hn, hc, h⟩
  obtain ⟨vw, H, hk2⟩ := h.turn
  refine ⟨_, rfl, s_asI (h_st H (b := n7) (pick_tail pick_head) (by simp [stv]; omega) rfl fun u H => hk n ok' ws.tail u hn ?_ (hk2 ?_))⟩
  · intro y0 r0 hc0
    obtain ⟨e1, e2, e3⟩ := hC y0 r0 hc0
    obtain ⟨e4, e5⟩ := hc _ _ e2 e3
    exact ⟨by rw [e5, e1], e4, by rw [e3]; rfl⟩
  · rw [hset] at H
    exact H.perm (List.Perm.swap ..)
theorem tstep_c (h : Tk w0 w p ok ws b x) : Calls Tryz.prog 45 #[.pointer (some ⟨p, 0, none⟩)] w fun e w' =>
    ∃ (y : ST) (v : SV27) (ok' : Bool) (r : List W) (c : Hp), e = .returned (.agg ⟨stv y v⟩) ∧ StOk y ∧ HeldS c y v ∧ (∀ y0 r0, Val y0 → ok = true → ws = stW y0 ++ r0 → ok' = true ∧ y = y0) ∧ Tk w0 w' p ok' r b (c ++ x) := by
  apply c45
  obtain ⟨vw, H, hk⟩ := h.turn
  refine h_new H fun n2 u H => ?_
  have h : Tk w0 u p ok ws b (cl n2 56 zST :: x) := hk (by simp only [List.cons_append]; exact H.sub (by repeat (first | exact sb_refl | exact sb_nil | refine sb_cons (by repeat (first | exact pick_head | apply pick_tail | apply pick_app)) ?_ | refine sb_app (by repeat (first | exact cut_head | exact cut_all | apply cut_tail | apply cut_app)) ?_ | exact sb_one (by repeat (first | exact cut_head | exact cut_all | apply cut_tail | apply cut_app)))))
  clear H hk
  refine s_call (tword_c h) ?_
  rintro _ u ⟨ok1, rfl, hc1, h⟩
  generalize hs : ws.headD [] = s
  refine ⟨_, rfl, s_asT (s_call kind_c ?_)⟩
  rintro _ u ⟨k, rfl, hk0, hk20, hkc, f⟩
  have h := h.fr0 f
  refine ⟨_, rfl, s_asI ?_⟩
  have hC0 : ∀ y0 r0, (Val y0 ∧ ok = true ∧ ws = stW y0 ++ r0) → ok1 = true ∧ y0.kind = k ∧ ws.tail = fw y0 ++ r0 := by
    rintro y0 r0 ⟨a1, a2, a3⟩
    have e : ws = wordK y0.kind :: (fw y0 ++ r0) := by rw [a3]; rfl
    exact ⟨by rw [hc1 _ _ e, a2], (hkc y0.kind a1.kind.1 a1.kind.2 (by rw [← hs, e]; rfl)).symm, by rw [e]; rfl⟩
  have hfin : ∀ y0 r0, (Val y0 ∧ ok = true ∧ ws = stW y0 ++ r0) → Val y0 := fun y0 r0 h => h.1
  have hres : ∀ {R : ST → Bool → Prop}, (∀ y0 r0, (Val y0 ∧ ok = true ∧ ws = stW y0 ++ r0) → R y0 true) → True := fun _ => trivial
  clear hc1 hkc hres
  have hIn : In64 k := ⟨by omega, by omega⟩
  obtain ⟨vw, H, hk⟩ := h.turn
  refine h_new H fun n7 u H => ?_
  iterate 16 (refine h_st H (b := n7) pick_head (by first | (simp; done) | exact Nat.le_of_ble_eq_true rfl) rfl fun u H => ?_; simp only [List.set_cons_zero, List.set_cons_succ] at H)
  have h : Tk w0 u p ok1 ws.tail b (cl n7 56 (stv (bareZ k) vNone) :: (cl n2 56 zST :: x)) := hk (by simp only [List.cons_append]; exact H.sub (by repeat (first | exact sb_refl | exact sb_nil | refine sb_cons (by repeat (first | exact pick_head | apply pick_tail | apply pick_app)) ?_ | refine sb_app (by repeat (first | exact cut_head | exact cut_all | apply cut_tail | apply cut_app)) ?_ | exact sb_one (by repeat (first | exact cut_head | exact cut_all | apply cut_tail | apply cut_app)))))
  clear H hk
  generalize hCd : (fun y0 r0 => Val y0 ∧ ok = true ∧ ws = stW y0 ++ r0) = C
  have hC0 : ∀ y0 r0, C y0 r0 → ok1 = true ∧ y0.kind = k ∧ ws.tail = fw y0 ++ r0 := by subst hCd; exact hC0
  have hVal : ∀ y0 r0, C y0 r0 → Val y0 := by subst hCd; exact hfin
  have hback : ∀ y0 r0, Val y0 → ok = true → ws = stW y0 ++ r0 → C y0 r0 := by subst hCd; exact fun y0 r0 a1 a2 a3 => ⟨a1, a2, a3⟩
  clear hCd hfin
  refine s_blk (fun vs U => ∃ (y : ST) (v : SV27) (ok' : Bool) (r : List W) (c : Hp), vs = [] ∧ StOk y ∧ HeldS c y v ∧ (∀ y0 r0, C y0 r0 → ok' = true ∧ y = y0) ∧ Tk w0 U p ok' r b (cl n7 56 (stv y v) :: (c ++ (cl n2 56 zST :: x)))) ?_ ?_
  · clear h
    rintro _ j U ⟨y, v, ok', r, c, rfl, hy, hH, hc, h⟩
    obtain ⟨vw, H, hk⟩ := h.turn
    simp only [List.cons_append, List.append_assoc, stv, zST] at H
    iterate 5 refine h_ldI H (b := n7) (by repeat (first | exact pick_head | apply pick_tail | apply pick_app)) rfl ?_
    iterate 5 refine h_ldS H (b := n7) (by repeat (first | exact pick_head | apply pick_tail | apply pick_app)) rfl ?_
    iterate 6 refine h_ldI H (b := n7) (by repeat (first | exact pick_head | apply pick_tail | apply pick_app)) rfl ?_
    iterate 16 (refine h_st H (b := n2) (by repeat (first | exact pick_head | apply pick_tail | apply pick_app)) (by first | (simp; done) | exact Nat.le_of_ble_eq_true rfl) rfl fun u H => ?_; simp only [List.set_cons_zero, List.set_cons_succ] at H)
    iterate 5 refine h_ldI H (b := n2) (by repeat (first | exact pick_head | apply pick_tail | apply pick_app)) rfl ?_
    iterate 5 refine h_ldS H (b := n2) (by repeat (first | exact pick_head | apply pick_tail | apply pick_app)) rfl ?_
    iterate 6 refine h_ldI H (b := n2) (by repeat (first | exact pick_head | apply pick_tail | apply pick_app)) rfl ?_
    refine s_ret ⟨y, v, ok', r, c, rfl, hy, hH, fun y0 r0 a1 a2 a3 => hc y0 r0 (hback y0 r0 a1 a2 a3), hk ?_⟩
    simp only [List.append_assoc]
    exact H.sub (by repeat (first | exact sb_refl | exact sb_nil | refine sb_cons (by repeat (first | exact pick_head | apply pick_tail | apply pick_app)) ?_ | refine sb_app (by repeat (first | exact cut_head | exact cut_all | apply cut_tail | apply cut_app)) ?_ | exact sb_one (by repeat (first | exact cut_head | exact cut_all | apply cut_tail | apply cut_app))))
  have hz0 : StOk (bareZ k) := bareOkZ hIn
  have hH0 : ∀ {y' : ST}, y'.tx = TX.none → y'.keys = [] → HeldS [] y' vNone := fun {y'} e1 e2 w1 u1 H1 => ⟨by rw [e1]; exact ⟨.inl rfl, .inl rfl, .inl rfl, .inl rfl⟩, by rw [e2]; exact .inl rfl⟩
  obtain ⟨vw, H, hk⟩ := h.turn
  simp only [List.cons_append, stv, bareZ] at H
  refine h_ldI H (b := n7) (by repeat (first | exact pick_head | apply pick_tail | apply pick_app)) rfl ?_
  clear H hk
  show T.sem Tryz.prog _ _ _ _
  have bare : ∀ y0 r0, C y0 r0 → bareS y0 = y0 ∧ y0.kind = k := fun y0 r0 hc => ⟨(hVal y0 r0 hc).bare, (hC0 y0 r0 hc).2.1⟩
  refine s_blk (fun vs U => vs = [.bool (decide (k = 1 ∨ k = 6 ∨ k = 13 ∨ k = 11))] ∧ Tk w0 U p ok1 ws.tail b (cl n7 56 (stv (bareZ k) vNone) :: (cl n2 56 zST :: x))) ?_ ?_
  rotate_left
  · refine s_ite (fun g => s_next ⟨rfl, rfl⟩ (by have g := eq_of_beq g; subst g; simp only [if_true]; exact ⟨rfl, h⟩)) (fun g0 => ?_)
    refine s_ite (fun g => s_next ⟨rfl, rfl⟩ (by have g := eq_of_beq g; subst g; simp only [if_true]; exact ⟨rfl, h⟩)) (fun g1 => ?_)
    refine s_ite (fun g => s_next ⟨rfl, rfl⟩ (by have g := eq_of_beq g; subst g; simp only [if_true]; exact ⟨rfl, h⟩)) (fun g2 => ?_)
    have g0 : k ≠ 1 := by simpa using g0
    have g1 : k ≠ 6 := by simpa using g1
    have g2 : k ≠ 13 := by simpa using g2
    refine s_next ⟨rfl, rfl⟩ ?_
    simp only [if_true]
    refine ⟨?_, h⟩
    congr 2
    rw [Bool.eq_iff_iff]
    simp [g0, g1, g2]
  clear h
  rintro _ j1 U ⟨rfl, h⟩
  refine s_asB (s_ite (fun g => ?_) (fun g => ?_))
  · simp only [decide_eq_true_eq] at g
    refine t_int (C := C) (g := fun y => y.at_) (F := fun y r => r) (off := 1) (set := fun n => { bareZ k with at_ := n }) h (by omega) (fun n => rfl) ?_ ?_
    · intro y0 r0 hc
      obtain ⟨e1, e2, e3⟩ := hC0 y0 r0 hc
      refine ⟨e1, (hVal y0 r0 hc).1.at_, ?_⟩
      rw [e3]
      unfold fw
      simp [e2, g]
    intro m0 ok0' ws0 U hn0 hc0 h
    refine s_next ⟨rfl, rfl⟩ ?_
    simp only [if_true]
    refine ⟨{ bareZ k with at_ := m0 }, vNone, ok0', ws0, [], trivial, { hz0 with at_ := hn0 }, hH0 rfl rfl, fun y0 r0 hcc => ⟨(hc0 y0 r0 hcc).1, ?_⟩, h⟩
    obtain ⟨e1, e2⟩ := bare y0 r0 hcc
    rw [← e1, (hc0 y0 r0 hcc).2.1]
    unfold bareS
    simp [e2, g, bareZ]
  simp only [decide_eq_false_iff_not, not_or] at g
  obtain ⟨k1, k6, k13, k11⟩ := g
  refine s_ite (fun g => ?_) (fun k2 => ?_)
  · have g := eq_of_beq g
    refine t_int (C := C) (g := fun y => y.client) (F := fun y r => dI y.at_ :: txW y.tx ++ r) (off := 2) (set := fun n => { bareZ k with client := n }) h (by omega) (fun n => rfl) ?_ ?_
    · intro y0 r0 hc
      obtain ⟨e1, e2, e3⟩ := hC0 y0 r0 hc
      refine ⟨e1, (hVal y0 r0 hc).1.client, ?_⟩
      rw [e3]
      unfold fw
      simp [e2, g]
    intro m0 ok0' ws0 U hn0 hc0 h
    refine t_int (C := C) (g := fun y => y.at_) (F := fun y r => txW y.tx ++ r) (off := 1) (set := fun n => { bareZ k with client := m0, at_ := n }) h (by omega) (fun n => rfl) ?_ ?_
    · intro y0 r0 hc
      exact ⟨(hc0 y0 r0 hc).1, (hVal y0 r0 hc).1.at_, (hc0 y0 r0 hc).2.2⟩
    intro m1 ok1' ws1 U hn1 hc1 h
    refine s_call (ttxn_c h) ?_
    rintro _ u ⟨tx, vt, ok', r, c, rfl, ht, hs0, hq0, hHt, hct, h⟩
    obtain ⟨vw, H, hk⟩ := h.turn
    simp only [List.cons_append, List.append_assoc, stv] at H
    refine ⟨_, rfl, s_asA (s_req rfl (s_asI (s_asI (s_asS (s_asS (s_asS (s_asS ?_)))))))⟩
    iterate 6 (refine h_st H (b := n7) (by repeat (first | exact pick_head | apply pick_tail | apply pick_app)) (by first | (simp; done) | exact Nat.le_of_ble_eq_true rfl) rfl fun u H => ?_; simp only [List.set_cons_zero, List.set_cons_succ] at H)
    refine s_next ⟨rfl, rfl⟩ ?_
    simp only [if_true]
    refine ⟨{ bareZ k with client := m0, at_ := m1, tx := tx }, ⟨vt, none, 0⟩, ok', r, c, trivial, { hz0 with client := hn0, at_ := hn1, tx := ht }, fun w1 u1 H1 => ⟨hHt w1 u1 H1, .inl rfl⟩, fun y0 r0 hcc => ?_, hk ?_⟩
    · obtain ⟨e1, e2⟩ := bare y0 r0 hcc
      have hv := hVal y0 r0 hcc
      obtain ⟨d1, d2, d3⟩ := hct y0.tx r0 hv.1.tx hv.txz.1 hv.txz.2 (hc1 y0 r0 hcc).1 (hc1 y0 r0 hcc).2.2
      refine ⟨d3, ?_⟩
      rw [← e1, (hc0 y0 r0 hcc).2.1, (hc1 y0 r0 hcc).2.1, d1]
      unfold bareS
      simp [e2, g, bareZ]
    · simp only [stv, List.cons_append, List.append_assoc]
      exact H.sub (by repeat (first | exact sb_refl | exact sb_nil | refine sb_cons (by repeat (first | exact pick_head | apply pick_tail | apply pick_app)) ?_ | refine sb_app (by repeat (first | exact cut_head | exact cut_all | apply cut_tail | apply cut_app)) ?_ | exact sb_one (by repeat (first | exact cut_head | exact cut_all | apply cut_tail | apply cut_app))))
  have k2 : k ≠ 2 := by simpa using k2
  refine s_blk (fun vs U => vs = [.bool (decide (k = 3 ∨ k = 16 ∨ k = 17))] ∧ Tk w0 U p ok1 ws.tail b (cl n7 56 (stv (bareZ k) vNone) :: (cl n2 56 zST :: x))) ?_ ?_
  rotate_left
  · refine s_ite (fun g => s_next ⟨rfl, rfl⟩ (by have g := eq_of_beq g; subst g; simp only [if_true]; exact ⟨rfl, h⟩)) (fun g0 => ?_)
    refine s_ite (fun g => s_next ⟨rfl, rfl⟩ (by have g := eq_of_beq g; subst g; simp only [if_true]; exact ⟨rfl, h⟩)) (fun g1 => ?_)
    have g0 : k ≠ 3 := by simpa using g0
    have g1 : k ≠ 16 := by simpa using g1
    refine s_next ⟨rfl, rfl⟩ ?_
    simp only [if_true]
    refine ⟨?_, h⟩
    congr 2
    rw [Bool.eq_iff_iff]
    simp [g0, g1]
  clear h
  rintro _ j3 U ⟨rfl, h⟩
  refine s_asB (s_ite (fun g => ?_) (fun g => ?_))
  · simp only [decide_eq_true_eq] at g
    refine t_int (C := C) (g := fun y => y.client) (F := fun y r => r) (off := 2) (set := fun n => { bareZ k with client := n }) h (by omega) (fun n => rfl) ?_ ?_
    · intro y0 r0 hc
      obtain ⟨e1, e2, e3⟩ := hC0 y0 r0 hc
      refine ⟨e1, (hVal y0 r0 hc).1.client, ?_⟩
      rw [e3]
      unfold fw
      simp [e2, k1, k6, k13, k11, k2, g]
    intro m0 ok0' ws0 U hn0 hc0 h
    refine s_next ⟨rfl, rfl⟩ ?_
    simp only [if_true]
    refine ⟨{ bareZ k with client := m0 }, vNone, ok0', ws0, [], trivial, { hz0 with client := hn0 }, hH0 rfl rfl, fun y0 r0 hcc => ⟨(hc0 y0 r0 hcc).1, ?_⟩, h⟩
    obtain ⟨e1, e2⟩ := bare y0 r0 hcc
    rw [← e1, (hc0 y0 r0 hcc).2.1]
    unfold bareS
    simp [e2, k1, k6, k13, k11, k2, g, bareZ]
  simp only [decide_eq_false_iff_not, not_or] at g
  obtain ⟨k3, k16, k17⟩ := g
  refine s_ite (fun g => ?_) (fun k4 => ?_)
  · have g := eq_of_beq g
    refine t_int (C := C) (g := fun y => y.client) (F := fun y r => dI y.at_ :: keysW y.keys ++ r) (off := 2) (set := fun n => { bareZ k with client := n }) h (by omega) (fun n => rfl) ?_ ?_
    · intro y0 r0 hc
      obtain ⟨e1, e2, e3⟩ := hC0 y0 r0 hc
      refine ⟨e1, (hVal y0 r0 hc).1.client, ?_⟩
      rw [e3]
      unfold fw
      simp [e2, g]
    intro m0 ok0' ws0 U hn0 hc0 h
    refine t_int (C := C) (g := fun y => y.at_) (F := fun y r => keysW y.keys ++ r) (off := 1) (set := fun n => { bareZ k with client := m0, at_ := n }) h (by omega) (fun n => rfl) ?_ ?_
    · intro y0 r0 hc
      exact ⟨(hc0 y0 r0 hc).1, (hVal y0 r0 hc).1.at_, (hc0 y0 r0 hc).2.2⟩
    intro m1 ok1' ws1 U hn1 hc1 h
    refine s_call (tkeys_c h) ?_
    rintro _ u ⟨l, ok', r, vl, c, yy, rfl, hin, hll, ho, hct, h⟩
    obtain ⟨ol, capl, rfl⟩ := ho.slice
    obtain ⟨vw, H, hk⟩ := h.turn
    simp only [List.cons_append, List.append_assoc, stv] at H
    refine ⟨_, rfl, s_asS (h_st H (b := n7) (by repeat (first | exact pick_head | apply pick_tail | apply pick_app)) (by first | (simp; done) | exact Nat.le_of_ble_eq_true rfl) rfl fun u H => ?_)⟩
    simp only [List.set_cons_zero, List.set_cons_succ] at H
    refine s_next ⟨rfl, rfl⟩ ?_
    simp only [if_true]
    refine ⟨{ bareZ k with client := m0, at_ := m1, keys := l }, ⟨TV.none, ol, capl⟩, ok', r, c ++ yy, trivial, { hz0 with client := hn0, at_ := hn1, keys := hin, szk := hll }, fun w1 u1 H1 => ⟨⟨.inl rfl, .inl rfl, .inl rfl, .inl rfl⟩, rowsAt_own (kr2 l) (by decide) ho H1 (by repeat (first | exact cut_head | exact cut_all | apply cut_tail | apply cut_app))⟩, fun y0 r0 hcc => ?_, hk ?_⟩
    · obtain ⟨e1, e2⟩ := bare y0 r0 hcc
      have hv := hVal y0 r0 hcc
      obtain ⟨d1, d2, d3⟩ := hct y0.keys r0 hv.1.keys (hc1 y0 r0 hcc).1 (hc1 y0 r0 hcc).2.2
      refine ⟨d3, ?_⟩
      rw [← e1, (hc0 y0 r0 hcc).2.1, (hc1 y0 r0 hcc).2.1, d1]
      unfold bareS
      simp [e2, g, bareZ]
    · simp only [stv, List.cons_append, List.append_assoc]
      exact H.sub (by repeat (first | exact sb_refl | exact sb_nil | refine sb_cons (by repeat (first | exact pick_head | apply pick_tail | apply pick_app)) ?_ | refine sb_app (by repeat (first | exact cut_head | exact cut_all | apply cut_tail | apply cut_app)) ?_ | exact sb_one (by repeat (first | exact cut_head | exact cut_all | apply cut_tail | apply cut_app))))
  have k4 : k ≠ 4 := by simpa using k4
  refine s_ite (fun g => ?_) (fun k5 => ?_)
  · have g := eq_of_beq g
    refine t_int (C := C) (g := fun y => y.at_) (F := fun y r => dI y.count :: r) (off := 1) (set := fun n => { bareZ k with at_ := n }) h (by omega) (fun n => rfl) ?_ ?_
    · intro y0 r0 hc
      obtain ⟨e1, e2, e3⟩ := hC0 y0 r0 hc
      refine ⟨e1, (hVal y0 r0 hc).1.at_, ?_⟩
      rw [e3]
      unfold fw
      simp [e2, g]
    intro m0 ok0' ws0 U hn0 hc0 h
    refine t_int (C := C) (g := fun y => y.count) (F := fun y r => r) (off := 15) (set := fun n => { bareZ k with at_ := m0, count := n }) h (by omega) (fun n => rfl) ?_ ?_
    · intro y0 r0 hc
      exact ⟨(hc0 y0 r0 hc).1, (hVal y0 r0 hc).1.count, (hc0 y0 r0 hc).2.2⟩
    intro m1 ok1' ws1 U hn1 hc1 h
    refine s_next ⟨rfl, rfl⟩ ?_
    simp only [if_true]
    refine ⟨{ bareZ k with at_ := m0, count := m1 }, vNone, ok1', ws1, [], trivial, { hz0 with at_ := hn0, count := hn1 }, hH0 rfl rfl, fun y0 r0 hcc => ⟨(hc1 y0 r0 hcc).1, ?_⟩, h⟩
    obtain ⟨e1, e2⟩ := bare y0 r0 hcc
    rw [← e1, (hc0 y0 r0 hcc).2.1, (hc1 y0 r0 hcc).2.1]
    unfold bareS
    simp [e2, g, bareZ]
  have k5 : k ≠ 5 := by simpa using k5
  refine s_blk (fun vs U => vs = [.bool (decide (k = 7 ∨ k = 8 ∨ k = 9 ∨ k = 18 ∨ k = 19 ∨ k = 20))] ∧ Tk w0 U p ok1 ws.tail b (cl n7 56 (stv (bareZ k) vNone) :: (cl n2 56 zST :: x))) ?_ ?_
  rotate_left
  · refine s_ite (fun g => s_next ⟨rfl, rfl⟩ (by have g := eq_of_beq g; subst g; simp only [if_true]; exact ⟨rfl, h⟩)) (fun g0 => ?_)
    refine s_ite (fun g => s_next ⟨rfl, rfl⟩ (by have g := eq_of_beq g; subst g; simp only [if_true]; exact ⟨rfl, h⟩)) (fun g1 => ?_)
    refine s_ite (fun g => s_next ⟨rfl, rfl⟩ (by have g := eq_of_beq g; subst g; simp only [if_true]; exact ⟨rfl, h⟩)) (fun g2 => ?_)
    refine s_ite (fun g => s_next ⟨rfl, rfl⟩ (by have g := eq_of_beq g; subst g; simp only [if_true]; exact ⟨rfl, h⟩)) (fun g3 => ?_)
    refine s_ite (fun g => s_next ⟨rfl, rfl⟩ (by have g := eq_of_beq g; subst g; simp only [if_true]; exact ⟨rfl, h⟩)) (fun g4 => ?_)
    have g0 : k ≠ 7 := by simpa using g0
    have g1 : k ≠ 8 := by simpa using g1
    have g2 : k ≠ 9 := by simpa using g2
    have g3 : k ≠ 18 := by simpa using g3
    have g4 : k ≠ 19 := by simpa using g4
    refine s_next ⟨rfl, rfl⟩ ?_
    simp only [if_true]
    refine ⟨?_, h⟩
    congr 2
    rw [Bool.eq_iff_iff]
    simp [g0, g1, g2, g3, g4]
  clear h
  rintro _ j7 U ⟨rfl, h⟩
  refine s_asB (s_ite (fun g => ?_) (fun g => ?_))
  · simp only [decide_eq_true_eq] at g
    refine t_int (C := C) (g := fun y => y.frm) (F := fun y r => dI y.dst :: r) (off := 10) (set := fun n => { bareZ k with frm := n }) h (by omega) (fun n => rfl) ?_ ?_
    · intro y0 r0 hc
      obtain ⟨e1, e2, e3⟩ := hC0 y0 r0 hc
      refine ⟨e1, (hVal y0 r0 hc).1.frm, ?_⟩
      rw [e3]
      unfold fw
      simp [e2, k1, k6, k13, k11, k2, k3, k16, k17, k4, k5, g]
    intro m0 ok0' ws0 U hn0 hc0 h
    refine t_int (C := C) (g := fun y => y.dst) (F := fun y r => r) (off := 11) (set := fun n => { bareZ k with frm := m0, dst := n }) h (by omega) (fun n => rfl) ?_ ?_
    · intro y0 r0 hc
      exact ⟨(hc0 y0 r0 hc).1, (hVal y0 r0 hc).1.dst, (hc0 y0 r0 hc).2.2⟩
    intro m1 ok1' ws1 U hn1 hc1 h
    refine s_next ⟨rfl, rfl⟩ ?_
    simp only [if_true]
    refine ⟨{ bareZ k with frm := m0, dst := m1 }, vNone, ok1', ws1, [], trivial, { hz0 with frm := hn0, dst := hn1 }, hH0 rfl rfl, fun y0 r0 hcc => ⟨(hc1 y0 r0 hcc).1, ?_⟩, h⟩
    obtain ⟨e1, e2⟩ := bare y0 r0 hcc
    rw [← e1, (hc0 y0 r0 hcc).2.1, (hc1 y0 r0 hcc).2.1]
    unfold bareS
    simp [e2, k1, k6, k13, k11, k2, k3, k16, k17, k4, k5, g, bareZ]
  simp only [decide_eq_false_iff_not, not_or] at g
  obtain ⟨k7, k8, k9, k18, k19, k20⟩ := g
  refine s_ite (fun g => ?_) (fun k10 => ?_)
  · have g := eq_of_beq g
    refine t_int (C := C) (g := fun y => y.frm) (F := fun y r => dI y.dst :: dI y.place :: dI y.wth :: r) (off := 10) (set := fun n => { bareZ k with frm := n }) h (by omega) (fun n => rfl) ?_ ?_
    · intro y0 r0 hc
      obtain ⟨e1, e2, e3⟩ := hC0 y0 r0 hc
      refine ⟨e1, (hVal y0 r0 hc).1.frm, ?_⟩
      rw [e3]
      unfold fw
      simp [e2, g]
    intro m0 ok0' ws0 U hn0 hc0 h
    refine t_int (C := C) (g := fun y => y.dst) (F := fun y r => dI y.place :: dI y.wth :: r) (off := 11) (set := fun n => { bareZ k with frm := m0, dst := n }) h (by omega) (fun n => rfl) ?_ ?_
    · intro y0 r0 hc
      exact ⟨(hc0 y0 r0 hc).1, (hVal y0 r0 hc).1.dst, (hc0 y0 r0 hc).2.2⟩
    intro m1 ok1' ws1 U hn1 hc1 h
    refine t_int (C := C) (g := fun y => y.place) (F := fun y r => dI y.wth :: r) (off := 12) (set := fun n => { bareZ k with frm := m0, dst := m1, place := n }) h (by omega) (fun n => rfl) ?_ ?_
    · intro y0 r0 hc
      exact ⟨(hc1 y0 r0 hc).1, (hVal y0 r0 hc).1.place, (hc1 y0 r0 hc).2.2⟩
    intro m2 ok2' ws2 U hn2 hc2 h
    refine s_call (tint_c h) ?_
    rintro _ u ⟨m3, ok', rfl, hn3, hct, h⟩
    obtain ⟨vw, H, hk⟩ := h.turn
    simp only [List.cons_append, List.append_assoc, stv] at H
    refine ⟨_, rfl, s_asI (h_st H (b := n7) (by repeat (first | exact pick_head | apply pick_tail | apply pick_app)) (by first | (simp; done) | exact Nat.le_of_ble_eq_true rfl) rfl fun u H => ?_)⟩
    simp only [List.set_cons_zero, List.set_cons_succ] at H
    refine s_next ⟨rfl, rfl⟩ ?_
    simp only [if_true]
    have hwb : IsByte (IntKind.wrap .u8 m3) := by
      have e : IntKind.wrap .u8 m3 = m3 % 256 := by simp [IntKind.wrap, IntKind.bits, IntKind.signed]
      rw [e]
      exact ⟨by omega, by omega⟩
    refine ⟨{ bareZ k with frm := m0, dst := m1, place := m2, wth := IntKind.wrap .u8 m3 }, vNone, ok', ws2.tail, [], trivial, { hz0 with frm := hn0, dst := hn1, place := hn2, wth := hwb }, hH0 rfl rfl, fun y0 r0 hcc => ?_, hk ?_⟩
    · obtain ⟨e1, e2⟩ := bare y0 r0 hcc
      have hv := hVal y0 r0 hcc
      have hb := hv.1.wth
      obtain ⟨d1, d2⟩ := hct y0.wth r0 ⟨by have := hb.1; omega, by have := hb.2; omega⟩ (hc2 y0 r0 hcc).2.2
      refine ⟨by rw [d2, (hc2 y0 r0 hcc).1], ?_⟩
      rw [← e1, (hc0 y0 r0 hcc).2.1, (hc1 y0 r0 hcc).2.1, (hc2 y0 r0 hcc).2.1, d1, wrapU8 hb]
      unfold bareS
      simp [e2, g, bareZ]
    · simp only [stv, List.cons_append, List.append_assoc, List.nil_append]
      exact H.sub (by repeat (first | exact sb_refl | exact sb_nil | refine sb_cons (by repeat (first | exact pick_head | apply pick_tail | apply pick_app)) ?_ | refine sb_app (by repeat (first | exact cut_head | exact cut_all | apply cut_tail | apply cut_app)) ?_ | exact sb_one (by repeat (first | exact cut_head | exact cut_all | apply cut_tail | apply cut_app))))
  have k10 : k ≠ 10 := by simpa using k10
  refine s_ite (fun g => ?_) (fun k12 => ?_)
  · have g := eq_of_beq g
    refine t_int (C := C) (g := fun y => y.at_) (F := fun y r => dI y.count :: dI y.keep :: r) (off := 1) (set := fun n => { bareZ k with at_ := n }) h (by omega) (fun n => rfl) ?_ ?_
    · intro y0 r0 hc
      obtain ⟨e1, e2, e3⟩ := hC0 y0 r0 hc
      refine ⟨e1, (hVal y0 r0 hc).1.at_, ?_⟩
      rw [e3]
      unfold fw
      simp [e2, g]
    intro m0 ok0' ws0 U hn0 hc0 h
    refine t_int (C := C) (g := fun y => y.count) (F := fun y r => dI y.keep :: r) (off := 15) (set := fun n => { bareZ k with at_ := m0, count := n }) h (by omega) (fun n => rfl) ?_ ?_
    · intro y0 r0 hc
      exact ⟨(hc0 y0 r0 hc).1, (hVal y0 r0 hc).1.count, (hc0 y0 r0 hc).2.2⟩
    intro m1 ok1' ws1 U hn1 hc1 h
    refine t_int (C := C) (g := fun y => y.keep) (F := fun y r => r) (off := 14) (set := fun n => { bareZ k with at_ := m0, count := m1, keep := n }) h (by omega) (fun n => rfl) ?_ ?_
    · intro y0 r0 hc
      exact ⟨(hc1 y0 r0 hc).1, (hVal y0 r0 hc).1.keep, (hc1 y0 r0 hc).2.2⟩
    intro m2 ok2' ws2 U hn2 hc2 h
    refine s_next ⟨rfl, rfl⟩ ?_
    simp only [if_true]
    refine ⟨{ bareZ k with at_ := m0, count := m1, keep := m2 }, vNone, ok2', ws2, [], trivial, { hz0 with at_ := hn0, count := hn1, keep := hn2 }, hH0 rfl rfl, fun y0 r0 hcc => ⟨(hc2 y0 r0 hcc).1, ?_⟩, h⟩
    obtain ⟨e1, e2⟩ := bare y0 r0 hcc
    rw [← e1, (hc0 y0 r0 hcc).2.1, (hc1 y0 r0 hcc).2.1, (hc2 y0 r0 hcc).2.1]
    unfold bareS
    simp [e2, g, bareZ]
  have k12 : k ≠ 12 := by simpa using k12
  refine s_next ⟨rfl, rfl⟩ ?_
  simp only [if_true]
  refine ⟨bareZ k, vNone, ok1, ws.tail, [], trivial, hz0, hH0 rfl rfl, fun y0 r0 hcc => ⟨(hC0 y0 r0 hcc).1, ?_⟩, h⟩
  obtain ⟨e1, e2⟩ := bare y0 r0 hcc
  rw [← e1]
  unfold bareS
  simp [e2, k1, k6, k13, k11, k2, k3, k16, k17, k4, k5, k7, k8, k9, k18, k19, k20, k10, k12, bareZ]
end
end Go.Proofs.YtihipcofjpnfbaaGreatDoor

/- The reference's reader: a line. -/
set_option linter.unusedVariables false
set_option linter.unusedSimpArgs false
set_option maxRecDepth 100000
set_option maxHeartbeats 8000000
namespace Go.Proofs.YtihipcofjpnfbaaGreatDoor
open Go hiding Expr
open Go.RowKit Tr
section
variable {w : World} {s : W}
/-- The document's reader at a line's beginning. -/
theorem tk_begin {w0 U : World} {v : Value} {c x : Hp} {p : Nat} (hsz : s.length ≤ 1048576) (ho : OwnC 9 1 v (spl s).length (strs (spl s)) c) (H : Has w0 U (cl p 100 [v, .bool true] :: (x ++ c))) : Tk w0 U p true (spl s) c x := by
  have hne : 0 < (spl s).length := List.length_pos_iff.2 (spl_ne s)
  obtain ⟨g, cap, sp, rfl, hc, hcap, _⟩ := ho.pos hne
  exact ⟨_, _, cap, ⟨rfl, hcap, ⟨by have := spl_len s; omega, fun t ht => by have := spl_sum s t ht; omega⟩, fun u hu => strsAt_own (c := c) ho hu (by repeat (first | exact cut_head | exact cut_all | apply cut_tail | apply cut_app))⟩, H⟩
variable (hT : Tab w)
include hT
theorem one_c (hsz : s.length ≤ 1048576) : Calls Tryz.prog 20 #[.string (S s)] w fun e w' =>
    ∃ (y : ST) (v : SV27) (bb : Bool) (c : Hp), e = .returned (.tuple #[.agg ⟨stv y v⟩, .bool bb]) ∧ StOk y ∧ HeldS c y v ∧ Has w w' c ∧ (bb = true → Val y ∧ spl s = stW y) ∧ (∀ y0, Val y0 → spl s = stW y0 → bb = true) := by
  apply c20
  refine h_new (Has.init w) fun n1 u H => s_call (words_c hsz) ?_
  rintro _ u ⟨v0, c0, rfl, ho, H2⟩
  have H := H.join H2
  obtain ⟨o, cap, rfl⟩ := ho.slice
  refine ⟨_, rfl, s_asS (h_new H fun n6 u H => ?_)⟩
  have h := tk_begin (x := [cl n1 56 zST]) hsz ho (H.sub (by repeat (first | exact sb_refl | exact sb_nil | refine sb_cons (by repeat (first | exact pick_head | apply pick_tail | apply pick_app)) ?_ | refine sb_app (by repeat (first | exact cut_head | exact cut_all | apply cut_tail | apply cut_app)) ?_ | exact sb_one (by repeat (first | exact cut_head | exact cut_all | apply cut_tail | apply cut_app)))))
  clear H H2
  refine s_call (tstep_c h) ?_
  rintro _ u ⟨y, v, ok', r, c, rfl, hy, hH, hcan, h⟩
  refine ⟨_, rfl, s_asA (s_req rfl ?_)⟩
  iterate 5 refine s_asI ?_
  iterate 5 refine s_asS ?_
  iterate 6 refine s_asI ?_
  obtain ⟨vw, H, hk⟩ := h.turn
  clear hk
  refine h_new H fun n35 u H => ?_
  iterate 16 (refine h_st H (b := n35) pick_head (by first | (simp; done) | exact Nat.le_of_ble_eq_true rfl) rfl fun u H => ?_; simp only [List.set_cons_zero, List.set_cons_succ] at H)
  iterate 5 refine h_ldI H (b := n35) pick_head rfl ?_
  iterate 5 refine h_ldS H (b := n35) pick_head rfl ?_
  iterate 6 refine h_ldI H (b := n35) pick_head rfl ?_
  simp only [List.append_assoc] at H
  refine s_call (rstep_c (x := y) (v := v) (hT.fr H.base) (hH w u (H.sub (by repeat (first | exact sb_refl | exact sb_nil | refine sb_cons (by repeat (first | exact pick_head | apply pick_tail | apply pick_app)) ?_ | refine sb_app (by repeat (first | exact cut_head | exact cut_all | apply cut_tail | apply cut_app)) ?_ | exact sb_one (by repeat (first | exact cut_head | exact cut_all | apply cut_tail | apply cut_app)))))) hy) ?_
  rintro _ u ⟨rfl, f⟩
  have H := H.fr0 f
  refine ⟨_, rfl, s_asU (s_req rfl (s_asT (s_asI (h_drew H fun u H => ?_))))⟩
  iterate 5 refine h_ldI H (b := n35) pick_head rfl ?_
  iterate 5 refine h_ldS H (b := n35) pick_head rfl ?_
  iterate 6 refine h_ldI H (b := n35) pick_head rfl ?_
  refine h_ldB H (b := n6) (by repeat (first | exact pick_head | apply pick_tail | apply pick_app)) rfl ?_
  simp only [zST] at H
  have hback : ∀ y0, Val y0 → spl s = stW y0 → ok' = true ∧ (rstepR y).2 = 0 ∧ (rstepR y).1 = s := by
    intro y0 h1 h2
    obtain ⟨e1, rfl⟩ := hcan y0 [] h1 rfl (by rw [h2, List.append_nil])
    rw [← step_eq]
    exact ⟨e1, h1.2, (h1.of_spl h2).symm⟩
  have hgo : (rstepR y).2 = 0 → (rstepR y).1 = s → Val y ∧ spl s = stW y := by
    intro h1 h2
    rw [← step_eq] at h1 h2
    have hv : Val y := ⟨hy, h1⟩
    exact ⟨hv, by rw [← h2]; exact hv.spl⟩
  refine s_ite (fun g => s_ite (fun g2 => ?_) (fun g2 => ?_)) (fun g => ?_)
  all_goals
    iterate 16 (refine h_st H (b := n1) (by repeat (first | exact pick_head | apply pick_tail | apply pick_app)) (by first | (simp; done) | exact Nat.le_of_ble_eq_true rfl) rfl fun u H => ?_; simp only [List.set_cons_zero, List.set_cons_succ] at H)
    refine s_chk (hc_cons H (b := n6) (by repeat (first | exact pick_head | apply pick_tail | apply pick_app)) rfl c_nil) ?_
    iterate 5 refine h_ldI H (b := n1) (by repeat (first | exact pick_head | apply pick_tail | apply pick_app)) rfl ?_
    iterate 5 refine h_ldS H (b := n1) (by repeat (first | exact pick_head | apply pick_tail | apply pick_app)) rfl ?_
    iterate 6 refine h_ldI H (b := n1) (by repeat (first | exact pick_head | apply pick_tail | apply pick_app)) rfl ?_
    refine s_ret ⟨y, v, _, c, rfl, hy, hH, H.sub (by repeat (first | exact sb_refl | exact sb_nil | refine sb_cons (by repeat (first | exact pick_head | apply pick_tail | apply pick_app)) ?_ | refine sb_app (by repeat (first | exact cut_head | exact cut_all | apply cut_tail | apply cut_app)) ?_ | exact sb_one (by repeat (first | exact cut_head | exact cut_all | apply cut_tail | apply cut_app)))), ?_, ?_⟩
  · rw [S_toList, S_toList]
    intro h
    exact hgo (by simpa using g2) (by simpa using h)
  · rw [S_toList, S_toList]
    intro y0 h1 h2
    simpa using (hback y0 h1 h2).2.2
  · intro h
    cases h
  · intro y0 h1 h2
    rw [(hback y0 h1 h2).2.1] at g2
    cases g2
  · intro h
    cases h
  · intro y0 h1 h2
    rw [(hback y0 h1 h2).1] at g
    cases g
theorem first_c (hsz : s.length ≤ 1048576) : Calls Tryz.prog 19 #[.string (S s)] w fun e w' =>
    ∃ (y : CF) (bb : Bool), e = .returned (.tuple #[.agg ⟨cfv y⟩, .bool bb]) ∧ CfOk y ∧ Fr [] w w' ∧ (bb = true → spl s = wdW y) ∧ (∀ y0, CfOk y0 → spl s = wdW y0 → bb = true) := by
  apply c19
  refine h_new (Has.init w) fun n1 u H => s_call (words_c hsz) ?_
  rintro _ u ⟨v0, c0, rfl, ho, H2⟩
  have H := H.join H2
  obtain ⟨o, cap, rfl⟩ := ho.slice
  refine ⟨_, rfl, s_asS (h_new H fun n6 u H => ?_)⟩
  have h := tk_begin (x := [cl n1 24 (cfv cf0)]) hsz ho (H.sub (by repeat (first | exact sb_refl | exact sb_nil | refine sb_cons (by repeat (first | exact pick_head | apply pick_tail | apply pick_app)) ?_ | refine sb_app (by repeat (first | exact cut_head | exact cut_all | apply cut_tail | apply cut_app)) ?_ | exact sb_one (by repeat (first | exact cut_head | exact cut_all | apply cut_tail | apply cut_app)))))
  clear H H2
  refine s_call (tis_c h (t := [119, 111, 114, 108, 100])) ?_
  rintro _ u ⟨ok1, rfl, hc1, h⟩
  refine ⟨_, rfl, s_call (tint_c h) ?_⟩
  rintro _ u ⟨a1, ok2, rfl, ha1, hc2, h⟩
  refine ⟨_, rfl, s_asI ?_⟩
  obtain ⟨vw, H, hk⟩ := h.turn
  refine h_new H fun n10 u H => ?_
  iterate 5 (refine h_st H (b := n10) pick_head (by first | (simp; done) | exact Nat.le_of_ble_eq_true rfl) rfl fun u H => ?_; simp only [List.set_cons_zero, List.set_cons_succ] at H)
  have h := hk (x' := cl n10 24 (cfv ⟨a1, 0, 0, 0, 0⟩) :: [cl n1 24 (cfv cf0)]) (H.sub (by repeat (first | exact sb_refl | exact sb_nil | refine sb_cons (by repeat (first | exact pick_head | apply pick_tail | apply pick_app)) ?_ | refine sb_app (by repeat (first | exact cut_head | exact cut_all | apply cut_tail | apply cut_app)) ?_ | exact sb_one (by repeat (first | exact cut_head | exact cut_all | apply cut_tail | apply cut_app)))))
  clear H hk
  refine s_call (tint_c h) ?_
  rintro _ u ⟨a2, ok3, rfl, ha2, hc3, h⟩
  obtain ⟨vw, H, hk⟩ := h.turn
  simp only [List.cons_append, cfv] at H
  refine ⟨_, rfl, s_asI (h_st H (b := n10) (by repeat (first | exact pick_head | apply pick_tail | apply pick_app)) (by simp) rfl fun u H => ?_)⟩
  simp only [List.set_cons_zero, List.set_cons_succ] at H
  have h := hk (x' := cl n10 24 (cfv ⟨a1, a2, 0, 0, 0⟩) :: [cl n1 24 (cfv cf0)]) (H.sub (by repeat (first | exact sb_refl | exact sb_nil | refine sb_cons (by repeat (first | exact pick_head | apply pick_tail | apply pick_app)) ?_ | refine sb_app (by repeat (first | exact cut_head | exact cut_all | apply cut_tail | apply cut_app)) ?_ | exact sb_one (by repeat (first | exact cut_head | exact cut_all | apply cut_tail | apply cut_app)))))
  clear H hk
  refine s_call (tint_c h) ?_
  rintro _ u ⟨a3, ok4, rfl, ha3, hc4, h⟩
  obtain ⟨vw, H, hk⟩ := h.turn
  simp only [List.cons_append, cfv] at H
  refine ⟨_, rfl, s_asI (h_st H (b := n10) (by repeat (first | exact pick_head | apply pick_tail | apply pick_app)) (by simp) rfl fun u H => ?_)⟩
  simp only [List.set_cons_zero, List.set_cons_succ] at H
  have h := hk (x' := cl n10 24 (cfv ⟨a1, a2, a3, 0, 0⟩) :: [cl n1 24 (cfv cf0)]) (H.sub (by repeat (first | exact sb_refl | exact sb_nil | refine sb_cons (by repeat (first | exact pick_head | apply pick_tail | apply pick_app)) ?_ | refine sb_app (by repeat (first | exact cut_head | exact cut_all | apply cut_tail | apply cut_app)) ?_ | exact sb_one (by repeat (first | exact cut_head | exact cut_all | apply cut_tail | apply cut_app)))))
  clear H hk
  refine s_call (tint_c h) ?_
  rintro _ u ⟨a4, ok5, rfl, ha4, hc5, h⟩
  obtain ⟨vw, H, hk⟩ := h.turn
  simp only [List.cons_append, cfv] at H
  refine ⟨_, rfl, s_asI (h_st H (b := n10) (by repeat (first | exact pick_head | apply pick_tail | apply pick_app)) (by simp) rfl fun u H => ?_)⟩
  simp only [List.set_cons_zero, List.set_cons_succ] at H
  have h := hk (x' := cl n10 24 (cfv ⟨a1, a2, a3, a4, 0⟩) :: [cl n1 24 (cfv cf0)]) (H.sub (by repeat (first | exact sb_refl | exact sb_nil | refine sb_cons (by repeat (first | exact pick_head | apply pick_tail | apply pick_app)) ?_ | refine sb_app (by repeat (first | exact cut_head | exact cut_all | apply cut_tail | apply cut_app)) ?_ | exact sb_one (by repeat (first | exact cut_head | exact cut_all | apply cut_tail | apply cut_app)))))
  clear H hk
  refine s_call (tseed_c h) ?_
  rintro _ u ⟨a5, ok6, rfl, ha5, hc6, h⟩
  obtain ⟨vw, H, hk⟩ := h.turn
  clear hk
  simp only [List.cons_append, cfv, cf0] at H
  refine ⟨_, rfl, s_asI (h_st H (b := n10) (by repeat (first | exact pick_head | apply pick_tail | apply pick_app)) (by simp) rfl fun u H => ?_)⟩
  simp only [List.set_cons_zero, List.set_cons_succ] at H
  refine h_drew H fun u H => ?_
  iterate 5 refine h_ldI H (b := n10) (by repeat (first | exact pick_head | apply pick_tail | apply pick_app)) rfl ?_
  refine h_ldB H (b := n6) (by repeat (first | exact pick_head | apply pick_tail | apply pick_app)) rfl ?_
  have hy : CfOk ⟨a1, a2, a3, a4, a5⟩ := ⟨ha1, ha2, ha3, ha4, ha5⟩
  have hcan : ∀ y0, CfOk y0 → spl s = wdW y0 → ok6 = true ∧ (⟨a1, a2, a3, a4, a5⟩ : CF) = y0 := by
    intro y0 h0 h1
    have d1 := hc1 _ h1
    obtain ⟨e2, d2⟩ := hc2 y0.n _ h0.hn (by rw [h1]; rfl)
    obtain ⟨e3, d3⟩ := hc3 y0.p _ h0.hp (by rw [h1]; rfl)
    obtain ⟨e4, d4⟩ := hc4 y0.b _ h0.hb (by rw [h1]; rfl)
    obtain ⟨e5, d5⟩ := hc5 y0.c _ h0.hc (by rw [h1]; rfl)
    obtain ⟨e6, d6⟩ := hc6 y0.seed _ h0.hs (by rw [h1]; rfl)
    exact ⟨by rw [d6, d5, d4, d3, d2, d1], by subst e2 e3 e4 e5 e6; cases y0; rfl⟩
  have hnb : ∀ t ∈ wdW ⟨a1, a2, a3, a4, a5⟩, NoBlank t := by
    intro t ht
    simp only [wdW, List.mem_cons, List.not_mem_nil, or_false] at ht
    rcases ht with rfl | rfl | rfl | rfl | rfl | rfl
    · unfold NoBlank; decide
    · exact dI_nb _
    · exact dI_nb _
    · exact dI_nb _
    · exact dI_nb _
    · exact dU_nb _
  refine s_ite (fun g => ?_) (fun g => ?_)
  · iterate 5 refine h_ldI H (b := n10) (by repeat (first | exact pick_head | apply pick_tail | apply pick_app)) rfl ?_
    refine s_call (rworld_c (c := ⟨a1, a2, a3, a4, a5⟩) (hT.fr H.base) hy) ?_
    rintro _ u ⟨rfl, f⟩
    have H := H.fr0 f
    refine ⟨_, rfl, s_asT ?_⟩
    refine s_chk (by repeat (first | exact c_nil | refine hc_cons H (b := n6) (by repeat (first | exact pick_head | apply pick_tail | apply pick_app)) rfl ?_ | refine hc_cons H (b := n10) (by repeat (first | exact pick_head | apply pick_tail | apply pick_app)) rfl ?_)) ?_
    iterate 5 (refine h_st H (b := n1) (by repeat (first | exact pick_head | apply pick_tail | apply pick_app)) (by first | (simp; done) | exact Nat.le_of_ble_eq_true rfl) rfl fun u H => ?_; simp only [List.set_cons_zero, List.set_cons_succ] at H)
    refine s_chk (hc_cons H (b := n6) (by repeat (first | exact pick_head | apply pick_tail | apply pick_app)) rfl c_nil) ?_
    iterate 5 refine h_ldI H (b := n1) (by repeat (first | exact pick_head | apply pick_tail | apply pick_app)) rfl ?_
    refine s_ret ⟨⟨a1, a2, a3, a4, a5⟩, _, rfl, hy, H.base, ?_, ?_⟩
    · rw [S_toList, S_toList]
      intro h
      have h : worldL ⟨a1, a2, a3, a4, a5⟩ = s := by simpa using h
      rw [← h]
      exact spl_join (by simp [wdW]) hnb
    · rw [S_toList, S_toList]
      intro y0 h0 h1
      obtain ⟨_, rfl⟩ := hcan y0 h0 h1
      have : worldL ⟨a1, a2, a3, a4, a5⟩ = s := by
        rw [← join_spl s, h1]
        rfl
      simpa using this
  · refine s_chk (by repeat (first | exact c_nil | refine hc_cons H (b := n6) (by repeat (first | exact pick_head | apply pick_tail | apply pick_app)) rfl ?_ | refine hc_cons H (b := n10) (by repeat (first | exact pick_head | apply pick_tail | apply pick_app)) rfl ?_)) ?_
    iterate 5 (refine h_st H (b := n1) (by repeat (first | exact pick_head | apply pick_tail | apply pick_app)) (by first | (simp; done) | exact Nat.le_of_ble_eq_true rfl) rfl fun u H => ?_; simp only [List.set_cons_zero, List.set_cons_succ] at H)
    refine s_chk (hc_cons H (b := n6) (by repeat (first | exact pick_head | apply pick_tail | apply pick_app)) rfl c_nil) ?_
    iterate 5 refine h_ldI H (b := n1) (by repeat (first | exact pick_head | apply pick_tail | apply pick_app)) rfl ?_
    refine s_ret ⟨⟨a1, a2, a3, a4, a5⟩, _, rfl, hy, H.base, ?_, ?_⟩
    · intro h
      cases h
    · intro y0 h0 h1
      rw [(hcan y0 h0 h1).1] at g
      cases g
end
end Go.Proofs.YtihipcofjpnfbaaGreatDoor

/- The reference's reader: a script. -/
set_option linter.unusedVariables false
set_option linter.unusedSimpArgs false
set_option maxRecDepth 100000
set_option maxHeartbeats 8000000
namespace Go.Proofs.YtihipcofjpnfbaaGreatDoor
open Go hiding Expr
open Go.RowKit Tr
theorem cutC_no {c : UInt8} {s : List UInt8} (h : c ∉ s) : cutC c s = none := by
  cases hc : cutC c s with
  | none => rfl
  | some q =>
    obtain ⟨a, r⟩ := q
    have := (cutC_some hc).1
    rw [this] at h
    simp at h
def rfailK (n1 : Nat) (k er : Int) : T :=
  T.st n1 0 (.int .i64 0) (T.st n1 1 (.int .i64 0) (T.st n1 2 (.int .i64 0) (T.st n1 3 (.int .i64 0) (T.st n1 4 (.int .u64 0)
    (T.ldI .i64 n1 0 fun a => T.ldI .i64 n1 1 fun b => T.ldI .i64 n1 2 fun c => T.ldI .i64 n1 3 fun d => T.ldI .u64 n1 4 fun e =>
      T.ret (.tuple #[.agg #[.int .i64 a, .int .i64 b, .int .i64 c, .int .i64 d, .int .u64 e], .slice none 0 0, .int .i64 k, .int .i64 er]))))))
section
variable {w U : World} {s : List UInt8} {n1 : Nat} {m : Hp} {ρ : Lv}
theorem rfail_c {k : Nat} {er : Int} (H : Has w U (cl n1 24 (cfv cf0) :: m)) (hp : Par 1 s cf0 [] ⟨cf0, [], k, er⟩) : (rfailK n1 k er).sem Tryz.prog (ParR w s) ρ U := by
  unfold rfailK
  simp only [cfv, cf0] at H
  iterate 5 (refine h_st H (b := n1) pick_head (by first | (simp; done) | exact Nat.le_of_ble_eq_true rfl) rfl fun u H => ?_; simp only [List.set_cons_zero, List.set_cons_succ] at H)
  iterate 5 refine h_ldI H (b := n1) pick_head rfl ?_
  exact s_ret ⟨cf0, [], k, er, none, 0, [], hp, cf0_ok, by simp, by simp, rfl, H.sub ⟨_, List.Perm.refl _⟩, fun w0 u H => ⟨.inl rfl, by simp⟩⟩
variable (hT : Tab w)
include hT
theorem rparse_c (hsz : s.length ≤ 1048576) : Calls Tryz.prog 6 #[.string (S s)] w (ParR w s) := by
  apply c6
  refine h_new (Has.init w) fun n1 u H => h_new H fun n2 u H => ?_
  refine s_loop (fun vs U => ∃ (f n i : Nat) (c : CF) (l : List SX) (v : Value) (cs y : Hp), vs = [v, .int .i64 f, .int .i64 n, .int .i64 i] ∧ f ≤ i ∧ i ≤ s.length ∧ n ≤ f ∧ (10 : UInt8) ∉ (s.take i).drop f ∧ (∀ res, Par (n + 1) (s.drop f) c (l.map (·.x)) res → Par 1 s cf0 [] res) ∧
      (n = 0 ∨ l.length + 1 = n) ∧ (n = 0 → l = []) ∧ l.length ≤ 16384 ∧ CfOk c ∧ (∀ p ∈ l, Val p.x) ∧ OwnC 56 16 v l.length (encS l) cs ∧ HeldL y l ∧ Has w U (cl n1 24 (cfv cf0) :: cl n2 24 (cfv c) :: (cs ++ y)))
    (fun vs _ => s.length - (intOf (vs.getD 3 undef)).toNat) ⟨0, 0, 0, cf0, [], .slice none 0 0, [], [], rfl, by omega, by omega, by omega, by simp, fun res h => h, .inl rfl, fun _ => rfl, by simp, cf0_ok, by simp, OwnC.nil, HeldL.nil, H.sub (by repeat (first | exact sb_refl | exact sb_nil | refine sb_cons (by repeat (first | exact pick_head | apply pick_tail | apply pick_app)) ?_ | refine sb_app (by repeat (first | exact cut_head | exact cut_all | apply cut_tail | apply cut_app)) ?_ | exact sb_one (by repeat (first | exact cut_head | exact cut_all | apply cut_tail | apply cut_app))))⟩ ?_
  clear H
  rintro _ j W ⟨f, n, i, c, l, v, cs, y, rfl, hfi, hi, hnf, hno, hpar, hnl, hn0, hll, hc, hl, ho, hh, H⟩
  obtain ⟨o, cap, rfl⟩ := ho.slice
  rw [S_size]
  refine s_asS (s_asI (s_asI (s_asI (s_ite (fun g1 => ?_) (fun g1 => ?_)))))
  · have g1 : i < s.length := by
      have g1 : (i : Int) < s.length := by simpa using g1
      omega
    have hx : s[i]? = some s[i] := List.getElem?_eq_getElem g1
    have htk : (s.take (i + 1)).drop f = (s.take i).drop f ++ [s[i]] := by
      rw [List.take_succ_eq_append_getElem g1, List.drop_append_of_le_length (by rw [List.length_take]; omega)]
    have hdr : s.drop f = (s.take i).drop f ++ s[i] :: s.drop (i + 1) := by
      conv => lhs; rw [← List.take_append_drop i s, List.drop_append_of_le_length (by rw [List.length_take]; omega)]
      rw [List.drop_eq_getElem_cons g1]
    generalize hcx : s[i] = a at hx htk hdr
    refine s_req ⟨by omega, by omega⟩ ?_
    rw [Int.toNat_natCast, S_getD hx]
    refine s_ite (fun g2 => s_next ⟨rfl, rfl⟩ ?_) (fun g2 => s_req ⟨by omega, by omega, by omega, by omega⟩ ?_)
    · have g2 : ¬ (a.toNat : Int) = 10 := by simpa using g2
      simp (config := { decide := true }) only [if_true, if_false]
      refine ⟨⟨f, n, i + 1, c, l, _, cs, y, by rw [w_succ (by omega)], by omega, by omega, hnf, ?_, hpar, hnl, hn0, hll, hc, hl, ho, hh, H⟩, by rw [w_succ (by omega)]; simp [intOf] <;> omega⟩
      rw [htk]
      intro hm
      rcases List.mem_append.1 hm with hm | hm
      · exact hno hm
      · simp only [List.mem_singleton] at hm
        subst hm
        exact g2 rfl
    have g2 : (a.toNat : Int) = 10 := by simpa using g2
    have ha : a = 10 := UInt8.toNat_inj.1 (by show a.toNat = 10; omega)
    subst ha
    have hcut : cutC 10 (s.drop f) = some ((s.take i).drop f, s.drop (i + 1)) := by rw [hdr]; exact cutC_app hno
    have hline : ((s.take i).drop f).length ≤ 1048576 := by rw [List.length_drop, List.length_take]; omega
    have hne : s.drop f ≠ [] := by rw [hdr]; simp
    rw [Int.toNat_natCast, S_ext, w_succ (i := n) (by omega), w_succ (i := i) (by omega)]
    refine s_blk (fun vs U => ∃ (o' : Option Addr) (k' cap' : Nat) (bb : Bool) (c' : CF) (l' : List SX) (cs' y' : Hp), vs = [.slice o' k' cap', .bool bb] ∧ (bb = false → Par (n + 1) (s.drop f) c (l.map (·.x)) ⟨cf0, [], (n + 1 : Nat), 270⟩) ∧
      (bb = true → k' = l'.length ∧ (∀ res, Par (n + 2) (s.drop (i + 1)) c' (l'.map (·.x)) res → Par (n + 1) (s.drop f) c (l.map (·.x)) res) ∧ l'.length + 1 = n + 1 ∧ l'.length ≤ 16384 ∧ CfOk c' ∧ (∀ p ∈ l', Val p.x) ∧ OwnC 56 16 (.slice o' k' cap') l'.length (encS l') cs' ∧ HeldL y' l') ∧
      Has w U (cl n1 24 (cfv cf0) :: cl n2 24 (cfv c') :: (cs' ++ y'))) ?_ ?_
    · clear H
      rintro _ j2 U ⟨o', k', cap', bb, c', l', cs', y', rfl, hbad, hgood, H⟩
      refine s_asS (s_asB (s_ite (fun g3 => ?_) (fun g3 => ?_)))
      · exact rfail_c H (hpar _ (hbad (by simpa using g3)))
      · obtain ⟨rfl, p1, p2, p3, p4, p5, p6, p7⟩ := hgood (by simpa using g3)
        refine s_next ⟨rfl, rfl⟩ ?_
        simp (config := { decide := true }) only [if_true, if_false]
        refine ⟨⟨i + 1, n + 1, i + 1, c', l', _, cs', y', rfl, by omega, by omega, by omega, ?_, fun res h => hpar res (p1 res h), .inr p2, fun h => by omega, p3, p4, p5, p6, p7, H⟩, by simp [intOf] <;> omega⟩
        rw [List.drop_eq_nil_of_le (by rw [List.length_take]; omega)]
        simp
    · refine s_ite (fun g3 => ?_) (fun g3 => ?_)
      · have hn : n = 0 := by
          have g3 : ((n + 1 : Nat) : Int) = 1 := by simpa using g3
          omega
        subst hn
        have hl0 := hn0 rfl
        subst hl0
        refine s_call (first_c (hT.fr H.base) hline) ?_
        rintro _ u ⟨cy, bb, rfl, hcy, fr, hb1, hb2⟩
        have H := H.fr0 fr
        refine ⟨_, rfl, s_asU (s_req rfl (s_asA (s_req rfl ?_)))⟩
        iterate 5 refine s_asI ?_
        refine s_asB ?_
        simp only [cfv] at H
        iterate 5 (refine h_st H (b := n2) (by repeat (first | exact pick_head | apply pick_tail | apply pick_app)) (by first | (simp; done) | exact Nat.le_of_ble_eq_true rfl) rfl fun u H => ?_; simp only [List.set_cons_zero, List.set_cons_succ] at H)
        refine s_next ⟨rfl, rfl⟩ ?_
        simp only [if_true]
        refine ⟨o, 0, cap, bb, cy, [], cs, y, rfl, fun h => ?_, fun h => ⟨rfl, fun res hres => .world hcut hcy (hb1 h) hres, rfl, by simp, hcy, by simp, ho, hh⟩, H.sub (by repeat (first | exact sb_refl | exact sb_nil | refine sb_cons (by repeat (first | exact pick_head | apply pick_tail | apply pick_app)) ?_ | refine sb_app (by repeat (first | exact cut_head | exact cut_all | apply cut_tail | apply cut_app)) ?_ | exact sb_one (by repeat (first | exact cut_head | exact cut_all | apply cut_tail | apply cut_app))))⟩
        refine .badW hcut fun y0 h0 h1 => ?_
        have := hb2 y0 h0 h1
        rw [h] at this
        cases this
      · have hn : n ≠ 0 := by
          have g3 : ¬ ((n + 1 : Nat) : Int) = 1 := by simpa using g3
          omega
        have hnl := hnl.resolve_left hn
        refine s_ite (fun g4 => ?_) (fun g4 => ?_)
        · have g4 : 16384 ≤ (l.length : Int) := by simpa using g4
          exact rfail_c (k := n + 1) H (hpar _ (.long (by omega) hne (by omega)))
        · have g4 : ¬ (16384 ≤ (l.length : Int)) := by simpa using g4
          refine s_call (one_c (hT.fr H.base) hline) ?_
          rintro _ u ⟨z, vz, bb, cz, rfl, hz, hhz, H2, hb1, hb2⟩
          have H := H.join H2
          clear H2
          refine ⟨_, rfl, s_asU (s_req rfl (s_asA (s_req rfl ?_)))⟩
          iterate 5 refine s_asI ?_
          iterate 5 refine s_asS ?_
          iterate 6 refine s_asI ?_
          refine s_asB (h_new H fun n66 u H => ?_)
          iterate 16 (refine h_st H (b := n66) pick_head (by first | (simp; done) | exact Nat.le_of_ble_eq_true rfl) rfl fun u H => ?_; simp only [List.set_cons_zero, List.set_cons_succ] at H)
          iterate 5 refine h_ldI H (b := n66) pick_head rfl ?_
          iterate 5 refine h_ldS H (b := n66) pick_head rfl ?_
          iterate 6 refine h_ldI H (b := n66) pick_head rfl ?_
          have H : Has w u (cz ++ (cl n1 24 (cfv cf0) :: cl n2 24 (cfv c) :: (cs ++ y))) := H.sub (by repeat (first | exact sb_refl | exact sb_nil | refine sb_cons (by repeat (first | exact pick_head | apply pick_tail | apply pick_app)) ?_ | refine sb_app (by repeat (first | exact cut_head | exact cut_all | apply cut_tail | apply cut_app)) ?_ | exact sb_one (by repeat (first | exact cut_head | exact cut_all | apply cut_tail | apply cut_app))))
          refine h_new H fun n93 u H => ?_
          have H : Has w u (cl n93 56 (stv z vz) :: (cz ++ (cl n1 24 (cfv cf0) :: cl n2 24 (cfv c) :: (cs ++ y)))) := H
          refine h_app1 elemSX H (c := cs) (by repeat (first | exact cut_head | exact cut_all | apply cut_tail | apply cut_app)) ho (r := n93) pick_head rfl (stv_one z vz) (by omega) (by omega) ?_
          intro v2 c2 w2 ho2 H
          obtain ⟨o2, cap2, rfl⟩ := ho2.slice
          refine s_asS (s_next ⟨rfl, rfl⟩ ?_)
          simp only [if_true]
          refine ⟨o2, l.length + 1, cap2, bb, c, l ++ [⟨z, vz⟩], c2, cz ++ y, rfl, fun h => ?_, fun h => ?_, H.sub (by repeat (first | exact sb_refl | exact sb_nil | refine sb_cons (by repeat (first | exact pick_head | apply pick_tail | apply pick_app)) ?_ | refine sb_app (by repeat (first | exact cut_head | exact cut_all | apply cut_tail | apply cut_app)) ?_ | exact sb_one (by repeat (first | exact cut_head | exact cut_all | apply cut_tail | apply cut_app))))⟩
          · refine .badS (by omega) (by omega) hcut fun y0 h0 h1 => ?_
            have := hb2 y0 h0 h1
            rw [h] at this
            cases this
          · obtain ⟨q1, q2⟩ := hb1 h
            refine ⟨by simp, fun res hres => ?_, by simp; omega, by simp; omega, hc, ?_, ?_, hh.add hhz⟩
            · refine .step (by omega) (by omega) hcut q1 q2 ?_
              rw [List.map_append] at hres
              exact hres
            · intro p hp
              rcases List.mem_append.1 hp with hp | hp
              · exact hl p hp
              · simp only [List.mem_singleton] at hp
                subst hp
                exact q1
            · rw [encS_app, List.length_append]
              have e1 : encS [⟨z, vz⟩] = stv z vz := by simp [encS, sxr]
              rw [e1]
              exact ho2
  · have g1 : i = s.length := by
      have g1 : ¬ (i : Int) < s.length := by simpa using g1
      omega
    subst g1
    rw [List.take_length] at hno
    have hcut := cutC_no hno
    refine s_blk (fun vs U => vs = [.bool (decide (f < s.length ∧ 16384 ≤ l.length))] ∧ U = W) ?_ ?_
    rotate_left
    · refine s_ite (fun g => s_next ⟨rfl, rfl⟩ ?_) (fun g => s_next ⟨rfl, rfl⟩ ?_)
      · have g : (f : Int) < s.length := by simpa using g
        simp only [if_true]
        refine ⟨?_, trivial⟩
        congr 2
        rw [Bool.eq_iff_iff]
        simp
        omega
      · have g : ¬ (f : Int) < s.length := by simpa using g
        simp only [if_true]
        refine ⟨?_, trivial⟩
        congr 2
        rw [Bool.eq_iff_iff]
        simp
        omega
    rintro _ j2 U ⟨rfl, rfl⟩
    rw [w_succ (i := n) (by omega)]
    refine s_asB (s_ite (fun g => ?_) (fun g => ?_))
    · have g : f < s.length ∧ 16384 ≤ l.length := by simpa using g
      have hn : n ≠ 0 := fun h => by
        have := hn0 h
        rw [this] at g
        simp at g
      exact rfail_c (k := n + 1) H (hpar _ (.long (by omega) (fun h => by have := congrArg List.length h; simp at this; omega) (by omega)))
    · have g : ¬ (f < s.length ∧ 16384 ≤ l.length) := by simpa using g
      refine s_blk (fun vs U' => vs = [.bool (decide (f < s.length ∨ n = 0))] ∧ U' = U) ?_ ?_
      rotate_left
      · refine s_ite (fun g => s_next ⟨rfl, rfl⟩ ?_) (fun g => s_next ⟨rfl, rfl⟩ ?_)
        · have g : (f : Int) < s.length := by simpa using g
          simp only [if_true]
          refine ⟨?_, trivial⟩
          congr 2
          symm
          rw [decide_eq_true_iff]
          omega
        · have g : ¬ (f : Int) < s.length := by simpa using g
          simp only [if_true]
          refine ⟨?_, trivial⟩
          congr 2
          rw [Bool.eq_iff_iff]
          simp
          omega
      rintro _ j3 U' ⟨rfl, rfl⟩
      refine s_asB (s_ite (fun g3 => ?_) (fun g3 => ?_))
      · have g3 : f < s.length ∨ n = 0 := by simpa using g3
        refine rfail_c (k := n + 1) H (hpar _ (.raw ?_ ?_ hcut))
        · rcases g3 with h | h
          · exact .inr (fun h2 => by have := congrArg List.length h2; simp at this; omega)
          · exact .inl (by omega)
        · rcases hnl with h | h
          · omega
          · omega
      · have g3 : ¬ (f < s.length ∨ n = 0) := by simpa using g3
        simp only [cfv, cf0] at H
        iterate 5 refine h_ldI H (b := n2) (by repeat (first | exact pick_head | apply pick_tail | apply pick_app)) rfl ?_
        iterate 5 (refine h_st H (b := n1) (by repeat (first | exact pick_head | apply pick_tail | apply pick_app)) (by first | (simp; done) | exact Nat.le_of_ble_eq_true rfl) rfl fun u H => ?_; simp only [List.set_cons_zero, List.set_cons_succ] at H)
        iterate 5 refine h_ldI H (b := n1) (by repeat (first | exact pick_head | apply pick_tail | apply pick_app)) rfl ?_
        have hd : s.drop f = [] := List.drop_eq_nil_of_le (by omega)
        refine s_ret ⟨c, l, 0, 0, o, cap, cs ++ y, hpar _ ?_, hc, hl, hll, rfl, H.sub (by repeat (first | exact sb_refl | exact sb_nil | refine sb_cons (by repeat (first | exact pick_head | apply pick_tail | apply pick_app)) ?_ | refine sb_app (by repeat (first | exact cut_head | exact cut_all | apply cut_tail | apply cut_app)) ?_ | exact sb_one (by repeat (first | exact cut_head | exact cut_all | apply cut_tail | apply cut_app)))), fun w0 u H => ⟨rowsAt_own (sxr16 l) (by decide) ho H (by repeat (first | exact cut_head | exact cut_all | apply cut_tail | apply cut_app)), fun p hp => hh w0 u H.right p hp⟩⟩
        rw [hd]
        exact .done (by omega)
end
end Go.Proofs.YtihipcofjpnfbaaGreatDoor

/- Two scripts are the same. -/
set_option linter.unusedVariables false
set_option linter.unusedSimpArgs false
set_option maxRecDepth 100000
set_option maxHeartbeats 8000000
namespace Go.Proofs.YtihipcofjpnfbaaGreatDoor
open Go hiding Expr
open Go.RowKit Tr
deriving instance DecidableEq for CF
section
variable {w : World} {c d : CF} {o1 o2 : Option Addr} {l m : List SX} {n1 n2 c1 c2 : Nat}
theorem same_c (h1 : StepsAt w o1 l) (h2 : StepsAt w o2 m) (hl : StepsOk l) (hm : StepsOk m) (e1 : n1 = l.length) (e2 : n2 = m.length) (hsz : l.length ≤ 1048576) :
    Calls Tryz.prog 8 #[.agg ⟨cfv c⟩, .agg ⟨cfv d⟩, .slice o1 n1 c1, .slice o2 n2 c2] w fun e w' => e = .returned (.bool (decide (c = d ∧ l.map (·.x) = m.map (·.x)))) ∧ Fr [] w w' := by
  subst e1
  subst e2
  apply c8
  refine h_new (Has.init w) fun n16 u H => h_new H fun n17 u H => ?_
  refine s_blk (fun vs U => vs = [] ∧ c = d ∧ l.length = m.length ∧ Fr [] w U) ?_ ?_
  rotate_left
  · iterate 5 refine h_ldI H (b := n16) (by repeat (first | exact pick_head | apply pick_tail | apply pick_app)) rfl ?_
    iterate 5 refine h_ldI H (b := n17) (by repeat (first | exact pick_head | apply pick_tail | apply pick_app)) rfl ?_
    refine s_ite (fun g => s_ret ⟨?_, H.base⟩) (fun g => s_ite (fun g2 => s_ret ⟨?_, H.base⟩) (fun g2 => s_next ⟨rfl, rfl⟩ ?_))
    · have : ¬ (c = d ∧ l.map (·.x) = m.map (·.x)) := by
        rintro ⟨rfl, _⟩
        simp at g
      rw [decide_eq_false this]
    · have : ¬ (c = d ∧ l.map (·.x) = m.map (·.x)) := by
        rintro ⟨_, h⟩
        have := congrArg List.length h
        simp at this
        simp [this] at g2
      rw [decide_eq_false this]
    · simp only [if_true]
      refine ⟨trivial, ?_, by have g2 : (l.length : Int) = m.length := by simpa using g2
                              omega, H.base⟩
      cases c
      cases d
      simp only [CF.mk.injEq]
      simp at g
      obtain ⟨a1, a2, a3, a4, a5⟩ := g
      exact ⟨a1, a2, a3, a4, by omega⟩
  clear H
  rintro _ j U ⟨rfl, rfl, hlen, hF⟩
  refine s_loop (fun vs W => ∃ i : Nat, vs = [.int .i64 i] ∧ i ≤ l.length ∧ (l.map (·.x)).take i = (m.map (·.x)).take i ∧ Fr [] w W) (fun vs _ => l.length - (intOf (vs.getD 0 undef)).toNat) ⟨0, rfl, by omega, by simp, hF⟩ ?_
  clear hF
  rintro _ j W ⟨i, rfl, hi, ht, hF⟩
  refine s_asI (s_ite (fun g1 => ?_) (fun g1 => ?_))
  · have g1 : i < l.length := by
      have g1 : (i : Int) < l.length := by simpa using g1
      omega
    obtain ⟨p, hp⟩ : ∃ p, l[i]? = some p := ⟨_, List.getElem?_eq_getElem g1⟩
    obtain ⟨q, hq⟩ : ∃ q, m[i]? = some q := ⟨_, List.getElem?_eq_getElem (by omega)⟩
    have hpx : (l.map (·.x))[i]? = some p.x := by rw [List.getElem?_map, hp]; rfl
    have hqx : (m.map (·.x))[i]? = some q.x := by rw [List.getElem?_map, hq]; rfl
    have hpm := List.mem_of_getElem? hp
    have hqm := List.mem_of_getElem? hq
    refine s_drew fun u _ f0 => ?_
    have hF := hF.trans f0
    obtain ⟨ga, oa, rfl, _, hca⟩ := RowsAt.at (h1.rows.fr hF) (j := i) (r := sxr p) (by simp [hp])
    obtain ⟨gb, ob, rfl, _, hcb⟩ := RowsAt.at (h2.rows.fr hF) (j := i) (r := sxr q) (by simp [hq])
    refine s_req ⟨by omega, by omega⟩ (s_sm (s_loadI (hca 0 _ rfl) (s_loadI (hca 1 _ rfl) (s_loadI (hca 2 _ rfl) (s_loadI (hca 3 _ rfl) (s_loadI (hca 4 _ rfl) (s_loadS (hca 5 _ rfl) (s_loadS (hca 6 _ rfl) (s_loadS (hca 7 _ rfl) (s_loadS (hca 8 _ rfl) (s_loadS (hca 9 _ rfl) (s_loadI (hca 10 _ rfl) (s_loadI (hca 11 _ rfl) (s_loadI (hca 12 _ rfl) (s_loadI (hca 13 _ rfl) (s_loadI (hca 14 _ rfl) (s_loadI (hca 15 _ rfl) ?_)))))))))))))))))
    refine s_req ⟨by omega, by omega⟩ (s_sm (s_loadI (hcb 0 _ rfl) (s_loadI (hcb 1 _ rfl) (s_loadI (hcb 2 _ rfl) (s_loadI (hcb 3 _ rfl) (s_loadI (hcb 4 _ rfl) (s_loadS (hcb 5 _ rfl) (s_loadS (hcb 6 _ rfl) (s_loadS (hcb 7 _ rfl) (s_loadS (hcb 8 _ rfl) (s_loadS (hcb 9 _ rfl) (s_loadI (hcb 10 _ rfl) (s_loadI (hcb 11 _ rfl) (s_loadI (hcb 12 _ rfl) (s_loadI (hcb 13 _ rfl) (s_loadI (hcb 14 _ rfl) (s_loadI (hcb 15 _ rfl) ?_)))))))))))))))))
    refine s_call (same_step_c (x := p.x) (y := q.x) (v := p.v) (v' := q.v) (stFr (h1.at_ p hpm) hF) (stFr (h2.at_ q hqm) hF) (hl p hpm) (hm q hqm)) ?_
    rintro _ u3 ⟨rfl, f3⟩
    have hF := hF.trans f3
    refine ⟨_, rfl, s_asB (s_chk c_nil (s_ite (fun g2 => s_ret ⟨?_, hF⟩) (fun g2 => s_next ⟨rfl, rfl⟩ ?_)))⟩
    · have g2 : ¬ p.x = q.x := by simpa using g2
      have : ¬ (c = c ∧ l.map (·.x) = m.map (·.x)) := by
        rintro ⟨_, h⟩
        rw [h, hqx] at hpx
        exact g2 (Option.some.inj hpx).symm
      rw [decide_eq_false this]
    · have g2 : p.x = q.x := by simpa using g2
      simp (config := { decide := true }) only [if_true, if_false]
      exact ⟨⟨i + 1, by rw [w_succ (by omega)], by omega, take_same ht hpx hqx g2, hF⟩, by rw [w_succ (by omega)]; simp [intOf] <;> omega⟩
  · have g1 : i = l.length := by
      have g1 : ¬ (i : Int) < l.length := by simpa using g1
      omega
    subst g1
    rw [List.take_of_length_le (by rw [List.length_map]; omega), List.take_of_length_le (by rw [List.length_map]; omega)] at ht
    exact s_ret ⟨by rw [decide_eq_true ⟨rfl, ht⟩], hF⟩
end
end Go.Proofs.YtihipcofjpnfbaaGreatDoor

/- The law ScriptParses. -/
set_option linter.unusedVariables false
set_option linter.unusedSimpArgs false
set_option maxRecDepth 100000
set_option maxHeartbeats 8000000
namespace Go.Proofs.YtihipcofjpnfbaaGreatDoor
open Go hiding Expr
open Go.RowKit Tr
theorem lawParses_c {w : World} {s : List UInt8} (hT : Tab w) (hE : ErrAt w) (hsz : s.length ≤ 1048576) : Calls Tryz.prog 3 #[.string (S s)] w fun e w' => e = .returned (.bool true) ∧ Fr [] w w' := by
  apply c3
  refine s_call2 (parse_c hT hE (by omega) (LOk.short _ hsz (Nat.le_refl _))) ?_
  rintro e u ⟨c, l, k, er, o, cap, m1, hp, hc, hl, hll, rfl, H, hL⟩
  refine ⟨_, rfl, s_asU (s_req rfl (s_asA (s_req rfl ?_)))⟩
  iterate 5 refine s_asI ?_
  refine s_asS (s_asI (s_asI (h_new H fun n14 u H => ?_)))
  iterate 5 (refine h_st H (b := n14) pick_head (by first | (simp; done) | exact Nat.le_of_ble_eq_true rfl) rfl fun u H => ?_; simp only [List.set_cons_zero, List.set_cons_succ] at H)
  refine s_call (rparse_c (hT.fr H.base) hsz) ?_
  rintro e u2 ⟨d, m, k2, er2, o2, cap2, m2, hp2, hd, hm, hmm, rfl, H2, hM⟩
  have hd2 := hp.det hp2
  have e1 := congrArg PRes.c hd2
  have e2 := congrArg PRes.l hd2
  have e3 := congrArg PRes.k hd2
  have e4 := congrArg PRes.e hd2
  simp only at e1 e2 e3 e4
  subst e1 e3 e4
  have H := H.join H2
  refine ⟨_, rfl, s_asU (s_req rfl (s_asA (s_req rfl ?_)))⟩
  iterate 5 refine s_asI ?_
  refine s_asS (s_asI (s_asI (h_new H fun n28 u H => ?_)))
  iterate 5 (refine h_st H (b := n28) pick_head (by first | (simp; done) | exact Nat.le_of_ble_eq_true rfl) rfl fun u H => ?_; simp only [List.set_cons_zero, List.set_cons_succ] at H)
  refine s_call (live_c (hT.fr H.base)) ?_
  rintro _ u ⟨rfl, f⟩
  have H := H.fr0 f
  refine ⟨_, rfl, s_asB (s_true rfl (s_true (beq_self_eq_true _) (s_true (beq_self_eq_true _) ?_)))⟩
  iterate 5 refine h_ldI H (b := n14) (by repeat (first | exact pick_head | apply pick_tail | apply pick_app)) rfl ?_
  iterate 5 refine h_ldI H (b := n28) (by repeat (first | exact pick_head | apply pick_tail | apply pick_app)) rfl ?_
  refine s_call (same_c (c := c) (d := c) (hL w _ (H.sub (by repeat (first | exact sb_refl | exact sb_nil | refine sb_cons (by repeat (first | exact pick_head | apply pick_tail | apply pick_app)) ?_ | refine sb_app (by repeat (first | exact cut_head | exact cut_all | apply cut_tail | apply cut_app)) ?_ | exact sb_one (by repeat (first | exact cut_head | exact cut_all | apply cut_tail | apply cut_app)))))) (hM w _ (H.sub (by repeat (first | exact sb_refl | exact sb_nil | refine sb_cons (by repeat (first | exact pick_head | apply pick_tail | apply pick_app)) ?_ | refine sb_app (by repeat (first | exact cut_head | exact cut_all | apply cut_tail | apply cut_app)) ?_ | exact sb_one (by repeat (first | exact cut_head | exact cut_all | apply cut_tail | apply cut_app)))))) (fun p hp => (hl p hp).1) (fun p hp => (hm p hp).1) rfl rfl (by omega)) ?_
  rintro _ u ⟨rfl, f⟩
  refine ⟨_, rfl, s_asB (s_ret ⟨?_, H.base.trans f⟩)⟩
  rw [decide_eq_true ⟨rfl, e2⟩]
end Go.Proofs.YtihipcofjpnfbaaGreatDoor
