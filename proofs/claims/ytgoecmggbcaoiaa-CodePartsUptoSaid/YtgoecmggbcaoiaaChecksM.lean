/- Which transactions may be: the program and the reference. -/
import Derived.Test.YtgoecmggbcaoiaaArgs13
set_option linter.unusedVariables false
set_option linter.unusedSimpArgs false
set_option maxRecDepth 100000
set_option maxHeartbeats 4000000
namespace Go.Proofs.Ytgoecmggbcaoiaa
open Go hiding Expr
open Go.RowKit Tr

abbrev Ky := Int × Int
def kr (k : Ky) : List Value := [.int .i32 k.1, .int .i64 k.2]
def ltKy (a b : Ky) : Bool := decide (a.1 < b.1 ∨ a.1 = b.1 ∧ a.2 < b.2)
def KeyAt (w : World) (o : Option Addr) (l : List Ky) : Prop := RowsAt w o 2 (l.map kr)
/-- The first i keys rise. -/
def RiseTo (l : List Ky) (i : Nat) : Prop := ∀ j a b, j + 1 < i → l[j]? = some a → l[j + 1]? = some b → ltKy a b = true
structure Tx where
  s : Int
  r : Int
  code : List Int
  args : Int
  rd : List Ky
  wr : List Ky
def badM (t : Tx) (x : Ins) : Prop := ((x.op = 3 ∨ x.op = 4) ∧ (t.rd.length : Int) ≤ x.imm) ∨ ((x.op = 5 ∨ x.op = 6) ∧ (t.wr.length : Int) ≤ x.imm) ∨ (x.op = 2 ∧ t.args ≤ x.imm)
/-- What is wrong with a transaction. -/
inductive ChkIs (t : Tx) : Int → Prop where
  | num : t.s < 1 ∨ 1099511627776 < t.s ∨ t.r < 1 ∨ 1099511627776 < t.r → ChkIs t 1
  | long : ¬ (t.s < 1 ∨ 1099511627776 < t.s ∨ t.r < 1 ∨ 1099511627776 < t.r) → 8 < t.args ∨ 16 < t.rd.length ∨ 16 < t.wr.length → ChkIs t 3
  | rise : ¬ (t.s < 1 ∨ 1099511627776 < t.s ∨ t.r < 1 ∨ 1099511627776 < t.r) → ¬ (8 < t.args ∨ 16 < t.rd.length ∨ 16 < t.wr.length) → ¬ RiseTo t.rd t.rd.length ∨ ¬ RiseTo t.wr t.wr.length → ChkIs t 1
  | code : ¬ (t.s < 1 ∨ 1099511627776 < t.s ∨ t.r < 1 ∨ 1099511627776 < t.r) → ¬ (8 < t.args ∨ 16 < t.rd.length ∨ 16 < t.wr.length) → RiseTo t.rd t.rd.length → RiseTo t.wr t.wr.length → (decP t.code).2 ≠ 0 → ChkIs t (decP t.code).2
  | idx {x : Ins} : ¬ (t.s < 1 ∨ 1099511627776 < t.s ∨ t.r < 1 ∨ 1099511627776 < t.r) → ¬ (8 < t.args ∨ 16 < t.rd.length ∨ 16 < t.wr.length) → RiseTo t.rd t.rd.length → RiseTo t.wr t.wr.length → (decP t.code).2 = 0 → x ∈ (decP t.code).1 → badM t x → ChkIs t 132
  | ok : ¬ (t.s < 1 ∨ 1099511627776 < t.s ∨ t.r < 1 ∨ 1099511627776 < t.r) → ¬ (8 < t.args ∨ 16 < t.rd.length ∨ 16 < t.wr.length) → RiseTo t.rd t.rd.length → RiseTo t.wr t.wr.length → (decP t.code).2 = 0 → (∀ x ∈ (decP t.code).1, ¬ badM t x) → ChkIs t 0
theorem ChkIs.uniq {t : Tx} {a b : Int} (h : ChkIs t a) (k : ChkIs t b) : a = b := by
  cases h <;> cases k <;> first | rfl | (exfalso; simp_all; done) | (exfalso; grind)

section
variable {w w' w0 : World} {m m' c : Hp} {o o2 : Option Addr} {cap n : Nat} {l : List Ky}
theorem KeyAt.get (h : KeyAt w o l) {i : Nat} {x : Ky} (hi : l[i]? = some x) : ∃ g off, o = some ⟨g, off, none⟩ ∧ w.cell? ⟨g, off + i * 2, none⟩ = some (.int .i32 x.1) ∧ w.cell? ⟨g, off + i * 2 + 1, none⟩ = some (.int .i64 x.2) := by
  obtain ⟨g, off, rfl, _, hc⟩ := RowsAt.at h (j := i) (r := kr x) (by simp [hi])
  exact ⟨g, off, rfl, hc 0 _ rfl, hc 1 _ rfl⟩
theorem rise_step {i : Nat} {a b : Ky} (h : RiseTo l (i + 1)) (ha : l[i]? = some a) (hb : l[i + 1]? = some b) (hlt : ltKy a b = true) : RiseTo l (i + 2) := by
  intro j x y hj hx hy
  rcases Nat.lt_or_ge j i with h' | h'
  · exact h j x y (by omega) hx hy
  · have : j = i := by omega
    subst this
    rw [ha] at hx; rw [hb] at hy
    cases hx; cases hy
    exact hlt
theorem rise_0 : RiseTo l 0 := fun j a b h => by omega
theorem rise_1 : RiseTo l 1 := fun j a b h => by omega
theorem rise_not {i : Nat} {a b : Ky} (ha : l[i]? = some a) (hb : l[i + 1]? = some b) (hlt : ltKy a b = false) : ¬ RiseTo l l.length := fun h => by
  have := h i a b (List.getElem?_eq_some_iff.1 hb).1 ha hb
  rw [hlt] at this
  cases this

theorem rises_c (H : Has w0 w m) (hv : ∀ u, Has w0 u m → KeyAt u o l) (hl : l.length < 9223372036854775807) : Calls Try.prog 50 #[.slice o l.length cap] w fun e w' => (∃ b, e = .returned (.bool b) ∧ (b = true ↔ RiseTo l l.length)) ∧ Has w0 w' m := by
  apply c50
  refine s_loop (fun vs W => ∃ i : Nat, vs = [.int .i64 i] ∧ i ≤ l.length ∧ RiseTo l i ∧ Has w0 W m) (fun vs _ => l.length - (intOf (vs.getD 0 undef)).toNat) ⟨0, rfl, by omega, rise_0, H⟩ ?_
  rintro _ j W ⟨i, rfl, hi, hr, H⟩
  refine s_asI (s_ite (fun g => h_drew H fun u H => ?_) (fun g => s_ret ⟨⟨true, rfl, ?_⟩, H⟩))
  · simp only [decide_eq_true_eq] at g
    refine s_ite (fun g1 => ?_) (fun g1 => s_next ⟨rfl, rfl⟩ ?_)
    · simp only [decide_eq_true_eq] at g1
      obtain ⟨k, rfl⟩ : ∃ k, i = k + 1 := ⟨i - 1, by omega⟩
      obtain ⟨a, ha⟩ : ∃ a, l[k]? = some a := ⟨_, List.getElem?_eq_getElem (by omega)⟩
      obtain ⟨b, hb⟩ : ∃ b, l[k + 1]? = some b := ⟨_, List.getElem?_eq_getElem (by omega)⟩
      rw [show (((k + 1 : Nat) : Int) - 1) = (k : Int) by omega, wrapI (n := (k : Int)) (by omega) (by omega)]
      obtain ⟨g2, off, rfl, p0, p1⟩ := (hv u H).get hb
      obtain ⟨g3, off3, he, q0, q1⟩ := (hv u H).get ha
      obtain ⟨rfl, rfl⟩ : g2 = g3 ∧ off = off3 := by simpa using he
      refine s_req ⟨by omega, by omega⟩ (s_sm (s_loadI p0 ?_))
      refine s_req ⟨by omega, by omega⟩ (s_sm (s_loadI q0 ?_))
      refine s_ite (fun g4 => s_ret ⟨⟨false, rfl, ?_⟩, H⟩) (fun g4 => ?_)
      rotate_left
      · refine s_req ⟨by omega, by omega⟩ (s_sm (s_loadI p0 ?_))
        refine s_req ⟨by omega, by omega⟩ (s_sm (s_loadI q0 ?_))
        refine s_ite (fun g5 => ?_) (fun g5 => s_next ⟨rfl, rfl⟩ ?_)
        · refine s_req ⟨by omega, by omega⟩ (s_sm (s_loadI p1 ?_))
          refine s_req ⟨by omega, by omega⟩ (s_sm (s_loadI q1 ?_))
          refine s_ite (fun g6 => s_ret ⟨⟨false, rfl, ?_⟩, H⟩) (fun g6 => s_next ⟨rfl, rfl⟩ ?_)
          · simp only [decide_eq_true_eq, decide_eq_false_iff_not, beq_iff_eq, beq_eq_false_iff_ne, ne_eq] at *
            have := rise_not ha hb (by unfold ltKy; rw [decide_eq_false_iff_not]; omega)
            simp [this]
          · simp only [decide_eq_true_eq, decide_eq_false_iff_not, beq_iff_eq, beq_eq_false_iff_ne, ne_eq] at *
            simp only [if_true]
            rw [w_succ (by omega)]
            exact ⟨⟨k + 2, rfl, by omega, rise_step hr ha hb (by unfold ltKy; rw [decide_eq_true_eq]; omega), H⟩, by simp [intOf]; omega⟩
        · simp only [decide_eq_true_eq, decide_eq_false_iff_not, beq_iff_eq, beq_eq_false_iff_ne, ne_eq] at *
          simp only [if_true]
          rw [w_succ (by omega)]
          exact ⟨⟨k + 2, rfl, by omega, rise_step hr ha hb (by unfold ltKy; rw [decide_eq_true_eq]; omega), H⟩, by simp [intOf]; omega⟩
      · simp only [decide_eq_true_eq, decide_eq_false_iff_not, beq_iff_eq, beq_eq_false_iff_ne, ne_eq] at *
        have := rise_not ha hb (by unfold ltKy; rw [decide_eq_false_iff_not]; omega)
        simp [this]
    · simp only [decide_eq_false_iff_not] at g1
      have : i = 0 := by omega
      subst this
      simp only [if_true]
      exact ⟨⟨1, rfl, by omega, rise_1, H⟩, by simp [intOf, wrapI]; omega⟩
  · simp only [decide_eq_false_iff_not] at g
    have : i = l.length := by omega
    subst this
    simp [hr]

theorem rcmp_c (H : Has w0 w m) {a b : Ky} : Calls Try.prog 59 #[.agg ⟨kr a⟩, .agg ⟨kr b⟩] w fun e w' => (∃ n : Int, e = .returned (.int .i64 n) ∧ (n ≥ 0 ↔ ltKy a b = false)) ∧ Has w0 w' m := by
  apply c59
  (refine h_new H fun n4 u H => ?_)
  (refine h_new H fun n5 u H => ?_)
  refine h_blk (fun _ => ltKy a b = false) H ?_ ?_
  · refine h_ldI H (by repeat (first | exact pick_head | apply pick_tail | apply pick_app)) rfl (h_ldI H (by repeat (first | exact pick_head | apply pick_tail | apply pick_app)) rfl (s_ite (fun g => s_ret ⟨⟨-1, rfl, ?_⟩, H.sub (by repeat (first | exact sb_refl | exact sb_nil | refine sb_cons (by repeat (first | exact pick_head | apply pick_tail | apply pick_app)) ?_ | refine sb_app (by repeat (first | exact cut_head | exact cut_all | apply cut_tail | apply cut_app)) ?_ | exact sb_one (by repeat (first | exact cut_head | exact cut_all | apply cut_tail | apply cut_app))))⟩) (fun g => h_ldI H (by repeat (first | exact pick_head | apply pick_tail | apply pick_app)) rfl (h_ldI H (by repeat (first | exact pick_head | apply pick_tail | apply pick_app)) rfl (s_ite (fun g1 => h_ldI H (by repeat (first | exact pick_head | apply pick_tail | apply pick_app)) rfl (h_ldI H (by repeat (first | exact pick_head | apply pick_tail | apply pick_app)) rfl (s_ite (fun g2 => s_ret ⟨⟨-1, rfl, ?_⟩, H.sub (by repeat (first | exact sb_refl | exact sb_nil | refine sb_cons (by repeat (first | exact pick_head | apply pick_tail | apply pick_app)) ?_ | refine sb_app (by repeat (first | exact cut_head | exact cut_all | apply cut_tail | apply cut_app)) ?_ | exact sb_one (by repeat (first | exact cut_head | exact cut_all | apply cut_tail | apply cut_app))))⟩) (fun g2 => s_next ⟨rfl, rfl⟩ ?_)))) (fun g1 => s_next ⟨rfl, rfl⟩ ?_))))))
    all_goals simp only [decide_eq_true_eq, decide_eq_false_iff_not, beq_iff_eq, beq_eq_false_iff_ne, ne_eq] at *
    · have : ltKy a b = true := by unfold ltKy; rw [decide_eq_true_eq]; omega
      rw [this]
      simp
    · have : ltKy a b = true := by unfold ltKy; rw [decide_eq_true_eq]; omega
      rw [this]
      simp
    · simp only [if_true]
      exact ⟨H, by unfold ltKy; rw [decide_eq_false_iff_not]; omega⟩
    · simp only [if_true]
      exact ⟨H, by unfold ltKy; rw [decide_eq_false_iff_not]; omega⟩
  · rintro _ _ W H hn
    iterate 4 refine h_ldI H (by repeat (first | exact pick_head | apply pick_tail | apply pick_app)) rfl ?_
    refine s_ite (fun g => s_ret ⟨⟨0, rfl, ?_⟩, H.sub (by repeat (first | exact sb_refl | exact sb_nil | refine sb_cons (by repeat (first | exact pick_head | apply pick_tail | apply pick_app)) ?_ | refine sb_app (by repeat (first | exact cut_head | exact cut_all | apply cut_tail | apply cut_app)) ?_ | exact sb_one (by repeat (first | exact cut_head | exact cut_all | apply cut_tail | apply cut_app))))⟩) (fun g => s_ret ⟨⟨1, rfl, ?_⟩, H.sub (by repeat (first | exact sb_refl | exact sb_nil | refine sb_cons (by repeat (first | exact pick_head | apply pick_tail | apply pick_app)) ?_ | refine sb_app (by repeat (first | exact cut_head | exact cut_all | apply cut_tail | apply cut_app)) ?_ | exact sb_one (by repeat (first | exact cut_head | exact cut_all | apply cut_tail | apply cut_app))))⟩)
    all_goals
      rw [hn]
      simp

theorem rrises_c (H : Has w0 w m) (hv : ∀ u, Has w0 u m → KeyAt u o l) (hl : l.length < 9223372036854775807) : Calls Try.prog 51 #[.slice o l.length cap] w fun e w' => (∃ b, e = .returned (.bool b) ∧ (b = true ↔ RiseTo l l.length)) ∧ Has w0 w' m := by
  apply c51
  refine s_loop (fun vs W => ∃ i : Nat, vs = [.int .i64 i] ∧ 1 ≤ i ∧ i ≤ l.length + 1 ∧ RiseTo l i ∧ Has w0 W m) (fun vs _ => l.length + 1 - (intOf (vs.getD 0 undef)).toNat) ⟨1, rfl, by omega, by omega, rise_1, H⟩ ?_
  rintro _ j W ⟨i, rfl, h1, hi, hr, H⟩
  refine s_asI (s_ite (fun g => h_drew H fun u H => ?_) (fun g => s_ret ⟨⟨true, rfl, ?_⟩, H⟩))
  · simp only [decide_eq_true_eq] at g
    obtain ⟨k, rfl⟩ : ∃ k, i = k + 1 := ⟨i - 1, by omega⟩
    obtain ⟨a, ha⟩ : ∃ a, l[k]? = some a := ⟨_, List.getElem?_eq_getElem (by omega)⟩
    obtain ⟨b, hb⟩ : ∃ b, l[k + 1]? = some b := ⟨_, List.getElem?_eq_getElem (by omega)⟩
    rw [show (((k + 1 : Nat) : Int) - 1) = (k : Int) by omega, wrapI (n := (k : Int)) (by omega) (by omega)]
    obtain ⟨g2, off, rfl, p0, p1⟩ := (hv u H).get hb
    obtain ⟨g3, off3, he, q0, q1⟩ := (hv u H).get ha
    obtain ⟨rfl, rfl⟩ : g2 = g3 ∧ off = off3 := by simpa using he
    refine s_req ⟨by omega, by omega⟩ (s_sm (s_loadI q0 (s_loadI q1 ?_)))
    refine s_req ⟨by omega, by omega⟩ (s_sm (s_loadI p0 (s_loadI p1 ?_)))
    refine s_call (rcmp_c (a := a) (b := b) H) ?_
    rintro _ u ⟨⟨n, rfl, hn⟩, H⟩
    refine ⟨_, rfl, s_asI (s_chk c_nil (s_ite (fun g4 => s_ret ⟨⟨false, rfl, ?_⟩, H⟩) (fun g4 => s_next ⟨rfl, rfl⟩ ?_)))⟩
    · simp only [decide_eq_true_eq] at g4
      have := rise_not ha hb (hn.1 g4)
      simp [this]
    · simp only [decide_eq_false_iff_not] at g4
      simp only [if_true]
      rw [w_succ (by omega)]
      refine ⟨⟨k + 2, rfl, by omega, by omega, rise_step hr ha hb ?_, H⟩, by simp [intOf]; omega⟩
      cases h : ltKy a b with
      | true => rfl
      | false => exact absurd (hn.2 h) g4
  · simp only [decide_eq_false_iff_not] at g
    have : RiseTo l l.length := fun j a b hj => hr j a b (by omega)
    simp [this]
end

def NumBad (t : Tx) : Prop := t.s < 1 ∨ 1099511627776 < t.s ∨ t.r < 1 ∨ 1099511627776 < t.r
def LongBad (t : Tx) : Prop := 8 < t.args ∨ 16 < t.rd.length ∨ 16 < t.wr.length
/-- A transaction's fields. -/
def txR (t : Tx) (o1 o2 o3 o4 : Option Addr) (c1 c2 c3 c4 : Nat) : List Value := [.int .i64 t.s, .int .i64 t.r, .slice o1 t.code.length c1, .slice o2 t.args.toNat c2, .slice o3 t.rd.length c3, .slice o4 t.wr.length c4]
structure TxOk (t : Tx) : Prop where
  args : 0 ≤ t.args
  u : ∀ x ∈ t.code, 0 ≤ x ∧ x ≤ 255
  code : t.code.length ≤ 140737488355328
  rd : t.rd.length ≤ 140737488355328
  wr : t.wr.length ≤ 140737488355328

section
variable {w w' w0 : World} {m m' c : Hp} {o1 o2 o3 o4 : Option Addr} {c1 c2 c3 c4 : Nat} {t : Tx}

theorem most_c {ρ : Lv} {Q : Ending → World → Prop} : True := trivial

theorem check_c (H : Has w0 w m) (ht : TxOk t) (hc1 : t.code.length ≤ c1) (hv1 : ∀ u, Has w0 u m → BytAt u o1 t.code) (hv3 : ∀ u, Has w0 u m → KeyAt u o3 t.rd) (hv4 : ∀ u, Has w0 u m → KeyAt u o4 t.wr) :
    Calls Try.prog 22 #[.agg ⟨txR t o1 o2 o3 o4 c1 c2 c3 c4⟩] w fun e w' => (∃ n : Int, e = .returned (.int .i64 n) ∧ ChkIs t n) ∧ Has w0 w' m := by
  apply c22
  have hta := ht.args
  have htr := ht.rd
  have htw := ht.wr
  (refine h_new H fun n14 u H => ?_)
  have H : Has w0 u (cl n14 51 (txR t o1 o2 o3 o4 c1 c2 c3 c4) :: m) := H
  refine h_blk (fun _ => ¬ NumBad t ∧ ¬ LongBad t ∧ RiseTo t.rd t.rd.length ∧ RiseTo t.wr t.wr.length) H ?_ ?_
  · refine h_blk (fun x => ∃ b, x = [.bool b] ∧ (b = true ↔ NumBad t)) H ?_ ?_
    · refine h_ldI H (by repeat (first | exact pick_head | apply pick_tail | apply pick_app)) rfl (s_ite (fun g => s_next ⟨rfl, rfl⟩ ?_) (fun g => h_ldI H (by repeat (first | exact pick_head | apply pick_tail | apply pick_app)) rfl (s_ite (fun g1 => s_next ⟨rfl, rfl⟩ ?_) (fun g1 => h_ldI H (by repeat (first | exact pick_head | apply pick_tail | apply pick_app)) rfl (s_ite (fun g2 => s_next ⟨rfl, rfl⟩ ?_) (fun g2 => h_ldI H (by repeat (first | exact pick_head | apply pick_tail | apply pick_app)) rfl (s_next ⟨rfl, rfl⟩ ?_)))))))
      all_goals
        simp (config := { decide := true }) only [if_true, if_false]
        refine ⟨H, _, rfl, ?_⟩
        unfold NumBad
        simp only [decide_eq_true_eq, decide_eq_false_iff_not] at *
        try simp only [true_iff]
        omega
    · rintro _ _ W H ⟨b, rfl, hb⟩
      refine s_asB (s_ite (fun g => s_ret ⟨⟨1, rfl, .num (hb.1 g)⟩, H.drop⟩) (fun g => ?_))
      have hn : ¬ NumBad t := fun h => by rw [hb.2 h] at g; cases g
      refine h_blk (fun x => ∃ b, x = [.bool b] ∧ (b = true ↔ LongBad t)) H ?_ ?_
      · refine h_ldS H (by repeat (first | exact pick_head | apply pick_tail | apply pick_app)) rfl (s_ite (fun g => s_next ⟨rfl, rfl⟩ ?_) (fun g => h_ldS H (by repeat (first | exact pick_head | apply pick_tail | apply pick_app)) rfl (s_ite (fun g1 => s_next ⟨rfl, rfl⟩ ?_) (fun g1 => h_ldS H (by repeat (first | exact pick_head | apply pick_tail | apply pick_app)) rfl (s_next ⟨rfl, rfl⟩ ?_)))))
        all_goals
          simp (config := { decide := true }) only [if_true, if_false]
          refine ⟨H, _, rfl, ?_⟩
          unfold LongBad
          simp only [decide_eq_true_eq, decide_eq_false_iff_not] at *
          try simp only [true_iff]
          omega
      · rintro _ _ W H ⟨b, rfl, hb⟩
        refine s_asB (s_ite (fun g => s_ret ⟨⟨3, rfl, .long hn (hb.1 g)⟩, H.drop⟩) (fun g => ?_))
        have hlg : ¬ LongBad t := fun h => by rw [hb.2 h] at g; cases g
        refine h_ldS H (by repeat (first | exact pick_head | apply pick_tail | apply pick_app)) rfl ?_
        refine s_call (rises_c H (fun u hu => hv3 u hu.drop) (by omega)) ?_
        rintro _ u ⟨⟨b1, rfl, hb1⟩, H⟩
        refine ⟨_, rfl, s_asB (s_ite (fun g1 => s_ret ⟨⟨1, rfl, .rise hn hlg (.inl fun h => ?_)⟩, H.drop⟩) (fun g1 => h_ldS H (by repeat (first | exact pick_head | apply pick_tail | apply pick_app)) rfl ?_))⟩
        · rw [hb1.2 h] at g1; cases g1
        have hr1 : RiseTo t.rd t.rd.length := hb1.1 (by simpa using g1)
        refine s_call (rises_c H (fun u hu => hv4 u hu.drop) (by omega)) ?_
        rintro _ u ⟨⟨b2, rfl, hb2⟩, H⟩
        refine ⟨_, rfl, s_asB (s_ite (fun g1 => s_ret ⟨⟨1, rfl, .rise hn hlg (.inr fun h => ?_)⟩, H.drop⟩) (fun g1 => s_next ⟨rfl, rfl⟩ ?_))⟩
        · rw [hb2.2 h] at g1; cases g1
        simp (config := { decide := true }) only [if_true, if_false]
        exact ⟨H, hn, hlg, hr1, hb2.1 (by simpa using g1)⟩
  · rintro _ _ W H ⟨hn, hlg, hr1, hr2⟩
    refine h_ldS H (by repeat (first | exact pick_head | apply pick_tail | apply pick_app)) rfl ?_
    (refine s_call (dec_c (bs := t.code) H (fun u hu => hv1 u hu.drop) ht.u hc1 rfl ht.code) ?_; rintro _ u ⟨v, c, rfl, ho, H⟩; refine ⟨_, rfl, ?_⟩)
    obtain ⟨ol, capl, rfl⟩ := ho.slice
    refine s_asU (s_req rfl (s_asS (s_asI (s_ite (fun g => s_ret ⟨⟨_, rfl, .code hn hlg hr1 hr2 (by simpa using g)⟩, H.sub (by repeat (first | exact sb_refl | exact sb_nil | refine sb_cons (by repeat (first | exact pick_head | apply pick_tail | apply pick_app)) ?_ | refine sb_app (by repeat (first | exact cut_head | exact cut_all | apply cut_tail | apply cut_app)) ?_ | exact sb_one (by repeat (first | exact cut_head | exact cut_all | apply cut_tail | apply cut_app))))⟩) (fun g => ?_)))))
    have hok : (decP t.code).2 = 0 := by simpa using g
    obtain ⟨hris, hj, hrng, hlen, hbl, hw0, hwe⟩ := dec_facts ht.u hok
    have himm : ∀ x ∈ (decP t.code).1, x.imm ≤ 65535 := by
      rw [hwe]
      intro x hx
      have h4 := walk_mem (bs := t.code) (at_ := 0) (by omega) x hx
      have h5 := imm_rng (bs := t.code) (at_ := x.at_) ht.u
      rw [← h4.2.2.2] at h5
      exact h5.2
    have hidx : ∀ x ∈ (decP t.code).1, badM t x → ChkIs t 132 := fun x hx hb => .idx hn hlg hr1 hr2 hok hx hb
    have hfin : (∀ x ∈ (decP t.code).1, ¬ badM t x) → ChkIs t 0 := fun h => .ok hn hlg hr1 hr2 hok h
    generalize (decP t.code).1 = l at *
    refine s_loop (fun vs W => ∃ i : Nat, vs = [.int .i64 i] ∧ i ≤ l.length ∧ (∀ x ∈ l.take i, ¬ badM t x) ∧ Has w0 W (c ++ (cl n14 51 (txR t o1 o2 o3 o4 c1 c2 c3 c4) :: m))) (fun vs _ => l.length - (intOf (vs.getD 0 undef)).toNat) ⟨0, rfl, by omega, by simp, H⟩ ?_
    clear H
    rintro _ j W ⟨i, rfl, hi, hb, H⟩
    refine s_asI (s_ite (fun g1 => ?_) (fun g1 => s_ret ⟨⟨0, rfl, hfin ?_⟩, H.sub (by repeat (first | exact sb_refl | exact sb_nil | refine sb_cons (by repeat (first | exact pick_head | apply pick_tail | apply pick_app)) ?_ | refine sb_app (by repeat (first | exact cut_head | exact cut_all | apply cut_tail | apply cut_app)) ?_ | exact sb_one (by repeat (first | exact cut_head | exact cut_all | apply cut_tail | apply cut_app))))⟩))
    · simp only [decide_eq_true_eq] at g1
      obtain ⟨x, hx⟩ : ∃ x, l[i]? = some x := ⟨_, List.getElem?_eq_getElem (by omega)⟩
      have hxm := List.mem_of_getElem? hx
      have him := himm x hxm
      obtain ⟨gg, off, rfl, p0, p1, p2, p3, p4⟩ := (insAt_own ho H (by repeat (first | exact cut_head | exact cut_all | apply cut_tail | apply cut_app))).get hx
      refine s_req ⟨by omega, by omega⟩ (s_sm (s_loadI p0 (s_loadI p1 (s_loadI p2 (s_loadI p3 (s_loadI p4 ?_))))))
      (refine h_new H fun n36 u H => ?_)
      iterate 5 refine h_st H (by repeat (first | exact pick_head | apply pick_tail | apply pick_app)) (by first | (simp; done) | exact Nat.le_of_ble_eq_true rfl) rfl fun u H => ?_
      have H : Has w0 u (cl n36 40 (insR x) :: (c ++ (cl n14 51 (txR t o1 o2 o3 o4 c1 c2 c3 c4) :: m))) := H
      refine h_blk (fun y => ∃ k : Int, y = [.int .i64 k] ∧ (k ≤ x.imm ↔ badM t x)) H ?_ ?_
      · refine h_ldI H (by repeat (first | exact pick_head | apply pick_tail | apply pick_app)) rfl (h_blk (fun y => y = [.bool (decide (x.op = 3 ∨ x.op = 4))]) H ?_ ?_)
        · refine s_ite (fun g => s_next ⟨rfl, rfl⟩ ?_) (fun g => s_next ⟨rfl, rfl⟩ ?_)
          all_goals
            simp only [if_true]
            simp only [beq_iff_eq, beq_eq_false_iff_ne, ne_eq] at *
            refine ⟨H, ?_⟩
            congr 2
            rw [Bool.eq_iff_iff]
            simp
            omega
        rintro _ _ W H rfl
        refine s_asB (s_ite (fun g => h_ldS H (by repeat (first | exact pick_head | apply pick_tail | apply pick_app)) rfl (s_next ⟨rfl, rfl⟩ ?_)) (fun g => h_blk (fun y => y = [.bool (decide (x.op = 5 ∨ x.op = 6))]) H ?_ ?_))
        · simp (config := { decide := true }) only [if_true, if_false]
          simp only [decide_eq_true_eq] at g
          refine ⟨H, _, rfl, ?_⟩
          unfold badM
          constructor
          · intro h; exact .inl ⟨g, h⟩
          · rintro (h | h | h) <;> omega
        · simp only [decide_eq_false_iff_not] at g
          refine s_ite (fun g => s_next ⟨rfl, rfl⟩ ?_) (fun g => s_next ⟨rfl, rfl⟩ ?_)
          all_goals
            simp (config := { decide := true }) only [if_true, if_false]
            simp only [beq_iff_eq, beq_eq_false_iff_ne, ne_eq] at *
            refine ⟨H, ?_⟩
            congr 2
            rw [Bool.eq_iff_iff]
            simp
            omega
        simp only [decide_eq_false_iff_not] at g
        rintro _ _ W H rfl
        refine s_asB (s_ite (fun g => h_ldS H (by repeat (first | exact pick_head | apply pick_tail | apply pick_app)) rfl (s_next ⟨rfl, rfl⟩ ?_)) (fun g => s_ite (fun g3 => h_ldS H (by repeat (first | exact pick_head | apply pick_tail | apply pick_app)) rfl (s_next ⟨rfl, rfl⟩ ?_)) (fun g3 => s_next ⟨rfl, rfl⟩ ?_)))
        all_goals
          simp (config := { decide := true }) only [if_true, if_false]
          simp only [decide_eq_true_eq, decide_eq_false_iff_not, beq_iff_eq, beq_eq_false_iff_ne, ne_eq] at *
          refine ⟨H, _, rfl, ?_⟩
          unfold badM
          constructor
          · intro h; omega
          · rintro (h | h | h) <;> omega
      · rintro _ _ W H ⟨k, rfl, hk⟩
        refine s_asI (h_ldI H (by repeat (first | exact pick_head | apply pick_tail | apply pick_app)) rfl (s_ite (fun g => s_ret ⟨⟨132, rfl, hidx x hxm (hk.1 (by simpa using g))⟩, H.sub (by repeat (first | exact sb_refl | exact sb_nil | refine sb_cons (by repeat (first | exact pick_head | apply pick_tail | apply pick_app)) ?_ | refine sb_app (by repeat (first | exact cut_head | exact cut_all | apply cut_tail | apply cut_app)) ?_ | exact sb_one (by repeat (first | exact cut_head | exact cut_all | apply cut_tail | apply cut_app))))⟩) (fun g => s_next ⟨rfl, rfl⟩ ?_)))
        simp (config := { decide := true }) only [if_true, if_false]
        rw [w_succ (by omega)]
        refine ⟨⟨i + 1, rfl, by omega, fun y hy => ?_, H.drop⟩, by simp [intOf]; omega⟩
        rw [take_succ' hx] at hy
        rcases List.mem_append.1 hy with hy | hy
        · exact hb y hy
        · simp at hy
          subst hy
          intro h
          have := hk.2 h
          simp at g
          omega
    · simp only [decide_eq_false_iff_not] at g1
      have : i = l.length := by omega
      subst this
      rwa [List.take_length] at hb
end
end Go.Proofs.Ytgoecmggbcaoiaa
