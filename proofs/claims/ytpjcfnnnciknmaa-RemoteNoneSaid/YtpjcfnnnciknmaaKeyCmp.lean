/- Keys, their order, and the function that compares two; rows of keys in memory, read, exchanged and compared. -/
import Derived.Test.YtpjcfnnnciknmaaTreesS
import Derived.Test.YtpjcfnnnciknmaaSep
import Derived.Sort.AssemblyPlain
set_option linter.unusedVariables false
set_option linter.unusedSimpArgs false
set_option maxRecDepth 100000
namespace Go.Proofs.Ytpjcfnnnciknmaa
open Go hiding Expr
open Go.RowKit Tr

structure K where
  t : Int
  r : Int
instance : Inhabited K := ⟨⟨0, 0⟩⟩
theorem K.ext' {a b : K} (h1 : a.t = b.t) (h2 : a.r = b.r) : a = b := by cases a; cases b; simp_all
instance : DecidableEq K := fun a b => if h1 : a.t = b.t then if h2 : a.r = b.r then .isTrue (K.ext' h1 h2) else .isFalse (fun h => h2 (by rw [h])) else .isFalse (fun h => h1 (by rw [h]))

def cmpI (a b : Int) : Int := if a < b then -1 else if a > b then 1 else 0
def cmpK (a b : K) : Int := if cmpI a.t b.t ≠ 0 then cmpI a.t b.t else cmpI a.r b.r
def ltK (a b : K) : Bool := decide (cmpK a b < 0)
def kr (k : K) : List Value := [.int .i32 k.t, .int .i64 k.r]

theorem ltK_iff (a b : K) : ltK a b = true ↔ (a.t < b.t ∨ (a.t = b.t ∧ a.r < b.r)) := by
  unfold ltK cmpK cmpI
  simp only [decide_eq_true_eq]
  repeat' split
  all_goals omega
theorem cmpK_zero {a b : K} : cmpK a b = 0 ↔ a = b := by
  constructor
  · intro h
    unfold cmpK cmpI at h
    refine K.ext' ?_ ?_ <;> (repeat' split at h) <;> omega
  · rintro rfl
    simp [cmpK, cmpI]
theorem swoK : Sort.SWO ltK where
  irrefl x := by
    cases h : ltK x x with
    | false => rfl
    | true => rw [ltK_iff] at h; omega
  trans x y z h1 h2 := by rw [ltK_iff] at *; omega
  ntrans x y z h1 h2 := by
    cases h : ltK x z with
    | false => rfl
    | true =>
      rw [ltK_iff] at h
      have h1 : ¬ (ltK x y = true) := by rw [h1]; simp
      have h2 : ¬ (ltK y z = true) := by rw [h2]; simp
      rw [ltK_iff] at h1 h2
      omega
theorem ltK_eq {x y : K} (h1 : ltK x y = false) (h2 : ltK y x = false) : x = y := by
  have h1 : ¬ (ltK x y = true) := by rw [h1]; simp
  have h2 : ¬ (ltK y x = true) := by rw [h2]; simp
  rw [ltK_iff] at h1 h2
  refine K.ext' ?_ ?_ <;> omega

section
variable {w : World}
theorem wrap64 {n : Int} (h1 : -9223372036854775808 ≤ n) (h2 : n ≤ 9223372036854775807) : IntKind.wrap .i64 n = n := by
  simp only [IntKind.wrap, IntKind.min, IntKind.max, IntKind.signed, IntKind.bits]
  simp
  omega
theorem nan32_c (a : Int) : Calls Try.prog 76 #[.int .i32 a] w fun e w' => e = .returned (.bool false) ∧ w = w' := by
  apply c76
  exact s_ret ⟨by simp, rfl⟩
theorem nan64_c (a : Int) : Calls Try.prog 77 #[.int .i64 a] w fun e w' => e = .returned (.bool false) ∧ w = w' := by
  apply c77
  exact s_ret ⟨by simp, rfl⟩
theorem cmp32_c (a b : Int) : Calls Try.prog 57 #[.int .i32 a, .int .i32 b] w fun e w' => e = .returned (.int .i64 (cmpI a b)) ∧ w = w' := by
  apply c57
  refine s_call (nan32_c a) ?_
  rintro _ _ ⟨rfl, rfl⟩
  refine ⟨_, rfl, s_asB (s_call (nan32_c b) ?_)⟩
  rintro _ _ ⟨rfl, rfl⟩
  refine ⟨_, rfl, s_asB (s_false rfl (s_false rfl (s_ite (fun g => s_ret ⟨?_, rfl⟩) (fun g => s_ite (fun g2 => s_ret ⟨?_, rfl⟩) (fun g2 => s_ret ⟨?_, rfl⟩)))))⟩
  all_goals simp only [decide_eq_true_eq, decide_eq_false_iff_not] at *
  all_goals unfold cmpI
  · rw [if_pos g]
  · rw [if_neg g, if_pos g2]
  · rw [if_neg g, if_neg g2]
theorem cmp64_c (a b : Int) : Calls Try.prog 58 #[.int .i64 a, .int .i64 b] w fun e w' => e = .returned (.int .i64 (cmpI a b)) ∧ w = w' := by
  apply c58
  refine s_call (nan64_c a) ?_
  rintro _ _ ⟨rfl, rfl⟩
  refine ⟨_, rfl, s_asB (s_call (nan64_c b) ?_)⟩
  rintro _ _ ⟨rfl, rfl⟩
  refine ⟨_, rfl, s_asB (s_false rfl (s_false rfl (s_ite (fun g => s_ret ⟨?_, rfl⟩) (fun g => s_ite (fun g2 => s_ret ⟨?_, rfl⟩) (fun g2 => s_ret ⟨?_, rfl⟩)))))⟩
  all_goals simp only [decide_eq_true_eq, decide_eq_false_iff_not] at *
  all_goals unfold cmpI
  · rw [if_pos g]
  · rw [if_neg g, if_pos g2]
  · rw [if_neg g, if_neg g2]
theorem or_c {r : Nat} {ty : TypeId} {x y : Int} (h : Cells w r ty [.int .i64 x, .int .i64 y]) : Calls Try.prog 56 #[.slice (some ⟨r, 0, none⟩) 2 2] w fun e w' => e = .returned (.int .i64 (if x ≠ 0 then x else y)) ∧ w = w' := by
  apply c56
  refine s_loop (fun vs W => w = W ∧ ∃ i : Nat, vs = [.int .i64 i] ∧ i ≤ 2 ∧ (0 < i → x = 0) ∧ (1 < i → y = 0)) (fun vs _ => 2 - (intOf (vs.getD 0 undef)).toNat) ⟨rfl, 0, rfl, by omega, by omega, by omega⟩ ?_
  rintro _ j _ ⟨rfl, i, rfl, hi, h1, h2⟩
  refine s_asI (s_ite (fun g => ?_) (fun g => ?_))
  · simp only [decide_eq_true_eq] at g
    obtain rfl | rfl : i = 0 ∨ i = 1 := by omega
    · refine s_req (by omega) (s_sm (s_ldI h rfl (s_ite (fun g1 => s_ret ⟨?_, rfl⟩) (fun g1 => s_next (by first | exact ⟨rfl, rfl⟩ | trivial) ?_))))
      · simp only [bne_iff_ne, ne_eq] at g1; rw [if_pos g1]
      · simp only [bne_eq_false_iff_eq] at g1
        simp only [if_true]
        exact ⟨⟨trivial, 1, rfl, by omega, fun _ => g1, by omega⟩, by decide⟩
    · refine s_req (by omega) (s_sm (s_ldI h rfl (s_ite (fun g1 => s_ret ⟨?_, rfl⟩) (fun g1 => s_next (by first | exact ⟨rfl, rfl⟩ | trivial) ?_))))
      · rw [if_neg (by simp [h1])]
      · simp only [bne_eq_false_iff_eq] at g1
        simp only [if_true]
        exact ⟨⟨trivial, 2, rfl, by omega, fun _ => h1 (by omega), fun _ => g1⟩, by decide⟩
  · simp only [decide_eq_false_iff_not] at g
    have e1 := h1 (by omega)
    have e2 := h2 (by omega)
    exact s_ret ⟨by rw [e1, e2]; rfl, rfl⟩
theorem cmpK_c (a b : K) : Calls Try.prog 41 #[.agg ⟨kr a⟩, .agg ⟨kr b⟩] w fun e w' => e = .returned (.int .i64 (cmpK a b)) ∧ Fr [] w w' := by
  apply c41
  refine h_new (Has.init w) fun n4 u H => ?_
  (refine h_new H fun n5 u H => ?_)
  refine h_drew H fun u H => ?_
  refine h_ldI H (by repeat (first | exact pick_head | apply pick_tail | apply pick_app)) rfl (h_ldI H (by repeat (first | exact pick_head | apply pick_tail | apply pick_app)) rfl (h_ldI H (by repeat (first | exact pick_head | apply pick_tail | apply pick_app)) rfl (h_ldI H (by repeat (first | exact pick_head | apply pick_tail | apply pick_app)) rfl (s_call (cmp32_c _ _) ?_))))
  rintro _ _ ⟨rfl, rfl⟩
  refine ⟨_, rfl, s_asI (s_chk (hc_cons H (by repeat (first | exact pick_head | apply pick_tail | apply pick_app)) rfl (hc_cons H (by repeat (first | exact pick_head | apply pick_tail | apply pick_app)) rfl c_nil)) (s_call (cmp64_c _ _) ?_))⟩
  rintro _ _ ⟨rfl, rfl⟩
  refine ⟨_, rfl, s_asI (s_chk c_nil ?_)⟩
  (refine h_new H fun n14 u H => ?_)
  refine s_chk c_nil (s_call (or_c (H.cells (by repeat (first | exact pick_head | apply pick_tail | apply pick_app)))) ?_)
  rintro _ _ ⟨rfl, rfl⟩
  exact ⟨_, rfl, s_asI (s_chk c_nil (s_ret ⟨rfl, H.base⟩))⟩
end

/-! ### Rows of keys -/
def KA (d : Array K) (sp : List Value) : List Value := (d.toList.map kr).flatten ++ sp
section
variable {d : Array K} {sp : List Value} {i : Nat}
theorem kr2 (l : List K) : ∀ r ∈ l.map kr, r.length = 2 := by
  intro r hr
  obtain ⟨k, _, rfl⟩ := List.mem_map.1 hr
  rfl
theorem KA_len : (KA d sp).length = d.size * 2 + sp.length := by
  unfold KA; rw [List.length_append, flat_len (kr2 _), List.length_map]; simp
theorem arr_get (h : i < d.size) : d[i]! = d[i] := getElem!_pos d i h
theorem KA_get (h : i < d.size) : (KA d sp)[i * 2]? = some (.int .i32 d[i]!.t) ∧ (KA d sp)[i * 2 + 1]? = some (.int .i64 d[i]!.r) := by
  rw [arr_get h]
  have hg : (d.toList.map kr)[i]? = some (kr d[i]) := by simp [h]
  have h0 := flat_get (kr2 d.toList) (i := i) (j := 0) hg rfl
  have h1 := flat_get (kr2 d.toList) (i := i) (j := 1) hg rfl
  rw [Nat.add_zero] at h0
  unfold KA
  rw [List.getElem?_append_left (List.getElem?_eq_some_iff.1 h0).1, List.getElem?_append_left (List.getElem?_eq_some_iff.1 h1).1]
  exact ⟨h0, h1⟩
theorem KA_set (h : i < d.size) (k : K) : (((KA d sp).set (i * 2) (.int .i32 k.t)).set (i * 2 + 1) (.int .i64 k.r)) = KA (d.setIfInBounds i k) sp := by
  have hl : (d.toList.map kr).flatten.length = d.size * 2 := by rw [flat_len (kr2 d.toList)]; simp
  have hg : (d.toList.map kr)[i]? = some (kr d[i]) := by simp [h]
  have e1 := flat_set (kr2 d.toList) (i := i) (j := 0) (v := .int .i32 k.t) hg (by omega)
  have hr1 : ∀ r ∈ (d.toList.map kr).set i ((kr d[i]).set 0 (.int .i32 k.t)), r.length = 2 := fun r hr => by
    rcases List.mem_or_eq_of_mem_set hr with hr | rfl
    · exact kr2 _ r hr
    · rfl
  have e2 := flat_set hr1 (i := i) (j := 1) (r := (kr d[i]).set 0 (.int .i32 k.t)) (v := .int .i64 k.r) (by simp [h]) (by omega)
  rw [Nat.add_zero] at e1
  unfold KA
  rw [List.set_append_left _ _ (by rw [hl]; omega), e1, List.set_append_left _ _ (by rw [flat_len hr1]; simp; omega), e2]
  simp only [List.set_set, Array.toList_setIfInBounds, List.map_set]
  rfl
end

section
variable {Q : Ending → World → Prop} {ρ : Lv} {w : World} {g : Nat} {ty : TypeId} {d : Array K} {sp : List Value}
/-- data[j], data[i] = data[i], data[j]. -/
theorem swapAt {L : Nat} {x y : Int} {i j : Nat} {k : T} (h : Cells w g ty (KA d sp)) (hL : L = d.size) (hx : x = (i : Int)) (hy : y = (j : Int)) (hi : i < d.size) (hj : j < d.size)
    (hk : ∀ w', Fr [g] w w' → Cells w' g ty (KA (Sort.swp d j i) sp) → k.sem Try.prog Q ρ w') :
    (T.req (0 ≤ x ∧ x < ((L : Nat) : Int)) (T.sm (some ⟨g, 0, none⟩) fun n6 n7 => T.ldI .i32 n6 (n7 + Int.toNat x * 2) fun a => T.ldI .i64 n6 (n7 + Int.toNat x * 2 + 1) fun b =>
      T.req (0 ≤ y ∧ y < ((L : Nat) : Int)) (T.sm (some ⟨g, 0, none⟩) fun n8 n9 => T.ldI .i32 n8 (n9 + Int.toNat y * 2) fun c => T.ldI .i64 n8 (n9 + Int.toNat y * 2 + 1) fun e =>
        T.req (0 ≤ y ∧ y < ((L : Nat) : Int)) (T.sm (some ⟨g, 0, none⟩) fun n10 n11 => T.st n10 (n11 + Int.toNat y * 2) (.int .i32 a) (T.st n10 (n11 + Int.toNat y * 2 + 1) (.int .i64 b) (T.chk []
          (T.req (0 ≤ x ∧ x < ((L : Nat) : Int)) (T.sm (some ⟨g, 0, none⟩) fun n12 n13 => T.st n12 (n13 + Int.toNat x * 2) (.int .i32 c) (T.st n12 (n13 + Int.toNat x * 2 + 1) (.int .i64 e) (T.chk [] k)))))))))).sem Try.prog Q ρ w := by
  subst hx hy hL
  obtain ⟨p1, p2⟩ := KA_get (sp := sp) hi
  obtain ⟨q1, q2⟩ := KA_get (sp := sp) hj
  simp only [Int.toNat_natCast]
  refine s_req ⟨by omega, by omega⟩ (s_sm ?_)
  simp only [Nat.zero_add]
  refine s_ldI h p1 (s_ldI h p2 (s_req ⟨by omega, by omega⟩ (s_sm ?_)))
  simp only [Nat.zero_add]
  refine s_ldI h q1 (s_ldI h q2 (s_req ⟨by omega, by omega⟩ (s_sm ?_)))
  simp only [Nat.zero_add]
  refine s_st h (by rw [KA_len]; omega) rfl fun w1 _ f1 h1 => s_st h1 (by rw [List.length_set, KA_len]; omega) rfl fun w2 _ f2 h2 => s_chk c_nil (s_req ⟨by omega, by omega⟩ (s_sm ?_))
  rw [KA_set hj d[i]!] at h2
  simp only [Nat.zero_add]
  refine s_st h2 (by rw [KA_len]; simp; omega) rfl fun w3 _ f3 h3 => s_st h3 (by rw [List.length_set, KA_len]; simp; omega) rfl fun w4 _ f4 h4 => s_chk c_nil ?_
  rw [KA_set (by simp; omega) d[j]!] at h4
  exact hk w4 (((f1.trans f2).trans f3).trans f4) h4

/-- cmp(data[i], data[j]). -/
theorem cmpAt {L : Nat} {x y : Int} {i j : Nat} {k : Int → T} (h : Cells w g ty (KA d sp)) (hL : L = d.size) (hx : x = (i : Int)) (hy : y = (j : Int)) (hi : i < d.size) (hj : j < d.size)
    (hk : ∀ w', Fr [] w w' → Cells w' g ty (KA d sp) → (k (cmpK d[i]! d[j]!)).sem Try.prog Q ρ w') :
    (T.req (0 ≤ x ∧ x < ((L : Nat) : Int)) (T.sm (some ⟨g, 0, none⟩) fun n6 n7 => T.ldI .i32 n6 (n7 + Int.toNat x * 2) fun a => T.ldI .i64 n6 (n7 + Int.toNat x * 2 + 1) fun b =>
      T.req (0 ≤ y ∧ y < ((L : Nat) : Int)) (T.sm (some ⟨g, 0, none⟩) fun n8 n9 => T.ldI .i32 n8 (n9 + Int.toNat y * 2) fun c => T.ldI .i64 n8 (n9 + Int.toNat y * 2 + 1) fun e =>
        T.call 41 [.agg ⟨[.int .i32 a, .int .i64 b]⟩, .agg ⟨[.int .i32 c, .int .i64 e]⟩] fun v => T.asI .i64 v k))).sem Try.prog Q ρ w := by
  subst hx hy hL
  obtain ⟨p1, p2⟩ := KA_get (sp := sp) hi
  obtain ⟨q1, q2⟩ := KA_get (sp := sp) hj
  simp only [Int.toNat_natCast]
  refine s_req ⟨by omega, by omega⟩ (s_sm ?_)
  simp only [Nat.zero_add]
  refine s_ldI h p1 (s_ldI h p2 (s_req ⟨by omega, by omega⟩ (s_sm ?_)))
  simp only [Nat.zero_add]
  refine s_ldI h q1 (s_ldI h q2 (s_call (cmpK_c d[i]! d[j]!) ?_))
  rintro _ w1 ⟨rfl, f1⟩
  exact ⟨_, rfl, s_asI (hk w1 f1 (f1.cells h (by simp)))⟩
end
end Go.Proofs.Ytpjcfnnnciknmaa
