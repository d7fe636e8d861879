/- Keys, their order, and the function that compares two; rows of keys in memory, read, exchanged and compared. -/
import Derived.Test.YtpjcfnnnciknmaaGreatTreesS
import Derived.Test.YtpjcfnnnciknmaaGreatSep
import Derived.Sort.AssemblyPlain
set_option linter.unusedVariables false
set_option linter.unusedSimpArgs false
set_option maxRecDepth 100000
namespace Go.Proofs.YtpjcfnnnciknmaaGreat
open Go hiding Expr
open Go.RowKit Tr

structure K where
  t : Int
  r : Int
instance : Inhabited K := ⟨⟨0, 0⟩⟩
theorem K.ext' {a b : K} (h1 : a.t = b.t) (h2 : a.r = b.r) : a = b := by cases a; cases b; simp_all
instance : DecidableEq K := fun a b => if h1 : a.t = b.t then if h2 : a.r = b.r then .isTrue (K.ext' h1 h2) else .isFalse (fun h => h2 (by rw [h])) else .isFalse (fun h => h1 (by rw [h]))

def cmpI (a b : Int) : Int := if a < b then -1 else if a > b then 1 else 0
def cmpK (a b : K) : Int := if cmpI a.t b.t ≠ 0 then cmpI a.t b.t else cmpI a.r b.r
def ltK (a b : K) : Bool := decide (cmpK a b < 0)
def kr (k : K) : List Value := [.int .i32 k.t, .int .i64 k.r]

theorem ltK_iff (a b : K) : ltK a b = true ↔ (a.t < b.t ∨ (a.t = b.t ∧ a.r < b.r)) := by
  unfold ltK cmpK cmpI
  simp only [decide_eq_true_eq]
  repeat' split
  all_goals omega
theorem cmpK_zero {a b : K} : cmpK a b = 0 ↔ a = b := by
  constructor
  · intro h
    unfold cmpK cmpI at h
    refine K.ext' ?_ ?_ <;> (repeat' split at h) <;> omega
  · rintro rfl
    simp [cmpK, cmpI]
theorem swoK : Sort.SWO ltK where
  irrefl x := by
    cases h : ltK x x with
    | false => rfl
    | true => rw [ltK_iff] at h; omega
  trans x y z h1 h2 := by rw [ltK_iff] at *; omega
  ntrans x y z h1 h2 := by
    cases h : ltK x z with
    | false => rfl
    | true =>
      rw [ltK_iff] at h
      have h1 : ¬ (ltK x y = true) := by rw [h1]; simp
      have h2 : ¬ (ltK y z = true) := by rw [h2]; simp
      rw [ltK_iff] at h1 h2
      omega
theorem ltK_eq {x y : K} (h1 : ltK x y = false) (h2 : ltK y x = false) : x = y := by
  have h1 : ¬ (ltK x y = true) := by rw [h1]; simp
  have h2 : ¬ (ltK y x = true) := by rw [h2]; simp
  rw [ltK_iff] at h1 h2
  refine K.ext' ?_ ?_ <;> omega

section
variable {w : World}
theorem wrap64 {n : Int} (h1 : -9223372036854775808 ≤ n) (h2 : n ≤ 9223372036854775807) : IntKind.wrap .i64 n = n := by
  simp only [IntKind.wrap, IntKind.min, IntKind.max, IntKind.signed, IntKind.bits]
  simp
  omega
theorem nan32_c (a : Int) : Calls Tryz.prog 85 #[.int .i32 a] w fun e w' => e = .returned (.bool false) ∧ w = w' := by
  apply c85
  exact s_ret ⟨by simp, rfl⟩
theorem nan64_c (a : Int) : Calls Tryz.prog 86 #[.int .i64 a] w fun e w' => e = .returned (.bool false) ∧ w = w' := by
  apply c86
  exact s_ret ⟨by simp, rfl⟩
theorem cmp32_c (a b : Int) : Calls Tryz.prog 66 #[.int .i32 a, .int .i32 b] w fun e w' => e = .returned (.int .i64 (cmpI a b)) ∧ w = w' := by
  apply c66
  refine s_call (nan32_c a) ?_
  rintro _ _ ⟨rfl, rfl⟩
  refine ⟨_, rfl, s_asB (s_call (nan32_c b) ?_)⟩
  rintro _ _ ⟨rfl, rfl⟩
  refine ⟨_, rfl, s_asB (s_false rfl (s_false rfl (s_ite (fun g => s_ret ⟨?_, rfl⟩) (fun g => s_ite (fun g2 => s_ret ⟨?_, rfl⟩) (fun g2 => s_ret ⟨?_, rfl⟩)))))⟩
  all_goals simp only [decide_eq_true_eq, decide_eq_false_iff_not] at *
  all_goals unfold cmpI
  · rw [if_pos g]
  · rw [if_neg g, if_pos g2]
  · rw [if_neg g, if_neg g2]
theorem cmp64_c (a b : Int) : Calls Tryz.prog 67 #[.int .i64 a, .int .i64 b] w fun e w' => e = .returned (.int .i64 (cmpI a b)) ∧ w = w' := by
  apply c67
  refine s_call (nan64_c a) ?_
  rintro _ _ ⟨rfl, rfl⟩
  refine ⟨_, rfl, s_asB (s_call (nan64_c b) ?_)⟩
  rintro _ _ ⟨rfl, rfl⟩
  refine ⟨_, rfl, s_asB (s_false rfl (s_false rfl (s_ite (fun g => s_ret ⟨?_, rfl⟩) (fun g => s_ite (fun g2 => s_ret ⟨?_, rfl⟩) (fun g2 => s_ret ⟨?_, rfl⟩)))))⟩
  all_goals simp only [decide_eq_true_eq, decide_eq_false_iff_not] at *
  all_goals unfold cmpI
  · rw [if_pos g]
  · rw [if_neg g, if_pos g2]
  · rw [if_neg g, if_neg g2]
theorem or_c {r : Nat} {ty : TypeId} {x y : Int} (h : Cells w r ty [.int .i64 x, .int .i64 y]) : Calls Tryz.prog 65 #[.slice (some ⟨r, 0, none⟩) 2 2] w fun e w' => e = .returned (.int .i64 (if x ≠ 0 then x else y)) ∧ w = w' := by
  apply c65
  refine s_loop (fun vs W => w = W ∧ ∃ i : Nat, vs = [.int .i64 i] ∧ i ≤ 2 ∧ (0 < i → x = 0) ∧ (1 < i → y = 0)) (fun vs _ => 2 - (intOf (vs.getD 0 undef)).toNat) ⟨rfl, 0, rfl, by omega, by omega, by omega⟩ ?_
  rintro _ j _ ⟨rfl, i, rfl, hi, h1, h2⟩
  refine s_asI (s_ite (fun g => ?_) (fun g => ?_))
  · simp only [decide_eq_true_eq] at g
    obtain rfl | rfl : i = 0 ∨ i = 1 := by omega
    · refine s_req (by omega) (s_sm (s_ldI h rfl (s_ite (fun g1 => s_ret ⟨?_, rfl⟩) (fun g1 => s_next (by first | exact ⟨rfl, rfl⟩ | trivial) ?_))))
      · simp only [bne_iff_ne, ne_eq] at g1; rw [if_pos g1]
      · simp only [bne_eq_false_iff_eq] at g1
        simp only [if_true]
        exact ⟨⟨trivial, 1, rfl, by omega, fun _ => g1, by omega⟩, by decide⟩
    · refine s_req (by omega) (s_sm (s_ldI h rfl (s_ite (fun g1 => s_ret ⟨?_, rfl⟩) (fun g1 => s_next (by first | exact ⟨rfl, rfl⟩ | trivial) ?_))))
      · rw [if_neg (by simp [h1])]
      · simp only [bne_eq_false_iff_eq] at g1
        simp only [if_true]
        exact ⟨⟨trivial, 2, rfl, by omega, fun _ => h1 (by omega), fun _ => g1⟩, by decide⟩
  · simp only [decide_eq_false_iff_not] at g
    have e1 := h1 (by omega)
    have e2 := h2 (by omega)
    exact s_ret ⟨by rw [e1, e2]; rfl, rfl⟩
theorem cmpK_c (a b : K) : Calls Tryz.prog 48 #[.agg ⟨kr a⟩, .agg ⟨kr b⟩] w fun e w' => e = .returned (.int .i64 (cmpK a b)) ∧ Fr [] w w' := by
  apply c48
  refine h_new (Has.init w) fun n4 u H => ?_
  (refine h_new H fun n5 u H => ?_)
  refine h_drew H fun u H => ?_
  refine h_ldI H (by repeat (first | exact pick_head | apply pick_tail | apply pick_app)) rfl (h_ldI H (by repeat (first | exact pick_head | apply pick_tail | apply pick_app)) rfl (h_ldI H (by repeat (first | exact pick_head | apply pick_tail | apply pick_app)) rfl (h_ldI H (by repeat (first | exact pick_head | apply pick_tail | apply pick_app)) rfl (s_call (cmp32_c _ _) ?_))))
  rintro _ _ ⟨rfl, rfl⟩
  refine ⟨_, rfl, s_asI (s_chk (hc_cons H (by repeat (first | exact pick_head | apply pick_tail | apply pick_app)) rfl (hc_cons H (by repeat (first | exact pick_head | apply pick_tail | apply pick_app)) rfl c_nil)) (s_call (cmp64_c _ _) ?_))⟩
  rintro _ _ ⟨rfl, rfl⟩
  refine ⟨_, rfl, s_asI (s_chk c_nil ?_)⟩
  (refine h_new H fun n14 u H => ?_)
  refine s_chk c_nil (s_call (or_c (H.cells (by repeat (first | exact pick_head | apply pick_tail | apply pick_app)))) ?_)
  rintro _ _ ⟨rfl, rfl⟩
  exact ⟨_, rfl, s_asI (s_chk c_nil (s_ret ⟨rfl, H.base⟩))⟩
end

/-! ### Rows of keys -/
def KA (d : Array K) (sp : List Value) : List Value := (d.toList.map kr).flatten ++ sp
section
variable {d : Array K} {sp : List Value} {i : Nat}
theorem kr2 (l : List K) : ∀ r ∈ l.map kr, r.length = 2 := by
  intro r hr
  obtain ⟨k, _, rfl⟩ := List.mem_map.1 hr
  rfl
theorem KA_len : (KA d sp).length = d.size * 2 + sp.length := by
  unfold KA; rw [List.length_append, flat_len (kr2 _), List.length_map]; simp
theorem arr_get (h : i < d.size) : d[i]! = d[i] := getElem!_pos d i h
theorem KA_get (h : i < d.size) : (KA d sp)[i * 2]? = some (.int .i32 d[i]!.t) ∧ (KA d sp)[i * 2 + 1]? = some (.int .i64 d[i]!.r) := by
  rw [arr_get h]
  have hg : (d.toList.map kr)[i]? = some (kr d[i]) := by simp [h]
  have h0 := flat_get (kr2 d.toList) (i := i) (j := 0) hg rfl
  have h1 := flat_get (kr2 d.toList) (i := i) (j := 1) hg rfl
  rw [Nat.add_zero] at h0
  unfold KA
  rw [List.getElem?_append_left (List.getElem?_eq_some_iff.1 h0).1, List.getElem?_append_left (List.getElem?_eq_some_iff.1 h1).1]
  exact ⟨h0, h1⟩
theorem KA_set (h : i < d.size) (k : K) : (((KA d sp).set (i * 2) (.int .i32 k.t)).set (i * 2 + 1) (.int .i64 k.r)) = KA (d.setIfInBounds i k) sp := by
  have hl : (d.toList.map kr).flatten.length = d.size * 2 := by rw [flat_len (kr2 d.toList)]; simp
  have hg : (d.toList.map kr)[i]? = some (kr d[i]) := by simp [h]
  have e1 := flat_set (kr2 d.toList) (i := i) (j := 0) (v := .int .i32 k.t) hg (by omega)
  have hr1 : ∀ r ∈ (d.toList.map kr).set i ((kr d[i]).set 0 (.int .i32 k.t)), r.length = 2 := fun r hr => by
    rcases List.mem_or_eq_of_mem_set hr with hr | rfl
    · exact kr2 _ r hr
    · rfl
  have e2 := flat_set hr1 (i := i) (j := 1) (r := (kr d[i]).set 0 (.int .i32 k.t)) (v := .int .i64 k.r) (by simp [h]) (by omega)
  rw [Nat.add_zero] at e1
  unfold KA
  rw [List.set_append_left _ _ (by rw [hl]; omega), e1, List.set_append_left _ _ (by rw [flat_len hr1]; simp; omega), e2]
  simp only [List.set_set, Array.toList_setIfInBounds, List.map_set]
  rfl
end

section
variable {Q : Ending → World → Prop} {ρ : Lv} {w : World} {g : Nat} {ty : TypeId} {d : Array K} {sp : List Value}
/-- data[j], data[i] = data[i], data[j]. -/
theorem swapAt {L : Nat} {x y : Int} {i j : Nat} {k : T} (h : Cells w g ty (KA d sp)) (hL : L = d.size) (hx : x = (i : Int)) (hy : y = (j : Int)) (hi : i < d.size) (hj : j < d.size)
    (hk : ∀ w', Fr [g] w w' → Cells w' g ty (KA (Sort.swp d j i) sp) → k.sem Tryz.prog Q ρ w') :
    (T.req (0 ≤ x ∧ x < ((L : Nat) : Int)) (T.sm (some ⟨g, 0, none⟩) fun n6 n7 => T.ldI .i32 n6 (n7 + Int.toNat x * 2) fun a => T.ldI .i64 n6 (n7 + Int.toNat x * 2 + 1) fun b =>
      T.req (0 ≤ y ∧ y < ((L : Nat) : Int)) (T.sm (some ⟨g, 0, none⟩) fun n8 n9 => T.ldI .i32 n8 (n9 + Int.toNat y * 2) fun c => T.ldI .i64 n8 (n9 + Int.toNat y * 2 + 1) fun e =>
        T.req (0 ≤ y ∧ y < ((L : Nat) : Int)) (T.sm (some ⟨g, 0, none⟩) fun n10 n11 => T.st n10 (n11 + Int.toNat y * 2) (.int .i32 a) (T.st n10 (n11 + Int.toNat y * 2 + 1) (.int .i64 b) (T.chk []
          (T.req (0 ≤ x ∧ x < ((L : Nat) : Int)) (T.sm (some ⟨g, 0, none⟩) fun n12 n13 => T.st n12 (n13 + Int.toNat x * 2) (.int .i32 c) (T.st n12 (n13 + Int.toNat x * 2 + 1) (.int .i64 e) (T.chk [] k)))))))))).sem Tryz.prog Q ρ w := by
  subst hx hy hL
  obtain ⟨p1, p2⟩ := KA_get (sp := sp) hi
  obtain ⟨q1, q2⟩ := KA_get (sp := sp) hj
  simp only [Int.toNat_natCast]
  refine s_req ⟨by omega, by omega⟩ (s_sm ?_)
  simp only [Nat.zero_add]
  refine s_ldI h p1 (s_ldI h p2 (s_req ⟨by omega, by omega⟩ (s_sm ?_)))
  simp only [Nat.zero_add]
  refine s_ldI h q1 (s_ldI h q2 (s_req ⟨by omega, by omega⟩ (s_sm ?_)))
  simp only [Nat.zero_add]
  refine s_st h (by rw [KA_len]; omega) rfl fun w1 _ f1 h1 => s_st h1 (by rw [List.length_set, KA_len]; omega) rfl fun w2 _ f2 h2 => s_chk c_nil (s_req ⟨by omega, by omega⟩ (s_sm ?_))
  rw [KA_set hj d[i]!] at h2
  simp only [Nat.zero_add]
  refine s_st h2 (by rw [KA_len]; simp; omega) rfl fun w3 _ f3 h3 => s_st h3 (by rw [List.length_set, KA_len]; simp; omega) rfl fun w4 _ f4 h4 => s_chk c_nil ?_
  rw [KA_set (by simp; omega) d[j]!] at h4
  exact hk w4 (((f1.trans f2).trans f3).trans f4) h4

/-- cmp(data[i], data[j]). -/
theorem cmpAt {L : Nat} {x y : Int} {i j : Nat} {k : Int → T} (h : Cells w g ty (KA d sp)) (hL : L = d.size) (hx : x = (i : Int)) (hy : y = (j : Int)) (hi : i < d.size) (hj : j < d.size)
    (hk : ∀ w', Fr [] w w' → Cells w' g ty (KA d sp) → (k (cmpK d[i]! d[j]!)).sem Tryz.prog Q ρ w') :
    (T.req (0 ≤ x ∧ x < ((L : Nat) : Int)) (T.sm (some ⟨g, 0, none⟩) fun n6 n7 => T.ldI .i32 n6 (n7 + Int.toNat x * 2) fun a => T.ldI .i64 n6 (n7 + Int.toNat x * 2 + 1) fun b =>
      T.req (0 ≤ y ∧ y < ((L : Nat) : Int)) (T.sm (some ⟨g, 0, none⟩) fun n8 n9 => T.ldI .i32 n8 (n9 + Int.toNat y * 2) fun c => T.ldI .i64 n8 (n9 + Int.toNat y * 2 + 1) fun e =>
        T.call 48 [.agg ⟨[.int .i32 a, .int .i64 b]⟩, .agg ⟨[.int .i32 c, .int .i64 e]⟩] fun v => T.asI .i64 v k))).sem Tryz.prog Q ρ w := by
  subst hx hy hL
  obtain ⟨p1, p2⟩ := KA_get (sp := sp) hi
  obtain ⟨q1, q2⟩ := KA_get (sp := sp) hj
  simp only [Int.toNat_natCast]
  refine s_req ⟨by omega, by omega⟩ (s_sm ?_)
  simp only [Nat.zero_add]
  refine s_ldI h p1 (s_ldI h p2 (s_req ⟨by omega, by omega⟩ (s_sm ?_)))
  simp only [Nat.zero_add]
  refine s_ldI h q1 (s_ldI h q2 (s_call (cmpK_c d[i]! d[j]!) ?_))
  rintro _ w1 ⟨rfl, f1⟩
  exact ⟨_, rfl, s_asI (hk w1 f1 (f1.cells h (by simp)))⟩
end
end Go.Proofs.YtpjcfnnnciknmaaGreat

/- slices.SortFunc at keys, its callees, first part: insertion sort, the heap, reversal, the pivot, the patterns. -/
set_option linter.unusedVariables false
set_option linter.unusedSimpArgs false
set_option maxRecDepth 100000
namespace Go.Proofs.YtpjcfnnnciknmaaGreat
open Go hiding Expr
open Go.RowKit Tr
open Go.Sort (insOuter insInner insertionSort siftDown heapBuild heapPop heapSort reverseLoop reverseRange swp PermIn SortedIn Below)

def many : Nat := 2305843009213693952
theorem w_add {i j : Nat} (h : i + j < 9223372036854775807) : IntKind.wrap .i64 ((i : Int) + (j : Int)) = ((i + j : Nat) : Int) := by rw [wrap64 (by omega) (by omega)]; rfl
theorem w_succ {i : Nat} (h : i < 9223372036854775807) : IntKind.wrap .i64 ((i : Int) + 1) = ((i + 1 : Nat) : Int) := by rw [wrap64 (by omega) (by omega)]; rfl
theorem w_sub {i j : Nat} (h : j ≤ i) (h2 : i < 9223372036854775807) : IntKind.wrap .i64 ((i : Int) - (j : Int)) = ((i - j : Nat) : Int) := by rw [wrap64 (by omega) (by omega)]; omega
theorem w_pred {i : Nat} (h : 1 ≤ i) (h2 : i < 9223372036854775807) : IntKind.wrap .i64 ((i : Int) - 1) = ((i - 1 : Nat) : Int) := by rw [wrap64 (by omega) (by omega)]; omega
theorem ltK_of (a b : K) : decide (cmpK a b < 0) = ltK a b := rfl
theorem swp_sz (d : Array K) (i j : Nat) : (swp d i j).size = d.size := by simp [swp]

section
variable {w : World} {g cap L : Nat} {ty : TypeId} {d : Array K} {sp : List Value}

theorem ins_c (h : Cells w g ty (KA d sp)) (hL : L = d.size) {a b : Nat} (hab : a ≤ b) (hb : b ≤ d.size) (hsz : d.size < many) :
    Calls Tryz.prog 101 #[.slice (some ⟨g, 0, none⟩) L cap, .int .i64 a, .int .i64 b, .func (.func 48) #[] #[]] w fun e w' =>
      (∃ v, e = .returned v) ∧ Fr [g] w w' ∧ Cells w' g ty (KA (insertionSort ltK d a b) sp) := by
  apply c101
  simp only [many] at hsz
  refine s_loop (fun vs W => ∃ (i : Nat) (d' : Array K), vs = [.int .i64 i] ∧ i ≤ b + 1 ∧ d'.size = d.size ∧ insOuter ltK a b i d' = insertionSort ltK d a b ∧ Fr [g] w W ∧ Cells W g ty (KA d' sp))
    (fun vs _ => b - (intOf (vs.getD 0 undef)).toNat) ⟨a + 1, d, by rw [w_succ (by omega)], by omega, rfl, rfl, Fr.refl _ _, h⟩ ?_
  rintro _ j W ⟨i, d1, rfl, hi, hs1, he, hf, h1⟩
  refine s_asI (s_ite (fun g1 => ?_) (fun g1 => ?_))
  · simp only [decide_eq_true_eq] at g1
    have hi' : i < b := by omega
    rw [insOuter, if_pos hi'] at he
    refine s_loop (fun vs W => ∃ (j : Nat) (d2 : Array K), vs = [.int .i64 j] ∧ j ≤ i ∧ d2.size = d.size ∧ insInner ltK a j d2 = insInner ltK a i d1 ∧ Fr [g] w W ∧ Cells W g ty (KA d2 sp))
      (fun vs _ => (intOf (vs.getD 0 undef)).toNat) ⟨i, d1, rfl, by omega, hs1, rfl, hf, h1⟩ ?_
    rintro _ j2 W2 ⟨j, d2, rfl, hj, hs2, he2, hf2, h2⟩
    refine s_asI (s_drew fun W3 _ f3 => ?_)
    have h3 := f3.cells h2 (by simp)
    have hf3 := hf2.trans f3.nil
    have leave : ∀ {W : World}, insInner ltK a j d2 = d2 → Fr [g] w W → Cells W g ty (KA d2 sp) →
        (∃ (i' : Nat) (d' : Array K), ([.int .i64 (IntKind.wrap .i64 ((i : Int) + 1))] : List Value) = [.int .i64 i'] ∧ i' ≤ b + 1 ∧ d'.size = d.size ∧ insOuter ltK a b i' d' = insertionSort ltK d a b ∧ Fr [g] w W ∧ Cells W g ty (KA d' sp)) ∧
          b - (intOf (([.int .i64 (IntKind.wrap .i64 ((i : Int) + 1))] : List Value).getD 0 undef)).toNat < b - (intOf (([.int .i64 i] : List Value).getD 0 undef)).toNat := by
      intro W hid hf hc
      refine ⟨⟨i + 1, d2, by rw [w_succ (by omega)], by omega, hs2, ?_, hf, hc⟩, by rw [w_succ (by omega)]; simp [intOf] <;> omega⟩
      rw [← he2, hid] at he
      exact he
    refine s_ite (fun g2 => ?_) (fun g2 => s_chk c_nil (s_next (by first | exact ⟨rfl, rfl⟩ | trivial) ?_))
    · simp only [decide_eq_true_eq] at g2
      refine cmpAt h3 (by omega) rfl (w_pred (by omega) (by omega)) (by omega) (by omega) fun W4 f4 h4 => s_chk c_nil ?_
      obtain ⟨j', rfl⟩ : ∃ j', j = j' + 1 := ⟨j - 1, by omega⟩
      simp only [Nat.add_sub_cancel] at h4 ⊢
      rw [ltK_of]
      refine s_ite (fun g3 => s_drew fun W5 _ f5 => ?_) (fun g3 => s_next (by first | exact ⟨rfl, rfl⟩ | trivial) ?_)
      · rw [insInner, if_pos (by simp [g3] <;> omega)] at he2
        refine swapAt (i := j') (j := j' + 1) (f5.cells h4 (by simp)) (by omega) (w_pred (by omega) (by omega)) rfl (by omega) (by omega) fun W6 f6 h6 => s_next (by first | exact ⟨rfl, rfl⟩ | trivial) ?_
        simp only [if_true]
        exact ⟨⟨j', swp d2 (j' + 1) j', by rw [w_pred (by omega) (by omega)] <;> rfl, by omega, by rw [swp_sz]; exact hs2, he2, ((hf3.trans f4.nil).trans f5.nil).trans f6, h6⟩, by rw [w_pred (by omega) (by omega)]; simp [intOf]⟩
      · simp (config := { decide := true }) only [if_true, if_false]
        exact leave (by rw [insInner, if_neg (by simp [g3])]) (hf3.trans f4.nil) h4
    · simp only [decide_eq_false_iff_not] at g2
      simp (config := { decide := true }) only [if_true, if_false]
      refine leave ?_ hf3 h3
      cases j with
      | zero => rfl
      | succ j' => rw [insInner, if_neg (by simp; omega)]
  · simp only [decide_eq_false_iff_not] at g1
    rw [insOuter, if_neg (by omega)] at he
    rw [he] at h1
    exact s_ret ⟨⟨_, rfl⟩, hf, h1⟩

/-- What is left to do behind the choice of the child c. -/
def siftAt (hi first root c : Nat) (d : Array K) : Array K := if !ltK d[first + root]! d[first + c]! then d else siftDown ltK hi first c (swp d (first + root) (first + c))
theorem siftDown_eq (hi first root : Nat) (d : Array K) : siftDown ltK hi first root d = if 2 * root + 1 ≥ hi then d else
    if 2 * root + 2 < hi ∧ ltK d[first + (2 * root + 1)]! d[first + (2 * root + 2)]! = true then siftAt hi first root (2 * root + 2) d else siftAt hi first root (2 * root + 1) d := by
  rw [siftDown]
  unfold siftAt
  simp only [Nat.add_assoc, Bool.and_eq_true, decide_eq_true_eq]
  by_cases h1 : 2 * root + 1 ≥ hi
  · rw [dif_pos h1, if_pos h1]
  · rw [dif_neg h1, if_neg h1]
    by_cases h2 : 2 * root + (1 + 1) < hi ∧ ltK d[first + (2 * root + 1)]! d[first + (2 * root + (1 + 1))]! = true
    · have h3 : 2 * root + 2 < hi := h2.1
      rw [if_pos h2, if_pos h2, dif_pos h3]
    · rw [if_neg h2, if_neg h2]

theorem sift_c (h : Cells w g ty (KA d sp)) (hL : L = d.size) {lo hi first : Nat} (hb : first + hi ≤ d.size) (hlo : lo ≤ d.size) (hsz : d.size < many) :
    Calls Tryz.prog 113 #[.slice (some ⟨g, 0, none⟩) L cap, .int .i64 lo, .int .i64 hi, .int .i64 first, .func (.func 48) #[] #[]] w fun e w' =>
      (∃ v, e = .returned v) ∧ Fr [g] w w' ∧ Cells w' g ty (KA (siftDown ltK hi first lo d) sp) := by
  apply c113
  simp only [many] at hsz
  refine s_loop (fun vs W => ∃ (r : Nat) (d' : Array K), vs = [.int .i64 r] ∧ r ≤ d.size ∧ d'.size = d.size ∧ siftDown ltK hi first r d' = siftDown ltK hi first lo d ∧ Fr [g] w W ∧ Cells W g ty (KA d' sp))
    (fun vs _ => d.size - (intOf (vs.getD 0 undef)).toNat) ⟨lo, d, rfl, hlo, rfl, rfl, Fr.refl _ _, h⟩ ?_
  rintro _ j W ⟨r, d1, rfl, hr, hs1, he, hf, h1⟩
  have w1 : IntKind.wrap .i64 (IntKind.wrap .i64 (2 * (r : Int)) + 1) = ((2 * r + 1 : Nat) : Int) := by
    rw [wrap64 (n := 2 * (r : Int)) (by omega) (by omega), wrap64 (by omega) (by omega)]; rfl
  have w2 : IntKind.wrap .i64 (IntKind.wrap .i64 (IntKind.wrap .i64 (2 * (r : Int)) + 1) + 1) = ((2 * r + 2 : Nat) : Int) := by
    rw [w1, wrap64 (by omega) (by omega)]; rfl
  rw [siftDown_eq] at he
  refine s_asI (s_ite (fun g1 => ?_) (fun g1 => ?_))
  · rw [w1] at g1
    simp only [decide_eq_true_eq] at g1
    rw [if_pos (by omega)] at he
    rw [he] at h1
    exact s_ret ⟨⟨_, rfl⟩, hf, h1⟩
  · rw [w1] at g1
    simp only [decide_eq_false_iff_not] at g1
    rw [if_neg (by omega)] at he
    refine s_blk (fun vs W => ∃ c : Nat, vs = [.int .i64 c] ∧ r < c ∧ c < hi ∧ siftAt hi first r c d1 = siftDown ltK hi first lo d ∧ Fr [g] w W ∧ Cells W g ty (KA d1 sp)) ?_ ?_
    · rintro _ j2 W2 ⟨c, rfl, hrc, hch, he2, hf2, h2⟩
      refine s_asI (s_drew fun W3 _ f3 => ?_)
      have h3 := f3.cells h2 (by simp)
      have hf3 := hf2.trans f3.nil
      refine cmpAt (i := first + r) (j := first + c) h3 (by omega) (w_add (by omega)) (w_add (by omega)) (by omega) (by omega) fun W4 f4 h4 => s_chk c_nil ?_
      rw [ltK_of]
      unfold siftAt at he2
      refine s_ite (fun g3 => ?_) (fun g3 => s_drew fun W5 _ f5 => ?_)
      · rw [if_pos g3] at he2
        rw [he2] at h4
        exact s_ret ⟨⟨_, rfl⟩, hf3.trans f4.nil, h4⟩
      · rw [if_neg (by rw [g3]; simp)] at he2
        refine swapAt (i := first + c) (j := first + r) (f5.cells h4 (by simp)) (by omega) (w_add (by omega)) (w_add (by omega)) (by omega) (by omega) fun W6 f6 h6 => s_next (by first | exact ⟨rfl, rfl⟩ | trivial) ?_
        simp (config := { decide := true }) only [if_true, if_false]
        exact ⟨⟨c, _, rfl, by omega, by rw [swp_sz]; exact hs1, he2, ((hf3.trans f4.nil).trans f5.nil).trans f6, h6⟩, by simp [intOf] <;> omega⟩
    · refine s_drew fun W3 _ f3 => ?_
      have h3 := f3.cells h1 (by simp)
      have hf3 := hf.trans f3.nil
      rw [w2, w1]
      refine s_ite (fun g2 => ?_) (fun g2 => s_chk c_nil (s_next (by first | exact ⟨rfl, rfl⟩ | trivial) ?_))
      · simp only [decide_eq_true_eq] at g2
        have w3 : IntKind.wrap .i64 (IntKind.wrap .i64 ((first : Int) + ((2 * r + 1 : Nat) : Int)) + 1) = ((first + (2 * r + 2) : Nat) : Int) := by
          rw [w_add (by omega), w_succ (by omega)]; rfl
        refine cmpAt (i := first + (2 * r + 1)) (j := first + (2 * r + 2)) h3 (by omega) (w_add (by omega)) w3 (by omega) (by omega) fun W4 f4 h4 => s_chk c_nil ?_
        rw [ltK_of]
        refine s_ite (fun g3 => s_next (by first | exact ⟨rfl, rfl⟩ | trivial) ?_) (fun g3 => s_next (by first | exact ⟨rfl, rfl⟩ | trivial) ?_)
        · rw [if_pos ⟨by omega, g3⟩] at he
          simp only [if_true]
          exact ⟨2 * r + 2, rfl, by omega, by omega, he, hf3.trans f4.nil, h4⟩
        · rw [if_neg (by rw [g3]; simp)] at he
          simp only [if_true]
          exact ⟨2 * r + 1, rfl, by omega, by omega, he, hf3.trans f4.nil, h4⟩
      · simp only [decide_eq_false_iff_not] at g2
        rw [if_neg (fun hc => g2 (by have := hc.1; omega))] at he
        simp only [if_true]
        exact ⟨2 * r + 1, rfl, by omega, by omega, he, hf3, h3⟩

theorem sift_sz (hi first : Nat) : ∀ (n root : Nat) (d : Array K), hi - root ≤ n → (siftDown ltK hi first root d).size = d.size := by
  intro n
  induction n with
  | zero => intro root d h; rw [siftDown_eq, if_pos (by omega)]
  | succ n ih =>
    intro root d h
    rw [siftDown_eq]
    split
    · rfl
    · split
      · unfold siftAt; split
        · rfl
        · rw [ih _ _ (by omega), swp_sz]
      · unfold siftAt; split
        · rfl
        · rw [ih _ _ (by omega), swp_sz]

theorem heap_c (h : Cells w g ty (KA d sp)) (hL : L = d.size) {a b : Nat} (hab : a < b) (hb : b ≤ d.size) (hsz : d.size < many) :
    Calls Tryz.prog 102 #[.slice (some ⟨g, 0, none⟩) L cap, .int .i64 a, .int .i64 b, .func (.func 48) #[] #[]] w fun e w' =>
      (∃ v, e = .returned v) ∧ Fr [g] w w' ∧ Cells w' g ty (KA (heapSort ltK d a b) sp) := by
  apply c102
  have hsz0 := hsz
  simp only [many] at hsz
  have wn : IntKind.wrap .i64 ((b : Int) - (a : Int)) = ((b - a : Nat) : Int) := w_sub (by omega) (by omega)
  have wn1 : IntKind.wrap .i64 (((b - a : Nat) : Int) - 1) = ((b - a - 1 : Nat) : Int) := w_pred (by omega) (by omega)
  unfold t102
  rw [wn, wn1, show Int.tdiv ((b - a - 1 : Nat) : Int) 2 = (((b - a - 1) / 2 : Nat) : Int) from rfl, wrap64 (n := (((b - a - 1) / 2 : Nat) : Int)) (by omega) (by omega)]
  refine s_req (by decide) ?_
  refine s_loop (fun vs W => ∃ (k : Nat) (d' : Array K), vs = [.int .i64 ((k : Int) - 1)] ∧ k ≤ (b - a - 1) / 2 + 1 ∧ d'.size = d.size ∧ heapPop ltK a (b - a) (heapBuild ltK (b - a) a k d') = heapSort ltK d a b ∧ Fr [g] w W ∧ Cells W g ty (KA d' sp))
    (fun vs _ => ((intOf (vs.getD 0 undef)) + 1).toNat) ⟨(b - a - 1) / 2 + 1, d, by simp <;> omega, by omega, rfl, rfl, Fr.refl _ _, h⟩ ?_
  rintro _ j W ⟨k, d1, rfl, hk, hs1, he, hf, h1⟩
  refine s_asI (s_ite (fun g1 => ?_) (fun g1 => ?_))
  · simp only [decide_eq_true_eq] at g1
    obtain ⟨k', rfl⟩ : ∃ k', k = k' + 1 := ⟨k - 1, by omega⟩
    have hcast : (((k' + 1 : Nat) : Int) - 1) = (k' : Int) := by omega
    rw [hcast]
    refine s_call (sift_c (first := a) (lo := k') (hi := b - a) h1 (by omega) (by omega) (by omega) (by rw [hs1]; exact hsz0)) ?_
    rintro _ W2 ⟨⟨v, rfl⟩, f2, h2⟩
    refine ⟨_, rfl, s_next (by first | exact ⟨rfl, rfl⟩ | trivial) ?_⟩
    simp only [if_true]
    exact ⟨⟨k', _, by rw [wrap64 (by omega) (by omega)], by omega, by rw [sift_sz _ _ _ _ _ (Nat.le_refl _)]; exact hs1, he, hf.trans f2, h2⟩, by rw [wrap64 (by omega) (by omega)]; simp [intOf] <;> omega⟩
  · simp only [decide_eq_false_iff_not] at g1
    obtain rfl : k = 0 := by omega
    simp only [heapBuild] at he
    refine s_loop (fun vs W => ∃ (k : Nat) (d' : Array K), vs = [.int .i64 ((k : Int) - 1)] ∧ k ≤ b - a ∧ d'.size = d.size ∧ heapPop ltK a k d' = heapSort ltK d a b ∧ Fr [g] w W ∧ Cells W g ty (KA d' sp))
      (fun vs _ => ((intOf (vs.getD 0 undef)) + 1).toNat) ⟨b - a, d1, by simp <;> omega, by omega, hs1, he, hf, h1⟩ ?_
    rintro _ j W ⟨k, d1, rfl, hk, hs1, he, hf, h1⟩
    refine s_asI (s_ite (fun g1 => ?_) (fun g1 => ?_))
    · simp only [decide_eq_true_eq] at g1
      obtain ⟨k', rfl⟩ : ∃ k', k = k' + 1 := ⟨k - 1, by omega⟩
      have hcast : (((k' + 1 : Nat) : Int) - 1) = (k' : Int) := by omega
      rw [hcast]
      refine s_drew fun W2 _ f2 => swapAt (i := a + k') (j := a) (f2.cells h1 (by simp)) (by omega) (w_add (by omega)) rfl (by omega) (by omega) fun W3 f3 h3 => ?_
      refine s_call (sift_c (first := a) (lo := 0) (hi := k') h3 (by rw [swp_sz]; omega) (by rw [swp_sz]; omega) (by omega) (by rw [swp_sz, hs1]; exact hsz0)) ?_
      rintro _ W4 ⟨⟨v, rfl⟩, f4, h4⟩
      refine ⟨_, rfl, s_next (by first | exact ⟨rfl, rfl⟩ | trivial) ?_⟩
      simp only [if_true]
      exact ⟨⟨k', _, by rw [wrap64 (by omega) (by omega)], by omega, by rw [sift_sz _ _ _ _ _ (Nat.le_refl _), swp_sz]; exact hs1, he, ((hf.trans f2.nil).trans f3).trans f4, h4⟩, by rw [wrap64 (by omega) (by omega)]; simp [intOf] <;> omega⟩
    · simp only [decide_eq_false_iff_not] at g1
      obtain rfl : k = 0 := by omega
      simp only [heapPop] at he
      rw [he] at h1
      exact s_ret ⟨⟨_, rfl⟩, hf, h1⟩

theorem rev_c (h : Cells w g ty (KA d sp)) (hL : L = d.size) {a b : Nat} (hab : a < b) (hb : b ≤ d.size) (hsz : d.size < many) :
    Calls Tryz.prog 105 #[.slice (some ⟨g, 0, none⟩) L cap, .int .i64 a, .int .i64 b, .func (.func 48) #[] #[]] w fun e w' =>
      (∃ v, e = .returned v) ∧ Fr [g] w w' ∧ Cells w' g ty (KA (reverseRange d a b) sp) := by
  apply c105
  simp only [many] at hsz
  refine s_loop (fun vs W => ∃ (i j : Nat) (d' : Array K), vs = [.int .i64 i, .int .i64 j] ∧ i ≤ j + 1 ∧ j < b ∧ d'.size = d.size ∧ reverseLoop i j d' = reverseRange d a b ∧ Fr [g] w W ∧ Cells W g ty (KA d' sp))
    (fun vs _ => (intOf (vs.getD 1 undef) + 1 - intOf (vs.getD 0 undef)).toNat) ⟨a, b - 1, d, by rw [w_pred (by omega) (by omega)], by omega, by omega, rfl, rfl, Fr.refl _ _, h⟩ ?_
  rintro _ j0 W ⟨i, j, d1, rfl, hij, hj, hs1, he, hf, h1⟩
  rw [reverseLoop] at he
  refine s_asI (s_asI (s_ite (fun g1 => ?_) (fun g1 => ?_)))
  · simp only [decide_eq_true_eq] at g1
    rw [if_pos (by omega)] at he
    refine s_drew fun W2 _ f2 => swapAt (i := j) (j := i) (f2.cells h1 (by simp)) (by omega) rfl rfl (by omega) (by omega) fun W3 f3 h3 => s_next (by first | exact ⟨rfl, rfl⟩ | trivial) ?_
    simp only [if_true]
    exact ⟨⟨i + 1, j - 1, _, by rw [w_succ (by omega), w_pred (by omega) (by omega)], by omega, by omega, by rw [swp_sz]; exact hs1, he, (hf.trans f2.nil).trans f3, h3⟩, by rw [w_succ (by omega), w_pred (by omega) (by omega)]; simp [intOf] <;> omega⟩
  · simp only [decide_eq_false_iff_not] at g1
    rw [if_neg (by omega)] at he
    rw [he] at h1
    exact s_ret ⟨⟨_, rfl⟩, hf, h1⟩

/-! ### The pivot: only that it lies within -/
theorem ord_c (h : Cells w g ty (KA d sp)) (hL : L = d.size) {a b s : Nat} {n : Int} {t2 : TypeId} (ha : a < d.size) (hb : b < d.size) (hs : Cells w s t2 [.int .i64 n]) (hgs : s ≠ g) :
    Calls Tryz.prog 117 #[.slice (some ⟨g, 0, none⟩) L cap, .int .i64 a, .int .i64 b, .pointer (some ⟨s, 0, none⟩), .func (.func 48) #[] #[]] w fun e w' =>
      ∃ (x y : Nat) (m : Int), ((x = a ∧ y = b) ∨ (x = b ∧ y = a)) ∧ e = .returned (.tuple ⟨[.int .i64 x, .int .i64 y]⟩) ∧ Fr [s] w w' ∧ Cells w' s t2 [.int .i64 m] := by
  apply c117
  refine s_drew fun W1 _ f1 => cmpAt (f1.cells h (by simp)) hL rfl rfl (by omega) (by omega) fun W2 f2 h2 => s_chk c_nil ?_
  have hs2 := (f1.trans f2).cells hs (by simp)
  refine s_ite (fun g1 => ?_) (fun g1 => ?_)
  · refine s_ldI hs2 rfl (s_st hs2 (by simp) rfl fun W3 _ f3 h3 => s_ret ⟨b, a, _, .inr ⟨rfl, rfl⟩, rfl, (f1.nil.trans f2.nil).trans f3, h3⟩)
  · exact s_ret ⟨a, b, n, .inl ⟨rfl, rfl⟩, rfl, f1.nil.trans f2.nil, hs2⟩

theorem med_c (h : Cells w g ty (KA d sp)) (hL : L = d.size) {a b c s : Nat} {n : Int} {t2 : TypeId} (ha : a < d.size) (hb : b < d.size) (hc : c < d.size) (hs : Cells w s t2 [.int .i64 n]) (hgs : s ≠ g) :
    Calls Tryz.prog 115 #[.slice (some ⟨g, 0, none⟩) L cap, .int .i64 a, .int .i64 b, .int .i64 c, .pointer (some ⟨s, 0, none⟩), .func (.func 48) #[] #[]] w fun e w' =>
      ∃ (x : Nat) (m : Int), (x = a ∨ x = b ∨ x = c) ∧ e = .returned (.int .i64 x) ∧ Fr [s] w w' ∧ Cells w' s t2 [.int .i64 m] := by
  apply c115
  refine s_call (ord_c h hL ha hb hs hgs) ?_
  rintro _ w1 ⟨x1, y1, m1, h1, rfl, f1, s1⟩
  have k1 := f1.cells h (by simp; omega)
  refine ⟨_, rfl, s_asU (s_req rfl (s_asI (s_asI (s_call (ord_c (a := y1) (b := c) k1 hL (by omega) hc s1 hgs) ?_))))⟩
  rintro _ w2 ⟨x2, y2, m2, h2, rfl, f2, s2⟩
  have k2 := f2.cells k1 (by simp; omega)
  refine ⟨_, rfl, s_asU (s_req rfl (s_asI (s_asI (s_call (ord_c (a := x1) (b := x2) k2 hL (by omega) (by omega) s2 hgs) ?_))))⟩
  rintro _ w3 ⟨x3, y3, m3, h3, rfl, f3, s3⟩
  exact ⟨_, rfl, s_asU (s_req rfl (s_asI (s_asI (s_ret ⟨y3, m3, by omega, rfl, (f1.trans f2).trans f3, s3⟩))))⟩

theorem madj_c (h : Cells w g ty (KA d sp)) (hL : L = d.size) {a s : Nat} {n : Int} {t2 : TypeId} (h1 : 1 ≤ a) (ha : a + 1 < d.size) (hsz : d.size < many) (hs : Cells w s t2 [.int .i64 n]) (hgs : s ≠ g) :
    Calls Tryz.prog 114 #[.slice (some ⟨g, 0, none⟩) L cap, .int .i64 a, .pointer (some ⟨s, 0, none⟩), .func (.func 48) #[] #[]] w fun e w' =>
      ∃ (x : Nat) (m : Int), (a - 1 ≤ x ∧ x ≤ a + 1) ∧ e = .returned (.int .i64 x) ∧ Fr [s] w w' ∧ Cells w' s t2 [.int .i64 m] := by
  apply c114
  simp only [many] at hsz
  unfold t114
  rw [w_pred h1 (by omega), w_succ (by omega)]
  refine s_call (med_c h hL (by omega) (by omega) (by omega) hs hgs) ?_
  rintro _ w1 ⟨x1, m1, h1, rfl, f1, s1⟩
  exact ⟨_, rfl, s_asI (s_ret ⟨x1, m1, by omega, rfl, f1, s1⟩)⟩

theorem piv_c (h : Cells w g ty (KA d sp)) (hL : L = d.size) {a b : Nat} (hab : a < b) (hb : b ≤ d.size) (hsz : d.size < many) :
    Calls Tryz.prog 104 #[.slice (some ⟨g, 0, none⟩) L cap, .int .i64 a, .int .i64 b, .func (.func 48) #[] #[]] w fun e w' =>
      ∃ (p : Nat) (q : Int), a ≤ p ∧ p < b ∧ e = .returned (.tuple ⟨[.int .i64 p, .int .i64 q]⟩) ∧ Fr [] w w' := by
  apply c104
  have hsz0 := hsz
  simp only [many] at hsz
  have wn : IntKind.wrap .i64 ((b : Int) - (a : Int)) = ((b - a : Nat) : Int) := w_sub (by omega) (by omega)
  have w4 : IntKind.wrap .i64 (Int.tdiv ((b - a : Nat) : Int) 4) = (((b - a) / 4 : Nat) : Int) := by
    rw [show Int.tdiv ((b - a : Nat) : Int) 4 = (((b - a) / 4 : Nat) : Int) from rfl, wrap64 (by omega) (by omega)]
  have wk : ∀ k : Nat, k ≤ 3 → IntKind.wrap .i64 ((a : Int) + IntKind.wrap .i64 ((((b - a) / 4 : Nat) : Int) * (k : Int))) = ((a + (b - a) / 4 * k : Nat) : Int) := fun k hk => by
    have : (b - a) / 4 * k ≤ (b - a) / 4 * 3 := Nat.mul_le_mul_left _ hk
    have e : (((b - a) / 4 : Nat) : Int) * (k : Int) = (((b - a) / 4 * k : Nat) : Int) := by rw [Int.natCast_mul]
    rw [e, wrap64 (n := (((b - a) / 4 * k : Nat) : Int)) (by omega) (by omega), wrap64 (by omega) (by omega)]
    omega
  unfold t104
  rw [wn, w4]
  refine s_new fun s w1 hr hz f1 hs => ?_
  have hgs : s ≠ g := by have := h.lt; omega
  have h := f1.cells h (by simp)
  have new : ∀ {w2 : World}, Fr [s] w1 w2 → Fr [] w w2 := fun f => f1.trans' f (fun x hx => by simp at hx; exact .inr (by omega))
  refine s_req (by decide) (s_req (by decide) (s_req (by decide) ?_))
  refine s_blk (fun vs W => ∃ (p : Nat) (m : Int), vs = [.int .i64 p] ∧ a ≤ p ∧ p < b ∧ Fr [s] w1 W ∧ Cells W s 3 [.int .i64 m]) ?_ ?_
  · rintro _ j W ⟨p, m, rfl, hp1, hp2, f, c⟩
    refine s_asI (s_ldI c rfl (s_ite (fun _ => s_ret ⟨p, _, hp1, hp2, rfl, new f⟩) (fun _ => s_ite (fun _ => s_ret ⟨p, _, hp1, hp2, rfl, new f⟩) (fun _ => s_ret ⟨p, _, hp1, hp2, rfl, new f⟩))))
  · refine s_ite (fun g1 => s_ite (fun g2 => ?_) (fun g2 => ?_)) (fun g1 => s_next (by first | exact ⟨rfl, rfl⟩ | trivial) ?_)
    · simp only [decide_eq_true_eq] at g1 g2
      rw [show (((b - a) / 4 : Nat) : Int) * 1 = (((b - a) / 4 : Nat) : Int) * ((1 : Nat) : Int) from rfl, show (((b - a) / 4 : Nat) : Int) * 2 = (((b - a) / 4 : Nat) : Int) * ((2 : Nat) : Int) from rfl, show (((b - a) / 4 : Nat) : Int) * 3 = (((b - a) / 4 : Nat) : Int) * ((3 : Nat) : Int) from rfl, wk 1 (by omega), wk 2 (by omega), wk 3 (by omega)]
      refine s_call (madj_c h hL (by omega) (by omega) hsz0 hs hgs) ?_
      rintro _ w2 ⟨x1, m1, hx1, rfl, f2, s2⟩
      have h2 := f2.cells h (by simp; omega)
      refine ⟨_, rfl, s_asI (s_call (madj_c h2 hL (by omega) (by omega) hsz0 s2 hgs) ?_)⟩
      rintro _ w3 ⟨x2, m2, hx2, rfl, f3, s3⟩
      have h3 := f3.cells h2 (by simp; omega)
      refine ⟨_, rfl, s_asI (s_call (madj_c h3 hL (by omega) (by omega) hsz0 s3 hgs) ?_)⟩
      rintro _ w4 ⟨x3, m3, hx3, rfl, f4, s4⟩
      have h4 := f4.cells h3 (by simp; omega)
      refine ⟨_, rfl, s_asI (s_call (med_c h4 hL (by omega) (by omega) (by omega) s4 hgs) ?_)⟩
      rintro _ w5 ⟨x, m, hx, rfl, f5, s5⟩
      refine ⟨_, rfl, s_asI (s_next (by first | exact ⟨rfl, rfl⟩ | trivial) ?_)⟩
      simp only [if_true]
      exact ⟨x, m, rfl, by omega, by omega, ((f2.trans f3).trans f4).trans f5, s5⟩
    · simp only [decide_eq_true_eq, decide_eq_false_iff_not] at g1 g2
      rw [show (((b - a) / 4 : Nat) : Int) * 1 = (((b - a) / 4 : Nat) : Int) * ((1 : Nat) : Int) from rfl, show (((b - a) / 4 : Nat) : Int) * 2 = (((b - a) / 4 : Nat) : Int) * ((2 : Nat) : Int) from rfl, show (((b - a) / 4 : Nat) : Int) * 3 = (((b - a) / 4 : Nat) : Int) * ((3 : Nat) : Int) from rfl, wk 1 (by omega), wk 2 (by omega), wk 3 (by omega)]
      refine s_call (med_c h hL (by omega) (by omega) (by omega) hs hgs) ?_
      rintro _ w5 ⟨x, m, hx, rfl, f5, s5⟩
      refine ⟨_, rfl, s_asI (s_next (by first | exact ⟨rfl, rfl⟩ | trivial) ?_)⟩
      simp only [if_true]
      exact ⟨x, m, rfl, by omega, by omega, f5, s5⟩
    · simp only [decide_eq_false_iff_not] at g1
      simp only [if_true]
      refine ⟨a + (b - a) / 4 * 2, 0, by rw [show (((b - a) / 4 : Nat) : Int) * 2 = (((b - a) / 4 : Nat) : Int) * ((2 : Nat) : Int) from rfl, wk 2 (by omega)], by omega, by omega, Fr.refl _ _, hs⟩
end
end Go.Proofs.YtpjcfnnnciknmaaGreat

/- slices.SortFunc at keys, second part: the patterns, partial insertion, the partitions. -/
set_option linter.unusedVariables false
set_option linter.unusedSimpArgs false
set_option maxRecDepth 100000
namespace Go.Proofs.YtpjcfnnnciknmaaGreat
open Go hiding Expr
open Go.RowKit Tr
open Go.Sort (scanUp scanDown partLoop partition partEqLoop partitionEqual scanSorted shiftDown shiftUp partialIns partialInsertionSort fixUp fixDown swp PermIn SortedIn Below)

/-! ### bits.Len64 -/
theorem shr_nat (n : Nat) (y : Int) (k : Nat) (hy : y = (k : Int)) (hk : k ≤ 64) : shrI .u64 (n : Int) y = ((n / 2 ^ k : Nat) : Int) := by
  subst hy
  unfold shrI
  rw [show min (k : Int).toNat IntKind.u64.bits = k from by simp [IntKind.bits]; omega, show ((2 : Int) ^ k) = ((2 ^ k : Nat) : Int) by simp, Int.fdiv_eq_ediv_of_nonneg _ (Int.natCast_nonneg _)]
  rfl
theorem wrap8 {n : Int} (h1 : 0 ≤ n) (h2 : n < 256) : IntKind.wrap .u8 n = n := by
  simp only [IntKind.wrap, IntKind.min, IntKind.max, IntKind.signed, IntKind.bits]; simp; omega
theorem wrapU {n : Int} (h1 : 0 ≤ n) (h2 : n < 18446744073709551616) : IntKind.wrap .u64 n = n := by
  simp only [IntKind.wrap, IntKind.min, IntKind.max, IntKind.signed, IntKind.bits]; simp; omega
def lenOk (n x : Nat) : Prop := 2 ^ x ≤ 2 * n ∧ n < 2 ^ x
theorem len_up {n q k y : Nat} (hq : q = n / 2 ^ k) (h : lenOk q y) : lenOk n (k + y) := by
  obtain ⟨h1, h2⟩ := h
  have hp : 0 < 2 ^ k := Nat.two_pow_pos k
  unfold lenOk
  rw [Nat.pow_add]
  have h3 : 2 ^ k * q ≤ n := by rw [hq]; exact Nat.mul_div_le n _
  have h4 : n < 2 ^ k * (q + 1) := by rw [hq]; exact Nat.lt_mul_div_succ n hp
  constructor
  · have := Nat.mul_le_mul_left (2 ^ k) h1
    rw [show 2 ^ k * (2 * q) = 2 * (2 ^ k * q) by rw [Nat.mul_left_comm]] at this
    omega
  · have := Nat.mul_le_mul_left (2 ^ k) (show q + 1 ≤ 2 ^ y by omega)
    omega
def tabOk (tab : Array UInt8) : Prop := ∀ q : Fin 256, 0 < q.val → UInt8.toNat (tab.getD q.val 0) ≤ 8 ∧ 2 ^ UInt8.toNat (tab.getD q.val 0) ≤ 2 * q.val ∧ q.val < 2 ^ UInt8.toNat (tab.getD q.val 0)

section
variable {Q : Ending → World → Prop} {ρ : Lv} {w : World}
theorem len_leaf {tab : Array UInt8} (ht : tabOk tab) {x kk : Int} {n q k : Nat} (hx : x = (q : Int)) (hk : kk = (k : Int)) (hk2 : k ≤ 56) (h0 : 0 < q) (h : q < 256) (hq : q = n / 2 ^ k) (hn : n < 2 ^ 62)
    (hr : ∀ z : Nat, z ≤ 63 → lenOk n z → Q (.returned (.int .i64 z)) w) :
    (T.req (0 ≤ IntKind.wrap .u8 x ∧ IntKind.wrap .u8 x < 256) (T.ret (.int .i64 (IntKind.wrap .i64 (kk + IntKind.wrap .i64 ((UInt8.toNat (tab.getD (Int.toNat (IntKind.wrap .u8 x)) (OfNat.ofNat 0)) : Nat) : Int)))))).sem Tryz.prog Q ρ w := by
  subst hx hk
  rw [wrap8 (by omega) (by omega), Int.toNat_natCast]
  refine s_req (by omega) (s_ret ?_)
  obtain ⟨t1, t2, t3⟩ := ht ⟨q, h⟩ h0
  simp only at t1 t2 t3
  have hl := len_up hq ⟨t2, t3⟩
  generalize UInt8.toNat (tab.getD q (OfNat.ofNat 0)) = y at *
  rw [wrap64 (n := (y : Int)) (by omega) (by omega), wrap64 (by omega) (by omega)]
  have hlt : 2 ^ (k + y) < 2 ^ 63 := by
    have := hl.1
    omega
  have := (Nat.pow_lt_pow_iff_right (by omega)).1 hlt
  exact hr (k + y) (by omega) hl
end

section
variable {w : World}
theorem len64_c (n : Nat) (h0 : 0 < n) (hn : n < 2 ^ 62) : Calls Tryz.prog 78 #[.int .u64 n] w fun e w' => ∃ z : Nat, e = .returned (.int .i64 z) ∧ z ≤ 63 ∧ lenOk n z ∧ w = w' := by
  apply c78
  unfold t78
  have e32 : shrI .u64 (n : Int) 32 = ((n / 4294967296 : Nat) : Int) := shr_nat n 32 32 rfl (by decide)
  have e3216 : shrI .u64 ((n / 4294967296 : Nat) : Int) 16 = ((n / 281474976710656 : Nat) : Int) := by rw [shr_nat _ 16 16 rfl (by decide), Nat.div_div_eq_div_mul]
  have e32168 : shrI .u64 ((n / 281474976710656 : Nat) : Int) 8 = ((n / 72057594037927936 : Nat) : Int) := by rw [shr_nat _ 8 8 rfl (by decide), Nat.div_div_eq_div_mul]
  have e328 : shrI .u64 ((n / 4294967296 : Nat) : Int) 8 = ((n / 1099511627776 : Nat) : Int) := by rw [shr_nat _ 8 8 rfl (by decide), Nat.div_div_eq_div_mul]
  have e16 : shrI .u64 (n : Int) 16 = ((n / 65536 : Nat) : Int) := shr_nat n 16 16 rfl (by decide)
  have e168 : shrI .u64 ((n / 65536 : Nat) : Int) 8 = ((n / 16777216 : Nat) : Int) := by rw [shr_nat _ 8 8 rfl (by decide), Nat.div_div_eq_div_mul]
  have e8 : shrI .u64 (n : Int) 8 = ((n / 256 : Nat) : Int) := shr_nat n 8 8 rfl (by decide)
  rw [e32, e3216, e32168, e328, e16, e168, e8]
  have fin : ∀ z : Nat, z ≤ 63 → lenOk n z → ∃ z' : Nat, Ending.returned (.int .i64 (z : Int)) = Ending.returned (.int .i64 (z' : Int)) ∧ z' ≤ 63 ∧ lenOk n z' ∧ w = w := fun z h1 h2 => ⟨z, rfl, h1, h2, rfl⟩
  refine s_ite (fun g1 => s_req (by decide) (s_ite (fun g2 => s_req (by decide) (s_ite (fun g3 => s_req (by decide) ?_) (fun g3 => ?_))) (fun g2 => s_ite (fun g3 => s_req (by decide) ?_) (fun g3 => ?_))))
    (fun g1 => s_ite (fun g2 => s_req (by decide) (s_ite (fun g3 => s_req (by decide) ?_) (fun g3 => ?_))) (fun g2 => s_ite (fun g3 => s_req (by decide) ?_) (fun g3 => ?_)))
  all_goals simp only [decide_eq_true_eq, decide_eq_false_iff_not] at g1 g2 g3
  · exact len_leaf (k := 56) (by unfold tabOk; decide +kernel) rfl rfl (by omega) (by omega) (by omega) rfl hn fin
  · exact len_leaf (k := 48) (by unfold tabOk; decide +kernel) rfl rfl (by omega) (by omega) (by omega) rfl hn fin
  · exact len_leaf (k := 40) (by unfold tabOk; decide +kernel) rfl rfl (by omega) (by omega) (by omega) rfl hn fin
  · exact len_leaf (k := 32) (by unfold tabOk; decide +kernel) rfl rfl (by omega) (by omega) (by omega) rfl hn fin
  · exact len_leaf (k := 24) (by unfold tabOk; decide +kernel) rfl rfl (by omega) (by omega) (by omega) rfl hn fin
  · exact len_leaf (k := 16) (by unfold tabOk; decide +kernel) rfl rfl (by omega) (by omega) (by omega) rfl hn fin
  · exact len_leaf (k := 8) (by unfold tabOk; decide +kernel) rfl rfl (by omega) (by omega) (by omega) rfl hn fin
  · exact len_leaf (k := 0) (by unfold tabOk; decide +kernel) rfl rfl (by omega) (by omega) (by omega) (by simp) hn fin

theorem len_c (n : Nat) (h0 : 0 < n) (hn : n < 2 ^ 62) : Calls Tryz.prog 50 #[.int .u64 n] w fun e w' => ∃ z : Nat, e = .returned (.int .i64 z) ∧ z ≤ 63 ∧ lenOk n z ∧ w = w' := by
  apply c50
  refine s_call (len64_c n h0 hn) ?_
  rintro _ _ ⟨z, rfl, h1, h2, rfl⟩
  exact ⟨_, rfl, s_asI (s_ret ⟨z, rfl, h1, h2, rfl⟩)⟩

theorem np2_c (n : Nat) (h0 : 0 < n) (hn : n < 2 ^ 61) : Calls Tryz.prog 88 #[.int .i64 n] w fun e w' => ∃ m : Nat, e = .returned (.int .u64 m) ∧ 0 < m ∧ m ≤ 2 * n ∧ w = w' := by
  apply c88
  unfold t88
  rw [wrapU (by omega) (by omega)]
  refine s_call (len_c n h0 (by omega)) ?_
  rintro _ _ ⟨z, rfl, h1, h2, rfl⟩
  have h3 : 2 ^ z ≤ 2 * n := h2.1
  have hp : 0 < 2 ^ z := Nat.two_pow_pos z
  have he : shlI .u64 1 (z : Int) = IntKind.wrap .u64 ((2 ^ z : Nat) : Int) := by
    unfold shlI
    rw [Int.toNat_natCast, show min z IntKind.u64.bits = z from by simp [IntKind.bits]; omega, Int.one_mul, show ((2 : Int) ^ z) = ((2 ^ z : Nat) : Int) by simp]
  refine ⟨_, rfl, s_asI (s_req (by omega) ?_)⟩
  rw [he]
  generalize 2 ^ z = m at h3 hp ⊢
  rw [wrapU (by omega) (by omega)]
  exact s_ret ⟨m, rfl, hp, h3, rfl⟩

theorem xor_c {s : Nat} {ty : TypeId} {r : Int} (h : Cells w s ty [.int .u64 r]) : Calls Tryz.prog 89 #[.pointer (some ⟨s, 0, none⟩)] w fun e w' => ∃ r', e = .returned (.int .u64 r') ∧ Fr [s] w w' ∧ Cells w' s ty [.int .u64 r'] := by
  apply c89
  refine s_drew fun w1 _ f1 => ?_
  have h := f1.cells h (by simp)
  refine s_ldI h rfl (s_ldI h rfl (s_req (by decide) (s_st h (by simp) rfl fun w2 _ f2 h => s_chk c_nil (s_drew fun w3 _ f3 => ?_))))
  have h := f3.cells h (by simp)
  refine s_ldI h rfl (s_ldI h rfl (s_req (by decide) (s_st h (by simp) rfl fun w4 _ f4 h => s_chk c_nil (s_drew fun w5 _ f5 => ?_))))
  have h := f5.cells h (by simp)
  refine s_ldI h rfl (s_ldI h rfl (s_req (by decide) (s_st h (by simp) rfl fun w6 _ f6 h => s_chk c_nil (s_ldI h rfl (s_ret ⟨_, rfl, ?_, h⟩)))))
  exact ((((f1.nil.trans f2).trans f3.nil).trans f4).trans f5.nil).trans f6

theorem and_le (r : Int) {m : Nat} (h : m < 4611686018427387904) : ∃ o : Nat, bitsI .and .u64 r (m : Int) = (o : Int) ∧ o ≤ m := by
  refine ⟨(BitVec.ofInt 64 r &&& BitVec.ofInt 64 (m : Int)).toNat, ?_, ?_⟩
  · have : (BitVec.ofInt 64 r &&& BitVec.ofInt 64 (m : Int)).toNat < 2 ^ 64 := BitVec.isLt _
    unfold bitsI
    simp only [IntKind.bits]
    exact wrapU (by omega) (by omega)
  · rw [BitVec.toNat_and]
    refine Nat.le_trans Nat.and_le_right ?_
    rw [BitVec.ofInt_natCast, BitVec.toNat_ofNat]
    exact Nat.mod_le _ _
end

section
variable {w : World} {g cap L : Nat} {ty : TypeId} {d : Array K} {sp : List Value}

theorem brk_c (h : Cells w g ty (KA d sp)) (hL : L = d.size) {a b : Nat} (hab : a ≤ b) (hb : b ≤ d.size) (hsz : d.size < many) :
    Calls Tryz.prog 103 #[.slice (some ⟨g, 0, none⟩) L cap, .int .i64 a, .int .i64 b, .func (.func 48) #[] #[]] w fun e w' =>
      ∃ d', (∃ v, e = .returned v) ∧ PermIn a b d d' ∧ Fr [g] w w' ∧ Cells w' g ty (KA d' sp) := by
  apply c103
  simp only [many] at hsz
  have wn : IntKind.wrap .i64 ((b : Int) - (a : Int)) = ((b - a : Nat) : Int) := w_sub (by omega) (by omega)
  have w4 : IntKind.wrap .i64 (IntKind.wrap .i64 (Int.tdiv ((b - a : Nat) : Int) 4) * 2) = (((b - a) / 4 * 2 : Nat) : Int) := by
    rw [show Int.tdiv ((b - a : Nat) : Int) 4 = (((b - a) / 4 : Nat) : Int) from rfl, wrap64 (n := (((b - a) / 4 : Nat) : Int)) (by omega) (by omega), wrap64 (by omega) (by omega)]
    omega
  unfold t103
  rw [wn, w4, w_add (by omega)]
  refine s_ite (fun g1 => ?_) (fun g1 => s_ret ⟨d, ⟨_, rfl⟩, Sort.permIn_refl d a b, Fr.refl _ _, h⟩)
  simp only [decide_eq_true_eq] at g1
  rw [wrapU (by omega) (by omega), w_pred (by omega) (by omega), w_succ (by omega)]
  refine s_new fun s w1 hr hz f1 hs => ?_
  have hgs : s ≠ g := by have := h.lt; omega
  have h := f1.cells h (by simp)
  refine s_st hs (by simp) rfl fun w2 z2 f2 hs => ?_
  have h := f2.cells h (by simp; omega)
  refine s_call (np2_c (b - a) (by omega) (by omega)) ?_
  rintro _ _ ⟨m, rfl, hm0, hm, rfl⟩
  refine ⟨_, rfl, s_asI (s_req (by decide) ?_)⟩
  have hf2 : Fr [g] w w2 := (f1.nil (G := [g])).trans' f2 (fun x hx => by simp at hx; exact .inr (by omega))
  refine s_loop (fun vs W => ∃ (i : Nat) (d' : Array K) (r : Int), vs = [.int .i64 i] ∧ a + (b - a) / 4 * 2 - 1 ≤ i ∧ i ≤ a + (b - a) / 4 * 2 + 2 ∧ PermIn a b d d' ∧ Fr [g] w W ∧ w2.heap.size ≤ W.heap.size ∧ Cells W g ty (KA d' sp) ∧ Cells W s 140 [.int .u64 r])
    (fun vs _ => b - (intOf (vs.getD 0 undef)).toNat) ⟨a + (b - a) / 4 * 2 - 1, d, _, rfl, by omega, by omega, Sort.permIn_refl d a b, hf2, Nat.le_refl _, h, hs⟩ ?_
  rintro _ j W ⟨i, d1, r, rfl, hi1, hi2, hp, hf, hsize, h1, hs1⟩
  have hs1z : d1.size = d.size := hp.1
  refine s_asI (s_req (by decide) (s_ite (fun g2 => ?_) (fun g2 => s_ret ⟨d1, ⟨_, rfl⟩, hp, hf, h1⟩)))
  simp only [decide_eq_true_eq] at g2
  refine s_call (xor_c hs1) ?_
  rintro _ w3 ⟨r', rfl, f3, hs3⟩
  have h3 := f3.cells h1 (by simp; omega)
  have hf3 : Fr [g] w w3 := hf.trans' f3 (fun x hx => by simp at hx; exact .inr (by omega))
  obtain ⟨o, ho, hom⟩ := and_le r' (m := m - 1) (by omega)
  have hm1 : IntKind.wrap .u64 ((m : Int) - 1) = ((m - 1 : Nat) : Int) := by rw [wrapU (by omega) (by omega)]; omega
  refine ⟨_, rfl, s_asI ?_⟩
  rw [hm1, ho, wrap64 (n := (o : Int)) (by omega) (by omega)]
  refine s_blk (fun vs W' => w3 = W' ∧ ∃ c : Nat, vs = [.int .i64 c] ∧ c < b - a) ?_ ?_
  · rintro _ j2 _ ⟨rfl, c, rfl, hc⟩
    refine s_asI (s_drew fun w4 _ f4 => swapAt (i := a + c) (j := i) (f4.cells h3 (by simp)) (by omega) (w_add (by omega)) rfl (by omega) (by omega) fun w5 f5 h5 => s_next (by first | exact ⟨rfl, rfl⟩ | trivial) ?_)
    simp only [if_true]
    refine ⟨⟨i + 1, _, r', by rw [w_succ (by omega)], by omega, by omega, Sort.permIn_trans _ _ _ a b hp (Sort.swp_permIn d1 a b i (a + c) (by omega) (by omega) (by omega) (by omega) (by omega)), (hf3.trans f4.nil).trans f5, ?_, h5, f5.cells (f4.cells hs3 (by simp)) (by simp; omega)⟩, by rw [w_succ (by omega)]; simp [intOf] <;> omega⟩
    have := f3.size; have := f4.size; have := f5.size
    omega
  · refine s_ite (fun g3 => s_next (by first | exact ⟨rfl, rfl⟩ | trivial) ?_) (fun g3 => s_next (by first | exact ⟨rfl, rfl⟩ | trivial) ?_)
    · simp only [decide_eq_true_eq] at g3
      simp only [if_true]
      exact ⟨trivial, o - (b - a), by rw [w_sub (by omega) (by omega)], by omega⟩
    · simp only [decide_eq_false_iff_not] at g3
      simp only [if_true]
      exact ⟨trivial, o, rfl, by omega⟩
end

/-! ### A scan -/
section
variable {Q : Ending → World → Prop} {ρ : Lv} {w : World} {g L : Nat} {ty : TypeId} {d : Array K} {sp : List Value}
variable {lv tgt : Nat} {x0 xa : Int} {gd tst : Int → Bool} {nx : Int → Int} {a : Nat} {c1 c2 c3 : Int → Prop}
theorem scan_ia (h : Cells w g ty (KA d sp)) (hL : L = d.size) (hxa : xa = (a : Int)) (ha : a < d.size) (I : Nat → Prop) (m : Nat → Nat) (h0 : ∃ i0 : Nat, x0 = (i0 : Int) ∧ I i0)
    (hstep : ∀ i : Nat, I i → gd i = true → i < d.size ∧ (tst (cmpK d[i]! d[a]!) = true → ∃ i' : Nat, nx i = (i' : Int) ∧ I i' ∧ m i' < m i))
    (hend : ∀ (i : Nat) (W : World), I i → (gd i = true → tst (cmpK d[i]! d[a]!) = false) → Fr [] w W → Cells W g ty (KA d sp) → ρ tgt [.int .i64 i] W)
    (hne : tgt ≠ lv) (hc1 : ∀ i, c1 i) (hc2 : ∀ i, c2 i) (hc3 : ∀ i, c3 i) :
    (T.loop lv [.int .i64 x0] fun l j => T.asI .i64 (List.headD l (Value.tuple (Array.mk []))) fun i => T.drew (T.ite (gd i)
      (T.req (0 ≤ i ∧ i < ((L : Nat) : Int)) (T.sm (some ⟨g, 0, none⟩) fun n6 n7 => T.ldI .i32 n6 (n7 + Int.toNat i * 2) fun p => T.ldI .i64 n6 (n7 + Int.toNat i * 2 + 1) fun q =>
        T.req (0 ≤ xa ∧ xa < ((L : Nat) : Int)) (T.sm (some ⟨g, 0, none⟩) fun n8 n9 => T.ldI .i32 n8 (n9 + Int.toNat xa * 2) fun r => T.ldI .i64 n8 (n9 + Int.toNat xa * 2 + 1) fun s =>
          T.call 48 [.agg ⟨[.int .i32 p, .int .i64 q]⟩, .agg ⟨[.int .i32 r, .int .i64 s]⟩] fun v => T.asI .i64 v fun c => T.chk [] (T.ite (tst c) (T.next lv [.int .i64 (nx i)] (c1 i)) (T.next tgt [.int .i64 i] (c2 i))))))
      (T.chk [] (T.next tgt [.int .i64 i] (c3 i))))).sem Tryz.prog Q ρ w := by
  subst hxa
  obtain ⟨i0, rfl, hi0⟩ := h0
  refine s_loop (fun vs W => ∃ i : Nat, vs = [.int .i64 i] ∧ I i ∧ Fr [] w W ∧ Cells W g ty (KA d sp)) (fun vs _ => m (intOf (vs.getD 0 undef)).toNat) ⟨i0, rfl, hi0, Fr.refl _ _, h⟩ ?_
  rintro _ j W ⟨i, rfl, hi, hf, h1⟩
  refine s_asI (s_drew fun W2 _ f2 => s_ite (fun g1 => ?_) (fun g1 => s_chk c_nil (s_next (hc3 i) ?_)))
  · obtain ⟨hlt, hgo⟩ := hstep i hi g1
    refine cmpAt (f2.cells h1 (by simp)) hL rfl rfl hlt ha fun W3 f3 h3 => s_chk c_nil (s_ite (fun g2 => s_next (hc1 i) ?_) (fun g2 => s_next (hc2 i) ?_))
    · obtain ⟨i', he, hi', hm⟩ := hgo g2
      simp only [if_true]
      exact ⟨⟨i', by rw [he], hi', (hf.trans f2).trans f3, h3⟩, by rw [he]; simpa [intOf] using hm⟩
    · rw [if_neg hne]
      exact hend i W3 hi (fun _ => g2) ((hf.trans f2).trans f3) h3
  · rw [if_neg hne]
    exact hend i W2 hi (fun hg => by rw [hg] at g1; cases g1) (hf.trans f2) (f2.cells h1 (by simp))
theorem scan_ai (h : Cells w g ty (KA d sp)) (hL : L = d.size) (hxa : xa = (a : Int)) (ha : a < d.size) (I : Nat → Prop) (m : Nat → Nat) (h0 : ∃ i0 : Nat, x0 = (i0 : Int) ∧ I i0)
    (hstep : ∀ i : Nat, I i → gd i = true → i < d.size ∧ (tst (cmpK d[a]! d[i]!) = true → ∃ i' : Nat, nx i = (i' : Int) ∧ I i' ∧ m i' < m i))
    (hend : ∀ (i : Nat) (W : World), I i → (gd i = true → tst (cmpK d[a]! d[i]!) = false) → Fr [] w W → Cells W g ty (KA d sp) → ρ tgt [.int .i64 i] W)
    (hne : tgt ≠ lv) (hc1 : ∀ i, c1 i) (hc2 : ∀ i, c2 i) (hc3 : ∀ i, c3 i) :
    (T.loop lv [.int .i64 x0] fun l j => T.asI .i64 (List.headD l (Value.tuple (Array.mk []))) fun i => T.drew (T.ite (gd i)
      (T.req (0 ≤ xa ∧ xa < ((L : Nat) : Int)) (T.sm (some ⟨g, 0, none⟩) fun n8 n9 => T.ldI .i32 n8 (n9 + Int.toNat xa * 2) fun r => T.ldI .i64 n8 (n9 + Int.toNat xa * 2 + 1) fun s =>
        T.req (0 ≤ i ∧ i < ((L : Nat) : Int)) (T.sm (some ⟨g, 0, none⟩) fun n6 n7 => T.ldI .i32 n6 (n7 + Int.toNat i * 2) fun p => T.ldI .i64 n6 (n7 + Int.toNat i * 2 + 1) fun q =>
          T.call 48 [.agg ⟨[.int .i32 r, .int .i64 s]⟩, .agg ⟨[.int .i32 p, .int .i64 q]⟩] fun v => T.asI .i64 v fun c => T.chk [] (T.ite (tst c) (T.next lv [.int .i64 (nx i)] (c1 i)) (T.next tgt [.int .i64 i] (c2 i))))))
      (T.chk [] (T.next tgt [.int .i64 i] (c3 i))))).sem Tryz.prog Q ρ w := by
  subst hxa
  obtain ⟨i0, rfl, hi0⟩ := h0
  refine s_loop (fun vs W => ∃ i : Nat, vs = [.int .i64 i] ∧ I i ∧ Fr [] w W ∧ Cells W g ty (KA d sp)) (fun vs _ => m (intOf (vs.getD 0 undef)).toNat) ⟨i0, rfl, hi0, Fr.refl _ _, h⟩ ?_
  rintro _ j W ⟨i, rfl, hi, hf, h1⟩
  refine s_asI (s_drew fun W2 _ f2 => s_ite (fun g1 => ?_) (fun g1 => s_chk c_nil (s_next (hc3 i) ?_)))
  · obtain ⟨hlt, hgo⟩ := hstep i hi g1
    refine cmpAt (f2.cells h1 (by simp)) hL rfl rfl ha hlt fun W3 f3 h3 => s_chk c_nil (s_ite (fun g2 => s_next (hc1 i) ?_) (fun g2 => s_next (hc2 i) ?_))
    · obtain ⟨i', he, hi', hm⟩ := hgo g2
      simp only [if_true]
      exact ⟨⟨i', by rw [he], hi', (hf.trans f2).trans f3, h3⟩, by rw [he]; simpa [intOf] using hm⟩
    · rw [if_neg hne]
      exact hend i W3 hi (fun _ => g2) ((hf.trans f2).trans f3) h3
  · rw [if_neg hne]
    exact hend i W2 hi (fun hg => by rw [hg] at g1; cases g1) (hf.trans f2) (f2.cells h1 (by simp))
end
end Go.Proofs.YtpjcfnnnciknmaaGreat

/- slices.SortFunc at keys, third part: the partitions, the whole: the keys sorted. -/
set_option linter.unusedVariables false
set_option linter.unusedSimpArgs false
set_option maxRecDepth 100000
namespace Go.Proofs.YtpjcfnnnciknmaaGreat
open Go hiding Expr
open Go.RowKit Tr
open Go.Sort (scanUp scanDown partLoop partition partEqLoop partitionEqual scanSorted shiftDown shiftUp partialIns partialInsertionSort fixUp fixDown swp PermIn SortedIn Below insertionSort heapSort reverseRange)

section
variable {w : World} {g cap L : Nat} {ty : TypeId} {d : Array K} {sp : List Value}

theorem peq_c (h : Cells w g ty (KA d sp)) (hL : L = d.size) {a b p : Nat} (hab : a < b) (hb : b ≤ d.size) (hp1 : a ≤ p) (hp2 : p < b) (hsz : d.size < many) :
    Calls Tryz.prog 107 #[.slice (some ⟨g, 0, none⟩) L cap, .int .i64 a, .int .i64 b, .int .i64 p, .func (.func 48) #[] #[]] w fun e w' =>
      e = .returned (.int .i64 (partitionEqual ltK d a b p).1) ∧ Fr [g] w w' ∧ Cells w' g ty (KA (partitionEqual ltK d a b p).2 sp) := by
  apply c107
  simp only [many] at hsz
  refine s_drew fun w1 _ f1 => swapAt (i := p) (j := a) (f1.cells h (by simp)) hL rfl rfl (by omega) (by omega) fun w2 f2 h2 => ?_
  refine s_loop (fun vs W => ∃ (i j : Nat) (d' : Array K), vs = [.int .i64 i, .int .i64 j] ∧ a + 1 ≤ i ∧ i ≤ b + 1 ∧ j < b ∧ d'.size = d.size ∧ partEqLoop ltK a i j d' = partitionEqual ltK d a b p ∧ Fr [g] w W ∧ Cells W g ty (KA d' sp))
    (fun vs _ => (intOf (vs.getD 1 undef) + 1 - intOf (vs.getD 0 undef)).toNat)
    ⟨a + 1, b - 1, _, by rw [w_succ (by omega), w_pred (by omega) (by omega)], by omega, by omega, by omega, swp_sz _ _ _, rfl, f1.nil.trans f2, h2⟩ ?_
  rintro _ j0 W ⟨i, j, d1, rfl, hi1, hi2, hj, hs1, he, hf, h1⟩
  rw [Sort.partEqLoop_eq] at he
  refine s_asI (s_asI ?_)
  refine s_blk (fun vs W' => vs = [.int .i64 (scanUp (fun x => !ltK d1[a]! x) d1 j i : Nat)] ∧ Fr [g] w W' ∧ Cells W' g ty (KA d1 sp)) ?_ ?_
  · rintro _ _ W1 ⟨rfl, hf1, h1⟩
    have hge := Sort.scanUp_ge (fun x => !ltK d1[a]! x) d1 j i
    have hle := (Sort.scanUp_spec (fun x => !ltK d1[a]! x) d1 j _ i rfl).2.1
    have hsu : scanUp (fun x => !ltK d1[a]! x) d1 j i ≤ b + 1 := by
      by_cases hij : i ≤ j + 1
      · have := hle hij; omega
      · rw [scanUp, if_neg (by simp; omega)]; omega
    generalize scanUp (fun x => !ltK d1[a]! x) d1 j i = i2 at *
    refine s_asI ?_
    refine s_blk (fun vs W' => vs = [.int .i64 (scanDown (fun x => ltK d1[a]! x) d1 i2 j : Nat)] ∧ Fr [g] w W' ∧ Cells W' g ty (KA d1 sp)) ?_ ?_
    · rintro _ _ W2 ⟨rfl, hf2, h2⟩
      have hdl := Sort.scanDown_le (fun x => ltK d1[a]! x) d1 i2 j
      generalize scanDown (fun x => ltK d1[a]! x) d1 i2 j = j2 at *
      refine s_asI (s_ite (fun g1 => ?_) (fun g1 => ?_))
      · simp only [decide_eq_true_eq] at g1
        rw [if_pos (by omega)] at he
        rw [← he]
        exact s_ret ⟨rfl, hf2, h2⟩
      · simp only [decide_eq_false_iff_not] at g1
        rw [if_neg (by omega)] at he
        refine s_drew fun W3 _ f3 => swapAt (i := j2) (j := i2) (f3.cells h2 (by simp)) (by omega) rfl rfl (by omega) (by omega) fun W4 f4 h4 => s_next (by first | exact ⟨rfl, rfl⟩ | trivial) ?_
        simp (config := { decide := true }) only [if_true, if_false]
        exact ⟨⟨i2 + 1, j2 - 1, _, by rw [w_succ (by omega), w_pred (by omega) (by omega)], by omega, by omega, by omega, by rw [swp_sz]; exact hs1, he, (hf2.trans f3.nil).trans f4, h4⟩, by rw [w_succ (by omega), w_pred (by omega) (by omega)]; simp [intOf] <;> omega⟩
    · refine scan_ai (a := a) h1 (by omega) rfl (by omega) (fun k => k ≤ j ∧ scanDown (fun x => ltK d1[a]! x) d1 i2 k = scanDown (fun x => ltK d1[a]! x) d1 i2 j) (fun k => k) ⟨j, rfl, by omega, rfl⟩ ?_ ?_ (by decide) (fun _ => by first | exact ⟨rfl, rfl⟩ | trivial) (fun _ => by first | exact ⟨rfl, rfl⟩ | trivial) (fun _ => by first | exact ⟨rfl, rfl⟩ | trivial)
      · rintro k ⟨hk, hke⟩ hg
        simp only [decide_eq_true_eq] at hg
        refine ⟨by omega, fun ht => ⟨k - 1, by rw [w_pred (by omega) (by omega)], ⟨by omega, ?_⟩, by omega⟩⟩
        obtain ⟨k', rfl⟩ : ∃ k', k = k' + 1 := ⟨k - 1, by omega⟩
        rw [scanDown, ltK_of] at *
        rw [if_pos (by simp only [Bool.and_eq_true, decide_eq_true_eq]; exact ⟨by omega, ht⟩)] at hke
        exact hke
      · rintro k W3 ⟨hk, hke⟩ hend f3 h3
        simp (config := { decide := true }) only [if_true, if_false]
        refine ⟨?_, hf1.trans f3.nil, h3⟩
        rw [← hke]
        cases k with
        | zero => rfl
        | succ k' =>
          rw [scanDown, if_neg]
          simp only [Bool.and_eq_true, decide_eq_true_eq, not_and]
          intro hle ht
          have := hend (by simp only [decide_eq_true_eq]; omega)
          rw [ltK_of] at this
          rw [this] at ht
          cases ht
  · refine scan_ai (a := a) h1 (by omega) rfl (by omega) (fun k => i ≤ k ∧ (k ≤ i ∨ k ≤ j + 1) ∧ scanUp (fun x => !ltK d1[a]! x) d1 j k = scanUp (fun x => !ltK d1[a]! x) d1 j i) (fun k => b + 2 - k) ⟨i, rfl, by omega, by omega, rfl⟩ ?_ ?_ (by decide) (fun _ => by first | exact ⟨rfl, rfl⟩ | trivial) (fun _ => by first | exact ⟨rfl, rfl⟩ | trivial) (fun _ => by first | exact ⟨rfl, rfl⟩ | trivial)
    · rintro k ⟨hk1, hk2, hke⟩ hg
      simp only [decide_eq_true_eq] at hg
      refine ⟨by omega, fun ht => ⟨k + 1, by rw [w_succ (by omega)], ⟨by omega, by omega, ?_⟩, by omega⟩⟩
      rw [scanUp, if_pos (by simp only [Bool.and_eq_true, decide_eq_true_eq]; exact ⟨by omega, ht⟩)] at hke
      exact hke
    · rintro k W3 ⟨hk1, hk2, hke⟩ hend f3 h3
      simp (config := { decide := true }) only [if_true, if_false]
      refine ⟨?_, hf.trans f3.nil, h3⟩
      rw [← hke, scanUp, if_neg]
      simp only [Bool.and_eq_true, decide_eq_true_eq, not_and]
      intro hle ht
      have := hend (by simp only [decide_eq_true_eq]; omega)
      rw [ltK_of] at this
      rw [this] at ht
      cases ht


theorem part_c (h : Cells w g ty (KA d sp)) (hL : L = d.size) {a b p : Nat} (hab : a < b) (hb : b ≤ d.size) (hp1 : a ≤ p) (hp2 : p < b) (hsz : d.size < many) :
    Calls Tryz.prog 108 #[.slice (some ⟨g, 0, none⟩) L cap, .int .i64 a, .int .i64 b, .int .i64 p, .func (.func 48) #[] #[]] w fun e w' =>
      e = .returned (.tuple ⟨[.int .i64 (partition ltK d a b p).1, .bool (partition ltK d a b p).2.1]⟩) ∧ Fr [g] w w' ∧ Cells w' g ty (KA (partition ltK d a b p).2.2 sp) := by
  apply c108
  simp only [many] at hsz
  unfold t108
  refine s_drew fun w1 _ f1 => swapAt (i := p) (j := a) (f1.cells h (by simp)) hL rfl rfl (by omega) (by omega) fun w2 f2 h1 => ?_
  have hD := swp_sz d a p
  have hP : partition ltK d a b p = (if scanUp (fun x => ltK x (swp d a p)[a]!) (swp d a p) (b - 1) (a + 1) > scanDown (fun x => !ltK x (swp d a p)[a]!) (swp d a p) (scanUp (fun x => ltK x (swp d a p)[a]!) (swp d a p) (b - 1) (a + 1)) (b - 1) then
      (scanDown (fun x => !ltK x (swp d a p)[a]!) (swp d a p) (scanUp (fun x => ltK x (swp d a p)[a]!) (swp d a p) (b - 1) (a + 1)) (b - 1), true, swp (swp d a p) (scanDown (fun x => !ltK x (swp d a p)[a]!) (swp d a p) (scanUp (fun x => ltK x (swp d a p)[a]!) (swp d a p) (b - 1) (a + 1)) (b - 1)) a) else
      ((partLoop ltK a (scanUp (fun x => ltK x (swp d a p)[a]!) (swp d a p) (b - 1) (a + 1) + 1) (scanDown (fun x => !ltK x (swp d a p)[a]!) (swp d a p) (scanUp (fun x => ltK x (swp d a p)[a]!) (swp d a p) (b - 1) (a + 1)) (b - 1) - 1)
          (swp (swp d a p) (scanUp (fun x => ltK x (swp d a p)[a]!) (swp d a p) (b - 1) (a + 1)) (scanDown (fun x => !ltK x (swp d a p)[a]!) (swp d a p) (scanUp (fun x => ltK x (swp d a p)[a]!) (swp d a p) (b - 1) (a + 1)) (b - 1)))).1, false,
        swp (partLoop ltK a (scanUp (fun x => ltK x (swp d a p)[a]!) (swp d a p) (b - 1) (a + 1) + 1) (scanDown (fun x => !ltK x (swp d a p)[a]!) (swp d a p) (scanUp (fun x => ltK x (swp d a p)[a]!) (swp d a p) (b - 1) (a + 1)) (b - 1) - 1)
          (swp (swp d a p) (scanUp (fun x => ltK x (swp d a p)[a]!) (swp d a p) (b - 1) (a + 1)) (scanDown (fun x => !ltK x (swp d a p)[a]!) (swp d a p) (scanUp (fun x => ltK x (swp d a p)[a]!) (swp d a p) (b - 1) (a + 1)) (b - 1)))).2
          (partLoop ltK a (scanUp (fun x => ltK x (swp d a p)[a]!) (swp d a p) (b - 1) (a + 1) + 1) (scanDown (fun x => !ltK x (swp d a p)[a]!) (swp d a p) (scanUp (fun x => ltK x (swp d a p)[a]!) (swp d a p) (b - 1) (a + 1)) (b - 1) - 1)
          (swp (swp d a p) (scanUp (fun x => ltK x (swp d a p)[a]!) (swp d a p) (b - 1) (a + 1)) (scanDown (fun x => !ltK x (swp d a p)[a]!) (swp d a p) (scanUp (fun x => ltK x (swp d a p)[a]!) (swp d a p) (b - 1) (a + 1)) (b - 1)))).1 a)) := by
    unfold partition
    simp only
  have hf := f1.nil.trans f2
  generalize swp d a p = D at *
  have wb1 : IntKind.wrap .i64 ((b : Int) - 1) = ((b - 1 : Nat) : Int) := w_pred (by omega) (by omega)
  rw [wb1]
  refine s_blk (fun vs W' => vs = [.int .i64 (scanUp (fun x => ltK x D[a]!) D (b - 1) (a + 1) : Nat)] ∧ Fr [g] w W' ∧ Cells W' g ty (KA D sp)) ?_ ?_
  · rintro _ _ W1 ⟨rfl, hf1, h1⟩
    have hge := Sort.scanUp_ge (fun x => ltK x D[a]!) D (b - 1) (a + 1)
    have hle := (Sort.scanUp_spec (fun x => ltK x D[a]!) D (b - 1) _ (a + 1) rfl).2.1 (by omega)
    generalize scanUp (fun x => ltK x D[a]!) D (b - 1) (a + 1) = i2 at *
    refine s_asI ?_
    refine s_blk (fun vs W' => vs = [.int .i64 (scanDown (fun x => !ltK x D[a]!) D i2 (b - 1) : Nat)] ∧ Fr [g] w W' ∧ Cells W' g ty (KA D sp)) ?_ ?_
    · rintro _ _ W2 ⟨rfl, hf2, h2⟩
      have hdl := Sort.scanDown_le (fun x => !ltK x D[a]!) D i2 (b - 1)
      generalize scanDown (fun x => !ltK x D[a]!) D i2 (b - 1) = j2 at *
      refine s_asI (s_ite (fun g1 => ?_) (fun g1 => ?_))
      · simp only [decide_eq_true_eq] at g1
        rw [if_pos (by omega)] at hP
        rw [hP]
        exact s_drew fun W3 _ f3 => swapAt (i := a) (j := j2) (f3.cells h2 (by simp)) (by omega) rfl rfl (by omega) (by omega) fun W4 f4 h4 => s_ret ⟨rfl, (hf2.trans f3.nil).trans f4, h4⟩
      · simp only [decide_eq_false_iff_not] at g1
        rw [if_neg (by omega)] at hP
        refine s_drew fun W3 _ f3 => swapAt (i := j2) (j := i2) (f3.cells h2 (by simp)) (by omega) rfl rfl (by omega) (by omega) fun W4 f4 h4 => ?_
        refine s_loop (fun vs W => ∃ (i j : Nat) (d' : Array K), vs = [.int .i64 i, .int .i64 j] ∧ a + 1 ≤ i ∧ i ≤ b + 1 ∧ j < b ∧ d'.size = d.size ∧ partLoop ltK a i j d' = partLoop ltK a (i2 + 1) (j2 - 1) (swp D i2 j2) ∧ Fr [g] w W ∧ Cells W g ty (KA d' sp))
          (fun vs _ => (intOf (vs.getD 1 undef) + 1 - intOf (vs.getD 0 undef)).toNat)
          ⟨i2 + 1, j2 - 1, _, by rw [w_succ (by omega), w_pred (by omega) (by omega)], by omega, by omega, by omega, by rw [swp_sz]; exact hD, rfl, (hf2.trans f3.nil).trans f4, h4⟩ ?_
        generalize partLoop ltK a (i2 + 1) (j2 - 1) (swp D i2 j2) = R at hP ⊢
        rintro _ j0 W ⟨i, j, d1, rfl, hi1, hi2, hj, hs1, he, hf, h1⟩
        rw [Sort.partLoop_eq] at he
        refine s_asI (s_asI ?_)
        refine s_blk (fun vs W' => vs = [.int .i64 (scanUp (fun x => ltK x d1[a]!) d1 j i : Nat)] ∧ Fr [g] w W' ∧ Cells W' g ty (KA d1 sp)) ?_ ?_
        · rintro _ _ W1 ⟨rfl, hf1, h1⟩
          have hge := Sort.scanUp_ge (fun x => ltK x d1[a]!) d1 j i
          have hle := (Sort.scanUp_spec (fun x => ltK x d1[a]!) d1 j _ i rfl).2.1
          have hsu : scanUp (fun x => ltK x d1[a]!) d1 j i ≤ b + 1 := by
            by_cases hij : i ≤ j + 1
            · have := hle hij; omega
            · rw [scanUp, if_neg (by simp; omega)]; omega
          clear g1 hdl
          generalize scanUp (fun x => ltK x d1[a]!) d1 j i = i2 at *
          refine s_asI ?_
          refine s_blk (fun vs W' => vs = [.int .i64 (scanDown (fun x => !ltK x d1[a]!) d1 i2 j : Nat)] ∧ Fr [g] w W' ∧ Cells W' g ty (KA d1 sp)) ?_ ?_
          · rintro _ _ W2 ⟨rfl, hf2, h2⟩
            have hdl := Sort.scanDown_le (fun x => !ltK x d1[a]!) d1 i2 j
            generalize scanDown (fun x => !ltK x d1[a]!) d1 i2 j = j2 at *
            refine s_asI (s_ite (fun g1 => ?_) (fun g1 => ?_))
            · simp only [decide_eq_true_eq] at g1
              rw [if_pos (by omega)] at he
              rw [hP, ← he]
              exact s_drew fun W3 _ f3 => swapAt (i := a) (j := j2) (f3.cells h2 (by simp)) (by omega) rfl rfl (by omega) (by omega) fun W4 f4 h4 => s_ret ⟨rfl, (hf2.trans f3.nil).trans f4, h4⟩
            · simp only [decide_eq_false_iff_not] at g1
              rw [if_neg (by omega)] at he
              refine s_drew fun W3 _ f3 => swapAt (i := j2) (j := i2) (f3.cells h2 (by simp)) (by omega) rfl rfl (by omega) (by omega) fun W4 f4 h4 => s_next (by first | exact ⟨rfl, rfl⟩ | trivial) ?_
              simp (config := { decide := true }) only [if_true, if_false]
              exact ⟨⟨i2 + 1, j2 - 1, _, by rw [w_succ (by omega), w_pred (by omega) (by omega)], by omega, by omega, by omega, by rw [swp_sz]; exact hs1, he, (hf2.trans f3.nil).trans f4, h4⟩, by rw [w_succ (by omega), w_pred (by omega) (by omega)]; simp [intOf] <;> omega⟩
          · refine scan_ia (a := a) h1 (by omega) rfl (by omega) (fun k => k ≤ j ∧ scanDown (fun x => !ltK x d1[a]!) d1 i2 k = scanDown (fun x => !ltK x d1[a]!) d1 i2 (j)) (fun k => k) ⟨j, rfl, by omega, rfl⟩ ?_ ?_ (by decide) (fun _ => by first | exact ⟨rfl, rfl⟩ | trivial) (fun _ => by first | exact ⟨rfl, rfl⟩ | trivial) (fun _ => by first | exact ⟨rfl, rfl⟩ | trivial)
            · rintro k ⟨hk, hke⟩ hg
              simp only [decide_eq_true_eq] at hg
              refine ⟨by omega, fun ht => ⟨k - 1, by rw [w_pred (by omega) (by omega)], ⟨by omega, ?_⟩, by omega⟩⟩
              obtain ⟨k', rfl⟩ : ∃ k', k = k' + 1 := ⟨k - 1, by omega⟩
              rw [scanDown, if_pos (by simp only [Bool.and_eq_true, decide_eq_true_eq]; exact ⟨by omega, ht⟩)] at hke
              exact hke
            · rintro k W3 ⟨hk, hke⟩ hend f3 h3
              simp (config := { decide := true }) only [if_true, if_false]
              refine ⟨?_, hf1.trans f3.nil, h3⟩
              rw [← hke]
              cases k with
              | zero => rfl
              | succ k' =>
                rw [scanDown, if_neg]
                simp only [Bool.and_eq_true, decide_eq_true_eq, not_and]
                intro hle ht
                have := hend (by simp only [decide_eq_true_eq]; omega)
                rw [ltK_of] at this
                rw [this] at ht
                cases ht
        · refine scan_ia (a := a) h1 (by omega) rfl (by omega) (fun k => i ≤ k ∧ (k ≤ i ∨ k ≤ j + 1) ∧ scanUp (fun x => ltK x d1[a]!) d1 j k = scanUp (fun x => ltK x d1[a]!) d1 j i) (fun k => b + 2 - k) ⟨i, rfl, by omega, by omega, rfl⟩ ?_ ?_ (by decide) (fun _ => by first | exact ⟨rfl, rfl⟩ | trivial) (fun _ => by first | exact ⟨rfl, rfl⟩ | trivial) (fun _ => by first | exact ⟨rfl, rfl⟩ | trivial)
          · rintro k ⟨hk1, hk2, hke⟩ hg
            simp only [decide_eq_true_eq] at hg
            refine ⟨by omega, fun ht => ⟨k + 1, by rw [w_succ (by omega)], ⟨by omega, by omega, ?_⟩, by omega⟩⟩
            rw [scanUp, if_pos (by simp only [Bool.and_eq_true, decide_eq_true_eq]; exact ⟨by omega, ht⟩)] at hke
            exact hke
          · rintro k W3 ⟨hk1, hk2, hke⟩ hend f3 h3
            simp (config := { decide := true }) only [if_true, if_false]
            refine ⟨?_, hf.trans f3.nil, h3⟩
            rw [← hke, scanUp, if_neg]
            simp only [Bool.and_eq_true, decide_eq_true_eq, not_and]
            intro hle ht
            have := hend (by simp only [decide_eq_true_eq]; omega)
            rw [ltK_of] at this
            rw [this] at ht
            cases ht
    · refine scan_ia (a := a) h1 (by omega) rfl (by omega) (fun k => k ≤ (b - 1) ∧ scanDown (fun x => !ltK x D[a]!) D i2 k = scanDown (fun x => !ltK x D[a]!) D i2 ((b - 1))) (fun k => k) ⟨(b - 1), rfl, by omega, rfl⟩ ?_ ?_ (by decide) (fun _ => by first | exact ⟨rfl, rfl⟩ | trivial) (fun _ => by first | exact ⟨rfl, rfl⟩ | trivial) (fun _ => by first | exact ⟨rfl, rfl⟩ | trivial)
      · rintro k ⟨hk, hke⟩ hg
        simp only [decide_eq_true_eq] at hg
        refine ⟨by omega, fun ht => ⟨k - 1, by rw [w_pred (by omega) (by omega)], ⟨by omega, ?_⟩, by omega⟩⟩
        obtain ⟨k', rfl⟩ : ∃ k', k = k' + 1 := ⟨k - 1, by omega⟩
        rw [scanDown, if_pos (by simp only [Bool.and_eq_true, decide_eq_true_eq]; exact ⟨by omega, ht⟩)] at hke
        exact hke
      · rintro k W3 ⟨hk, hke⟩ hend f3 h3
        simp (config := { decide := true }) only [if_true, if_false]
        refine ⟨?_, hf1.trans f3.nil, h3⟩
        rw [← hke]
        cases k with
        | zero => rfl
        | succ k' =>
          rw [scanDown, if_neg]
          simp only [Bool.and_eq_true, decide_eq_true_eq, not_and]
          intro hle ht
          have := hend (by simp only [decide_eq_true_eq]; omega)
          rw [ltK_of] at this
          rw [this] at ht
          cases ht
  · refine scan_ia (a := a) h1 (by omega) rfl (by omega) (fun k => (a + 1) ≤ k ∧ (k ≤ (a + 1) ∨ k ≤ (b - 1) + 1) ∧ scanUp (fun x => ltK x D[a]!) D (b - 1) k = scanUp (fun x => ltK x D[a]!) D (b - 1) (a + 1)) (fun k => b + 2 - k) ⟨(a + 1), by rw [w_succ (by omega)], by omega, by omega, rfl⟩ ?_ ?_ (by decide) (fun _ => by first | exact ⟨rfl, rfl⟩ | trivial) (fun _ => by first | exact ⟨rfl, rfl⟩ | trivial) (fun _ => by first | exact ⟨rfl, rfl⟩ | trivial)
    · rintro k ⟨hk1, hk2, hke⟩ hg
      simp only [decide_eq_true_eq] at hg
      refine ⟨by omega, fun ht => ⟨k + 1, by rw [w_succ (by omega)], ⟨by omega, by omega, ?_⟩, by omega⟩⟩
      rw [scanUp, if_pos (by simp only [Bool.and_eq_true, decide_eq_true_eq]; exact ⟨by omega, ht⟩)] at hke
      exact hke
    · rintro k W3 ⟨hk1, hk2, hke⟩ hend f3 h3
      simp (config := { decide := true }) only [if_true, if_false]
      refine ⟨?_, hf.trans f3.nil, h3⟩
      rw [← hke, scanUp, if_neg]
      simp only [Bool.and_eq_true, decide_eq_true_eq, not_and]
      intro hle ht
      have := hend (by simp only [decide_eq_true_eq]; omega)
      rw [ltK_of] at this
      rw [this] at ht
      cases ht
end
end Go.Proofs.YtpjcfnnnciknmaaGreat

/- slices.SortFunc at keys, last part: partial insertion, the whole: the keys sorted. -/
set_option linter.unusedVariables false
set_option linter.unusedSimpArgs false
set_option maxRecDepth 100000
namespace Go.Proofs.YtpjcfnnnciknmaaGreat
open Go hiding Expr
open Go.RowKit Tr
open Go.Sort (scanSorted shiftDown shiftUp partialIns partialInsertionSort fixUp fixDown swp PermIn SortedIn Below insertionSort heapSort reverseRange partitionEqual partition)

section
variable {w : World} {g cap L : Nat} {ty : TypeId} {d : Array K} {sp : List Value}

theorem shiftDown_sz : ∀ (j : Nat) (d : Array K), (shiftDown ltK j d).size = d.size
  | 0, _ => rfl
  | j + 1, d => by
    rw [shiftDown]
    split
    · rfl
    · rw [shiftDown_sz, swp_sz]
theorem shiftUp_sz (b : Nat) : ∀ (n j : Nat) (d : Array K), b - j ≤ n → (shiftUp ltK b j d).size = d.size := by
  intro n
  induction n with
  | zero => intro j d h; rw [shiftUp, if_neg (by omega)]
  | succ n ih =>
    intro j d h
    rw [shiftUp]
    split
    · split
      · rfl
      · rw [ih _ _ (by omega), swp_sz]
    · rfl
theorem scanSorted_le (d : Array K) (b : Nat) : ∀ (n i : Nat), b - i ≤ n → i ≤ b → scanSorted ltK d b i ≤ b ∧ i ≤ scanSorted ltK d b i := by
  intro n
  induction n with
  | zero => intro i h hi; rw [scanSorted, if_neg (by simp; omega)]; omega
  | succ n ih =>
    intro i h hi
    rw [scanSorted]
    split
    · rename_i hc
      simp only [Bool.and_eq_true, decide_eq_true_eq] at hc
      have := ih (i + 1) (by omega) (by omega)
      omega
    · omega

theorem pins_c (h : Cells w g ty (KA d sp)) (hL : L = d.size) {a b : Nat} (hab : a < b) (hb : b ≤ d.size) (hsz : d.size < many) :
    Calls Tryz.prog 106 #[.slice (some ⟨g, 0, none⟩) L cap, .int .i64 a, .int .i64 b, .func (.func 48) #[] #[]] w fun e w' =>
      e = .returned (.bool (partialInsertionSort ltK d a b).2) ∧ Fr [g] w w' ∧ Cells w' g ty (KA (partialInsertionSort ltK d a b).1 sp) := by
  apply c106
  simp only [many] at hsz
  refine s_loop (fun vs W => ∃ (i s : Nat) (d' : Array K), vs = [.int .i64 i, .int .i64 ((5 - s : Nat) : Int)] ∧ s ≤ 5 ∧ a + 1 ≤ i ∧ i ≤ b ∧ d'.size = d.size ∧ partialIns ltK a b s i d' = partialInsertionSort ltK d a b ∧ Fr [g] w W ∧ Cells W g ty (KA d' sp))
    (fun vs _ => 5 - (intOf (vs.getD 1 undef)).toNat) ⟨a + 1, 5, d, by rw [w_succ (by omega)]; rfl, by omega, by omega, by omega, rfl, rfl, Fr.refl _ _, h⟩ ?_
  rintro _ j W ⟨i, s, d1, rfl, hs, hi1, hi2, hs1, he, hf, h1⟩
  refine s_asI (s_asI (s_ite (fun g1 => ?_) (fun g1 => ?_)))
  · simp only [decide_eq_true_eq] at g1
    obtain ⟨s', rfl⟩ : ∃ s', s = s' + 1 := ⟨s - 1, by omega⟩
    rw [Sort.partialIns_succ] at he
    have hsc := scanSorted_le d1 b _ i (Nat.le_refl _) hi2
    refine s_blk (fun vs W' => vs = [.int .i64 (scanSorted ltK d1 b i : Nat)] ∧ Fr [g] w W' ∧ Cells W' g ty (KA d1 sp)) ?_ ?_
    · rintro _ _ W1 ⟨rfl, hf1, h1⟩
      generalize scanSorted ltK d1 b i = i2 at *
      refine s_asI (s_ite (fun g2 => ?_) (fun g2 => ?_))
      · simp only [beq_iff_eq] at g2
        rw [if_pos (by omega)] at he
        rw [← he]
        exact s_ret ⟨rfl, hf1, h1⟩
      · simp only [beq_eq_false_iff_ne, ne_eq] at g2
        rw [if_neg (by omega)] at he
        rw [w_sub (by omega) (by omega)]
        refine s_ite (fun g3 => ?_) (fun g3 => ?_)
        · simp only [decide_eq_true_eq] at g3
          rw [if_pos (by omega)] at he
          rw [← he]
          exact s_ret ⟨rfl, hf1, h1⟩
        · simp only [decide_eq_false_iff_not] at g3
          rw [if_neg (by omega)] at he
          refine s_drew fun W2 _ f2 => swapAt (i := i2 - 1) (j := i2) (f2.cells h1 (by simp)) (by omega) (w_pred (by omega) (by omega)) rfl (by omega) (by omega) fun W3 f3 h3 => ?_
          have hf3 := (hf1.trans f2.nil).trans f3
          have hsw := swp_sz d1 i2 (i2 - 1)
          generalize swp d1 i2 (i2 - 1) = d2 at *
          have hfd : (fixDown ltK a i2 d2).size = d2.size := by
            unfold fixDown; split
            · exact shiftDown_sz _ _
            · rfl
          refine s_blk (fun vs W' => Fr [g] w W' ∧ Cells W' g ty (KA (fixDown ltK a i2 d2) sp)) ?_ ?_
          · rintro vs _ W4 ⟨hf4, h4⟩
            generalize fixDown ltK a i2 d2 = d3 at *
            rw [w_sub (by omega) (by omega)]
            have hcast : IntKind.wrap .i64 (((5 - (s' + 1) : Nat) : Int) + 1) = ((5 - s' : Nat) : Int) := by rw [w_succ (by omega)]; omega
            have leave : ∀ {W : World} {d4 : Array K}, fixUp ltK b i2 d3 = d4 → Fr [g] w W → Cells W g ty (KA d4 sp) →
                (∃ (i s : Nat) (d' : Array K), ([.int .i64 i2, .int .i64 (IntKind.wrap .i64 (((5 - (s' + 1) : Nat) : Int) + 1))] : List Value) = [.int .i64 i, .int .i64 ((5 - s : Nat) : Int)] ∧ s ≤ 5 ∧ a + 1 ≤ i ∧ i ≤ b ∧ d'.size = d.size ∧ partialIns ltK a b s i d' = partialInsertionSort ltK d a b ∧ Fr [g] w W ∧ Cells W g ty (KA d' sp)) ∧
                5 - (intOf (([.int .i64 i2, .int .i64 (IntKind.wrap .i64 (((5 - (s' + 1) : Nat) : Int) + 1))] : List Value).getD 1 undef)).toNat < 5 - (intOf (([.int .i64 i, .int .i64 ((5 - (s' + 1) : Nat) : Int)] : List Value).getD 1 undef)).toNat := by
              intro W d4 hd hf hc
              refine ⟨⟨i2, s', d4, by rw [hcast], by omega, by omega, by omega, ?_, ?_, hf, hc⟩, by rw [hcast]; simp [intOf]; omega⟩
              · rw [← hd]; unfold fixUp; split
                · rw [shiftUp_sz _ _ _ _ (Nat.le_refl _)]; omega
                · omega
              · rw [hd] at he; exact he
            refine s_ite (fun g4 => ?_) (fun g4 => s_next (by first | exact ⟨rfl, rfl⟩ | trivial) ?_)
            · simp only [decide_eq_true_eq] at g4
              refine s_loop (fun vs W => ∃ (k : Nat) (d' : Array K), vs = [.int .i64 k] ∧ i2 + 1 ≤ k ∧ k ≤ b ∧ d'.size = d.size ∧ shiftUp ltK b k d' = shiftUp ltK b (i2 + 1) d3 ∧ Fr [g] w W ∧ Cells W g ty (KA d' sp))
                (fun vs _ => b - (intOf (vs.getD 0 undef)).toNat) ⟨i2 + 1, d3, by rw [w_succ (by omega)], by omega, by omega, by omega, rfl, hf4, h4⟩ ?_
              rintro _ j2 W5 ⟨k, d5, rfl, hk1, hk2, hs5, he5, hf5, h5⟩
              have hfu : fixUp ltK b i2 d3 = shiftUp ltK b (i2 + 1) d3 := by unfold fixUp; rw [if_pos (by omega)]
              rw [shiftUp] at he5
              refine s_asI (s_ite (fun g5 => ?_) (fun g5 => s_next (by first | exact ⟨rfl, rfl⟩ | trivial) ?_))
              · simp only [decide_eq_true_eq] at g5
                rw [if_pos (by omega)] at he5
                refine s_drew fun W6 _ f6 => cmpAt (i := k) (j := k - 1) (f6.cells h5 (by simp)) (by omega) rfl (w_pred (by omega) (by omega)) (by omega) (by omega) fun W7 f7 h7 => s_chk c_nil ?_
                have hf7 := (hf5.trans f6.nil).trans f7.nil
                rw [ltK_of]
                refine s_ite (fun g6 => s_next (by first | exact ⟨rfl, rfl⟩ | trivial) ?_) (fun g6 => ?_)
                · rw [if_pos g6] at he5
                  simp (config := { decide := true }) only [if_true, if_false]
                  exact leave (by rw [hfu, ← he5]) hf7 h7
                · rw [if_neg (by rw [g6]; simp)] at he5
                  refine s_drew fun W8 _ f8 => swapAt (i := k - 1) (j := k) (f8.cells h7 (by simp)) (by omega) (w_pred (by omega) (by omega)) rfl (by omega) (by omega) fun W9 f9 h9 => s_next (by first | exact ⟨rfl, rfl⟩ | trivial) ?_
                  simp (config := { decide := true }) only [if_true, if_false]
                  exact ⟨⟨k + 1, _, by rw [w_succ (by omega)], by omega, by omega, by rw [swp_sz]; exact hs5, he5, (hf7.trans f8.nil).trans f9, h9⟩, by rw [w_succ (by omega)]; simp [intOf] <;> omega⟩
              · simp only [decide_eq_false_iff_not] at g5
                rw [if_neg (by omega)] at he5
                simp (config := { decide := true }) only [if_true, if_false]
                exact leave (by rw [hfu, ← he5]) hf5 h5
            · simp only [decide_eq_false_iff_not] at g4
              simp (config := { decide := true }) only [if_true, if_false]
              exact leave (by unfold fixUp; rw [if_neg (by omega)]) hf4 h4
          · rw [w_sub (by omega) (by omega)]
            refine s_ite (fun g4 => ?_) (fun g4 => s_next (by first | exact ⟨rfl, rfl⟩ | trivial) ?_)
            · simp only [decide_eq_true_eq] at g4
              have hfdn : fixDown ltK a i2 d2 = shiftDown ltK (i2 - 1) d2 := by unfold fixDown; rw [if_pos (by omega)]
              refine s_loop (fun vs W => ∃ (k : Nat) (d' : Array K), vs = [.int .i64 k] ∧ k ≤ i2 - 1 ∧ d'.size = d.size ∧ shiftDown ltK k d' = shiftDown ltK (i2 - 1) d2 ∧ Fr [g] w W ∧ Cells W g ty (KA d' sp))
                (fun vs _ => (intOf (vs.getD 0 undef)).toNat) ⟨i2 - 1, d2, by rw [w_pred (by omega) (by omega)], by omega, by omega, rfl, hf3, h3⟩ ?_
              rintro _ j2 W5 ⟨k, d5, rfl, hk1, hs5, he5, hf5, h5⟩
              refine s_asI (s_ite (fun g5 => ?_) (fun g5 => s_next (by first | exact ⟨rfl, rfl⟩ | trivial) ?_))
              · simp only [decide_eq_true_eq] at g5
                obtain ⟨k', rfl⟩ : ∃ k', k = k' + 1 := ⟨k - 1, by omega⟩
                rw [shiftDown] at he5
                refine s_drew fun W6 _ f6 => cmpAt (i := k' + 1) (j := k') (f6.cells h5 (by simp)) (by omega) rfl (w_pred (by omega) (by omega)) (by omega) (by omega) fun W7 f7 h7 => s_chk c_nil ?_
                have hf7 := (hf5.trans f6.nil).trans f7.nil
                rw [ltK_of]
                refine s_ite (fun g6 => s_next (by first | exact ⟨rfl, rfl⟩ | trivial) ?_) (fun g6 => ?_)
                · rw [if_pos g6] at he5
                  simp (config := { decide := true }) only [if_true, if_false]
                  rw [hfdn, ← he5]
                  exact ⟨hf7, h7⟩
                · rw [if_neg (by rw [g6]; simp)] at he5
                  refine s_drew fun W8 _ f8 => swapAt (i := k') (j := k' + 1) (f8.cells h7 (by simp)) (by omega) (w_pred (by omega) (by omega)) rfl (by omega) (by omega) fun W9 f9 h9 => s_next (by first | exact ⟨rfl, rfl⟩ | trivial) ?_
                  simp (config := { decide := true }) only [if_true, if_false]
                  exact ⟨⟨k', _, by rw [w_pred (by omega) (by omega)]; rfl, by omega, by rw [swp_sz]; exact hs5, he5, (hf7.trans f8.nil).trans f9, h9⟩, by rw [w_pred (by omega) (by omega)]; simp [intOf] <;> omega⟩
              · simp only [decide_eq_false_iff_not] at g5
                obtain rfl : k = 0 := by omega
                rw [shiftDown] at he5
                simp (config := { decide := true }) only [if_true, if_false]
                rw [hfdn, ← he5]
                exact ⟨hf5, h5⟩
            · simp only [decide_eq_false_iff_not] at g4
              simp (config := { decide := true }) only [if_true, if_false]
              have hfdn : fixDown ltK a i2 d2 = d2 := by unfold fixDown; rw [if_neg (by omega)]
              rw [hfdn]
              exact ⟨hf3, h3⟩
    · refine s_loop (fun vs W => ∃ k : Nat, vs = [.int .i64 k] ∧ i ≤ k ∧ k ≤ b ∧ scanSorted ltK d1 b k = scanSorted ltK d1 b i ∧ Fr [g] w W ∧ Cells W g ty (KA d1 sp))
        (fun vs _ => b - (intOf (vs.getD 0 undef)).toNat) ⟨i, rfl, by omega, by omega, rfl, hf, h1⟩ ?_
      rintro _ j2 W5 ⟨k, rfl, hk1, hk2, he5, hf5, h5⟩
      rw [scanSorted] at he5
      refine s_asI (s_drew fun W6 _ f6 => s_ite (fun g5 => ?_) (fun g5 => s_chk c_nil (s_next (by first | exact ⟨rfl, rfl⟩ | trivial) ?_)))
      · simp only [decide_eq_true_eq] at g5
        refine cmpAt (i := k) (j := k - 1) (f6.cells h5 (by simp)) (by omega) rfl (w_pred (by omega) (by omega)) (by omega) (by omega) fun W7 f7 h7 => s_chk c_nil ?_
        have hf7 := (hf5.trans f6.nil).trans f7.nil
        rw [ltK_of]
        refine s_ite (fun g6 => s_next (by first | exact ⟨rfl, rfl⟩ | trivial) ?_) (fun g6 => s_next (by first | exact ⟨rfl, rfl⟩ | trivial) ?_)
        · rw [if_pos (by simp only [Bool.and_eq_true, decide_eq_true_eq]; exact ⟨by omega, g6⟩)] at he5
          simp (config := { decide := true }) only [if_true, if_false]
          exact ⟨⟨k + 1, by rw [w_succ (by omega)], by omega, by omega, he5, hf7, h7⟩, by rw [w_succ (by omega)]; simp [intOf] <;> omega⟩
        · rw [if_neg (by rw [g6]; simp)] at he5
          simp (config := { decide := true }) only [if_true, if_false]
          rw [← he5]
          exact ⟨rfl, hf7, h7⟩
      · simp only [decide_eq_false_iff_not] at g5
        rw [if_neg (by simp; omega)] at he5
        simp (config := { decide := true }) only [if_true, if_false]
        rw [← he5]
        exact ⟨rfl, hf5.trans f6.nil, f6.cells h5 (by simp)⟩
  · simp only [decide_eq_false_iff_not] at g1
    obtain rfl : s = 0 := by omega
    rw [show partialIns ltK a b 0 i d1 = (d1, false) from rfl] at he
    rw [← he]
    exact s_ret ⟨rfl, hf, h1⟩

theorem pdq_c : ∀ (n : Nat) {w : World} {d : Array K} {a b : Nat} {lim : Int}, b - a ≤ n → Cells w g ty (KA d sp) → L = d.size → a ≤ b → b ≤ d.size → Below ltK a b d → d.size < many →
    Calls Tryz.prog 84 #[.slice (some ⟨g, 0, none⟩) L cap, .int .i64 a, .int .i64 b, .int .i64 lim, .func (.func 48) #[] #[]] w fun e w' =>
      ∃ d', (∃ v, e = .returned v) ∧ PermIn a b d d' ∧ SortedIn ltK a b d' ∧ Fr [g] w w' ∧ Cells w' g ty (KA d' sp) := by
  intro n
  induction n with
  | zero => ?_
  | succ n ih => ?_
  all_goals
    intro w d a b lim hn h hL hab hb hB hsz
    apply c84
    have hsz' := hsz
    simp only [many] at hsz'
    refine s_loop (fun vs W => ∃ (a' b' : Nat) (lim' : Int) (wb wp : Bool) (d1 : Array K), vs = [.int .i64 a', .int .i64 b', .int .i64 lim', .bool wb, .bool wp] ∧ a ≤ a' ∧ a' ≤ b' ∧ b' ≤ b ∧ d1.size = d.size ∧ Below ltK a' b' d1 ∧
        (∀ R, PermIn a' b' d1 R → SortedIn ltK a' b' R → PermIn a b d R ∧ SortedIn ltK a b R) ∧ Fr [g] w W ∧ Cells W g ty (KA d1 sp))
      (fun vs _ => (intOf (vs.getD 1 undef) - intOf (vs.getD 0 undef)).toNat) ⟨a, b, lim, true, true, d, rfl, by omega, by omega, by omega, rfl, hB, fun R h1 h2 => ⟨h1, h2⟩, Fr.refl _ _, h⟩ ?_
    rintro _ j W ⟨a', b', lim', wb, wp, d1, rfl, ha', hab', hb', hs1, hB1, hgo, hf, h1⟩
    refine s_asI (s_asI (s_asI (s_asB (s_asB ?_))))
    rw [w_sub (by omega) (by omega)]
    refine s_ite (fun g1 => s_call (ins_c h1 (by omega) hab' (by omega) (by rw [hs1]; exact hsz)) ?_) (fun g1 => ?_)
    · rintro _ W1 ⟨⟨v, rfl⟩, f1, h1⟩
      obtain ⟨p1, p2⟩ := Sort.insertionSort_holds swoK d1 a' b' hab' (by omega)
      obtain ⟨q1, q2⟩ := hgo _ p1 p2
      exact ⟨_, rfl, s_ret ⟨_, ⟨_, rfl⟩, q1, q2, hf.trans f1, h1⟩⟩
    simp only [decide_eq_false_iff_not] at g1
  · omega
  · refine s_ite (fun g2 => s_call (heap_c h1 (by omega) (show a' < b' by omega) (by omega) (by rw [hs1]; exact hsz)) ?_) (fun g2 => ?_)
    · rintro _ W1 ⟨⟨v, rfl⟩, f1, h1⟩
      obtain ⟨p1, p2⟩ := Sort.heapSort_holds swoK d1 a' b' hab' (by omega)
      obtain ⟨q1, q2⟩ := hgo _ p1 p2
      exact ⟨_, rfl, s_ret ⟨_, ⟨_, rfl⟩, q1, q2, hf.trans f1, h1⟩⟩
    refine s_blk (fun vs W' => ∃ (l2 : Int) (d2 : Array K), vs = [.int .i64 l2] ∧ PermIn a' b' d1 d2 ∧ Fr [g] w W' ∧ Cells W' g ty (KA d2 sp)) ?_ ?_
    · rintro _ _ W1 ⟨l2, d2, rfl, hp2, hf2, h2⟩
      have hs2 : d2.size = d.size := by rw [hp2.1, hs1]
      refine s_asI (s_call (piv_c h2 (by omega) (show a' < b' by omega) (by omega) (by rw [hs2]; exact hsz)) ?_)
      rintro _ W2 ⟨p, q, hpa, hpb, rfl, f2⟩
      refine ⟨_, rfl, s_asU (s_req rfl (s_asI (s_asI ?_)))⟩
      refine s_blk (fun vs W' => ∃ (p3 : Nat) (q3 : Int) (d3 : Array K), vs = [.int .i64 p3, .int .i64 q3] ∧ a' ≤ p3 ∧ p3 < b' ∧ PermIn a' b' d1 d3 ∧ Fr [g] w W' ∧ Cells W' g ty (KA d3 sp)) ?_ ?_
      · rintro _ _ W3 ⟨p3, q3, d3, rfl, hp3a, hp3b, hp3, hf3, h3⟩
        have hs3 : d3.size = d.size := by rw [hp3.1, hs1]
        refine s_asI (s_asI ?_)
        refine s_blk (fun vs W' => ∃ (d4 : Array K), PermIn a' b' d1 d4 ∧ Fr [g] w W' ∧ Cells W' g ty (KA d4 sp)) ?_ ?_
        · rintro vs _ W4 ⟨d4, hp4, hf4, h4⟩
          have hs4 : d4.size = d.size := by rw [hp4.1, hs1]
          have hB4 : Below ltK a' b' d4 := hB1.perm (by omega) hp4
          refine s_blk (fun vs W' => vs = [.int .i64 a'] ∧ Fr [g] w W' ∧ Cells W' g ty (KA d4 sp)) ?_ ?_
          · rintro _ _ W5 ⟨rfl, hf5, h5⟩
            refine s_asI (s_call (part_c h5 (by omega) (show a' < b' by omega) (by omega) hp3a hp3b (by rw [hs4]; exact hsz)) ?_)
            rintro _ W6 ⟨rfl, f6, h6⟩
            refine ⟨_, rfl, s_asU (s_req rfl (s_asI (s_asB (s_req (by decide) ?_))))⟩
            obtain ⟨r1, r2, r3, r4, r5, r6, r7⟩ := Sort.round_part swoK (Sort.partition_holds ltK) hp3a hp3b (by omega) hB4 (show partition ltK d4 a' b' p3 = ((partition ltK d4 a' b' p3).1, (partition ltK d4 a' b' p3).2.1, (partition ltK d4 a' b' p3).2.2) from rfl)
            have hf6 := hf5.trans f6
            generalize partition ltK d4 a' b' p3 = R at *
            obtain ⟨mid, ap, d6⟩ := R
            simp only at *
            refine s_ite (fun g3 => ?_) (fun g3 => ?_)
            · refine s_call (ih (a := a') (b := mid) (by omega) h6 (by omega) (by omega) (by omega) r4 (by rw [r3, hs4]; exact hsz)) ?_
              rintro _ W7 ⟨d7, ⟨v, rfl⟩, p7, s7, f7, h7⟩
              refine ⟨_, rfl, s_next (by first | exact ⟨rfl, rfl⟩ | trivial) ?_⟩
              simp (config := { decide := true }) only [if_true, if_false]
              obtain ⟨t1, t2⟩ := r6 d7 p7 s7
              refine ⟨⟨mid + 1, b', _, _, _, d7, by rw [w_succ (by omega)], by omega, by omega, hb', by rw [p7.1, r3, hs4], t1, fun R u1 u2 => ?_, hf6.trans f7, h7⟩, by rw [w_succ (by omega)]; simp [intOf] <;> omega⟩
              obtain ⟨v1, v2⟩ := t2 R u1 u2
              exact hgo R (Sort.permIn_trans _ _ _ a' b' hp4 v1) v2
            · rw [w_succ (by omega)]
              refine s_call (ih (a := mid + 1) (b := b') (by omega) h6 (by omega) (by omega) (by omega) r5 (by rw [r3, hs4]; exact hsz)) ?_
              rintro _ W7 ⟨d7, ⟨v, rfl⟩, p7, s7, f7, h7⟩
              refine ⟨_, rfl, s_next (by first | exact ⟨rfl, rfl⟩ | trivial) ?_⟩
              simp (config := { decide := true }) only [if_true, if_false]
              obtain ⟨t1, t2⟩ := r7 d7 p7 s7
              refine ⟨⟨a', mid, _, _, _, d7, rfl, by omega, by omega, by omega, by rw [p7.1, r3, hs4], t1, fun R u1 u2 => ?_, hf6.trans f7, h7⟩, by simp [intOf] <;> omega⟩
              obtain ⟨v1, v2⟩ := t2 R u1 u2
              exact hgo R (Sort.permIn_trans _ _ _ a' b' hp4 v1) v2
          · refine s_drew fun W5 _ f5 => s_ite (fun g3 => ?_) (fun g3 => s_chk c_nil (s_next (by first | exact ⟨rfl, rfl⟩ | trivial) ?_))
            · simp only [decide_eq_true_eq] at g3
              refine cmpAt (i := a' - 1) (j := p3) (f5.cells h4 (by simp)) (by omega) (w_pred (by omega) (by omega)) rfl (by omega) (by omega) fun W6 f6 h6 => s_chk c_nil ?_
              rw [ltK_of]
              refine s_ite (fun g4 => ?_) (fun g4 => s_next (by first | exact ⟨rfl, rfl⟩ | trivial) ?_)
              · refine s_call (peq_c h6 (by omega) (show a' < b' by omega) (by omega) hp3a hp3b (by rw [hs4]; exact hsz)) ?_
                rintro _ W7 ⟨rfl, f7, h7⟩
                refine ⟨_, rfl, s_asI (s_next (by first | exact ⟨rfl, rfl⟩ | trivial) ?_)⟩
                simp (config := { decide := true }) only [if_true, if_false]
                obtain ⟨r1, r2, r3, r4, r5⟩ := Sort.round_eq swoK (Sort.partitionEqual_holds ltK) (by omega) hp3a hp3b (by omega) hB4 (by simpa using g4) (show partitionEqual ltK d4 a' b' p3 = ((partitionEqual ltK d4 a' b' p3).1, (partitionEqual ltK d4 a' b' p3).2) from rfl)
                refine ⟨⟨_, b', _, _, _, _, rfl, by omega, by omega, hb', by rw [r3, hs4], r4, fun R u1 u2 => ?_, ((hf4.trans f5.nil).trans f6.nil).trans f7, h7⟩, by simp [intOf] <;> omega⟩
                obtain ⟨v1, v2⟩ := r5 R u1 u2
                exact hgo R (Sort.permIn_trans _ _ _ a' b' hp4 v1) v2
              · simp (config := { decide := true }) only [if_true, if_false]
                exact ⟨trivial, (hf4.trans f5.nil).trans f6.nil, h6⟩
            · simp (config := { decide := true }) only [if_true, if_false]
              exact ⟨trivial, hf4.trans f5.nil, f5.cells h4 (by simp)⟩
        · have stay : ∃ (d4 : Array K), PermIn a' b' d1 d4 ∧ Fr [g] w W3 ∧ Cells W3 g ty (KA d4 sp) := ⟨d3, hp3, hf3, h3⟩
          refine s_ite (fun g3 => s_ite (fun g4 => s_ite (fun g5 => ?_) (fun g5 => s_next (by first | exact ⟨rfl, rfl⟩ | trivial) ?_)) (fun g4 => s_next (by first | exact ⟨rfl, rfl⟩ | trivial) ?_)) (fun g3 => s_next (by first | exact ⟨rfl, rfl⟩ | trivial) ?_)
          · refine s_call (pins_c h3 (by omega) (show a' < b' by omega) (by omega) (by rw [hs3]; exact hsz)) ?_
            rintro _ W4 ⟨rfl, f4, h4⟩
            obtain ⟨r1, r2⟩ := Sort.partialInsertionSort_holds swoK d3 a' b' (by omega) (by omega) (hB1.perm (by omega) hp3)
            have hp4 := Sort.permIn_trans _ _ _ a' b' hp3 r1
            refine ⟨_, rfl, s_asB (s_ite (fun g6 => ?_) (fun g6 => s_next (by first | exact ⟨rfl, rfl⟩ | trivial) ?_))⟩
            · obtain ⟨q1, q2⟩ := hgo _ hp4 (r2 g6)
              exact s_ret ⟨_, ⟨_, rfl⟩, q1, q2, hf3.trans f4, h4⟩
            · simp (config := { decide := true }) only [if_true, if_false]
              exact ⟨_, hp4, hf3.trans f4, h4⟩
          all_goals
            simp (config := { decide := true }) only [if_true, if_false]
            exact stay
      · refine s_ite (fun g3 => s_call (rev_c (f2.cells h2 (by simp)) (by omega) (show a' < b' by omega) (by omega) (by rw [hs2]; exact hsz)) ?_) (fun g3 => s_next (by first | exact ⟨rfl, rfl⟩ | trivial) ?_)
        · rintro _ W3 ⟨⟨v, rfl⟩, f3, h3⟩
          refine ⟨_, rfl, s_next (by first | exact ⟨rfl, rfl⟩ | trivial) ?_⟩
          simp (config := { decide := true }) only [if_true, if_false]
          rw [w_pred (by omega) (by omega), w_sub (i := p) (j := a') (by omega) (by omega), w_sub (by omega) (by omega)]
          exact ⟨b' - 1 - (p - a'), 1, _, rfl, by omega, by omega, Sort.permIn_trans _ _ _ a' b' hp2 (Sort.reverseRange_holds d2 a' b' hab' (by omega)), (hf2.trans f2.nil).trans f3, h3⟩
        · simp (config := { decide := true }) only [if_true, if_false]
          exact ⟨p, q, d2, rfl, hpa, hpb, hp2, hf2.trans f2.nil, f2.cells h2 (by simp)⟩
    · refine s_ite (fun g3 => s_call (brk_c h1 (by omega) hab' (by omega) (by rw [hs1]; exact hsz)) ?_) (fun g3 => s_next (by first | exact ⟨rfl, rfl⟩ | trivial) ?_)
      · rintro _ W1 ⟨d2, ⟨v, rfl⟩, p2, f2, h2⟩
        refine ⟨_, rfl, s_next (by first | exact ⟨rfl, rfl⟩ | trivial) ?_⟩
        simp (config := { decide := true }) only [if_true, if_false]
        exact ⟨_, d2, rfl, p2, hf.trans f2, h2⟩
      · simp (config := { decide := true }) only [if_true, if_false]
        exact ⟨_, d1, rfl, Sort.permIn_refl d1 a' b', hf, h1⟩

theorem len0_c {w : World} : Calls Tryz.prog 50 #[.int .u64 ((0 : Nat) : Int)] w fun e w' => (∃ lim : Int, e = .returned (.int .i64 lim)) ∧ w = w' := by
  apply c50
  refine s_call (R := fun e w' => (∃ lim : Int, e = .returned (.int .i64 lim)) ∧ w = w') ?_ ?_
  · apply c78
    unfold t78
    exact s_false (by decide) (s_false (by decide) (s_false (by decide) (s_req (by decide) (s_ret ⟨⟨_, rfl⟩, rfl⟩))))
  · rintro _ _ ⟨⟨lim, rfl⟩, rfl⟩
    exact ⟨_, rfl, s_asI (s_ret ⟨⟨_, rfl⟩, rfl⟩)⟩

def leK (x y : K) : Bool := !ltK y x
/-- The keys, sorted. -/
theorem sort_c {ks : List K} (h : Cells w g ty ((ks.map kr).flatten ++ sp)) (hL : L = ks.length) (hsz : ks.length < many) :
    Calls Tryz.prog 63 #[.slice (some ⟨g, 0, none⟩) L cap, .func (.func 48) #[] #[]] w fun e w' =>
      (∃ v, e = .returned v) ∧ Fr [g] w w' ∧ Cells w' g ty (((ks.mergeSort leK).map kr).flatten ++ sp) := by
  apply c63
  have hsz' := hsz
  simp only [many] at hsz'
  have h : Cells w g ty (KA ks.toArray sp) := by unfold KA; exact h
  have hs : ks.toArray.size = ks.length := by simp
  unfold t63
  have lencall : Calls Tryz.prog 50 #[.int .u64 (IntKind.wrap .u64 (L : Int))] w fun e w' => (∃ lim : Int, e = .returned (.int .i64 lim)) ∧ w = w' := by
    subst hL
    rw [wrapU (by omega) (by omega)]
    rcases Nat.eq_zero_or_pos ks.length with h0 | h0
    · rw [h0]
      exact len0_c
    · exact (len_c (w := w) ks.length h0 (by omega)).mono fun e w' ⟨z, he, _, _, hw⟩ => ⟨⟨z, he⟩, hw⟩
  refine s_call lencall ?_
  rintro _ _ ⟨⟨lim, rfl⟩, rfl⟩
  refine ⟨_, rfl, s_asI (s_call (pdq_c ks.length (a := 0) (b := L) (by omega) h (by omega) (by omega) (by omega) (.inl rfl) (by rw [hs]; exact hsz)) ?_)⟩
  rintro _ w1 ⟨d', ⟨v, rfl⟩, p1, s1, f1, h1⟩
  refine ⟨_, rfl, s_ret ⟨⟨_, rfl⟩, f1, ?_⟩⟩
  have hL' : L = ks.toArray.size := by omega
  rw [hL'] at p1 s1
  have := Sort.sorted_unique_holds (lt := ltK) swoK (fun x y h1 h2 => ltK_eq h1 h2) ks.toArray d' p1 s1
  unfold KA at h1
  rw [this] at h1
  exact h1
end
end Go.Proofs.YtpjcfnnnciknmaaGreat

/- Keys in order, each once: plain facts. -/
set_option linter.unusedVariables false
set_option linter.unusedSimpArgs false
namespace Go.Proofs.YtpjcfnnnciknmaaGreat
open Go hiding Expr

/-- Neighbours that are the same, once; p: what stood ahead. -/
def compL : Option K → List K → List K
  | _, [] => []
  | p, x :: r => if p = some x then compL (some x) r else x :: compL (some x) r
def lastOf : Option K → List K → Option K
  | p, [] => p
  | _, x :: r => lastOf (some x) r
theorem compL_snoc (l : List K) (x : K) : ∀ p, compL p (l ++ [x]) = compL p l ++ (if lastOf p l = some x then [] else [x]) := by
  induction l with
  | nil =>
    intro p
    by_cases h : p = some x <;> simp [compL, lastOf, h]
  | cons a r ih =>
    intro p
    by_cases h : p = some a <;> simp [compL, lastOf, h, ih] <;> rfl
theorem lastOf_snoc (l : List K) (x : K) : ∀ p, lastOf p (l ++ [x]) = some x := by
  induction l with
  | nil => intro p; rfl
  | cons a r ih => intro p; exact ih _
theorem lastOf_take {l : List K} {i : Nat} {x : K} (h : l[i]? = some x) : lastOf none (l.take (i + 1)) = some x := by
  rw [List.take_add_one, h]
  exact lastOf_snoc _ _ _
theorem compL_step {l : List K} {i : Nat} {x y : K} (hx : l[i]? = some x) (hy : l[i + 1]? = some y) : compL none (l.take (i + 2)) = compL none (l.take (i + 1)) ++ (if x = y then [] else [y]) := by
  rw [List.take_add_one (i := i + 1), hy, Option.toList_some, compL_snoc, lastOf_take hx]
  simp
theorem compL_len (l : List K) : ∀ p, (compL p l).length ≤ l.length := by
  induction l with
  | nil => intro p; simp [compL]
  | cons a r ih => intro p; have := ih (some a); simp only [compL]; split <;> simp <;> omega
theorem compL_mem (l : List K) : ∀ (p : Option K) (x : K), (x ∈ compL p l → x ∈ l) ∧ (x ∈ l → p = some x ∨ x ∈ compL p l) := by
  induction l with
  | nil => intro p x; simp [compL]
  | cons a r ih =>
    intro p x
    obtain ⟨h1, h2⟩ := ih (some a) x
    simp only [compL]
    split
    · rename_i hp
      refine ⟨fun h => by simp [h1 h], fun h => ?_⟩
      rcases List.mem_cons.1 h with rfl | h
      · exact .inl hp
      · rcases h2 h with h | h
        · simp only [Option.some.injEq] at h; subst h; exact .inl hp
        · exact .inr h
    · rename_i hp
      refine ⟨fun h => ?_, fun h => ?_⟩
      · rcases List.mem_cons.1 h with rfl | h
        · simp
        · simp [h1 h]
      · rcases List.mem_cons.1 h with rfl | h
        · right; simp
        · rcases h2 h with h | h
          · simp only [Option.some.injEq] at h; subst h; right; simp
          · right; simp [h]

abbrev Rising (l : List K) : Prop := l.Pairwise (fun a b => ltK a b = true)
theorem leK_iff (a b : K) : leK a b = true ↔ ltK b a = false := by unfold leK; simp
theorem lt_of_le_ne {a b : K} (h : leK a b = true) (hne : a ≠ b) : ltK a b = true := by
  cases hc : ltK a b with
  | true => rfl
  | false => exact absurd (ltK_eq hc ((leK_iff a b).1 h)) hne
theorem compL_rising (l : List K) : ∀ (p : Option K), l.Pairwise (fun a b => leK a b = true) → (∀ q, p = some q → ∀ x ∈ l, leK q x = true) → Rising (compL p l) ∧ ∀ q, p = some q → ∀ x ∈ compL p l, ltK q x = true := by
  induction l with
  | nil => intro p _ _; exact ⟨List.Pairwise.nil, by simp [compL]⟩
  | cons a r ih =>
    intro p hp hq
    obtain ⟨ha, hr⟩ := List.pairwise_cons.1 hp
    obtain ⟨h1, h2⟩ := ih (some a) hr (fun q hq x hx => by simp only [Option.some.injEq] at hq; subst hq; exact ha x hx)
    simp only [compL]
    split
    · rename_i hpa
      refine ⟨h1, fun q hq' x hx => ?_⟩
      rw [hpa] at hq'
      exact h2 q hq' x hx
    · rename_i hpa
      refine ⟨List.pairwise_cons.2 ⟨fun x hx => h2 a rfl x hx, h1⟩, fun q hq' x hx => ?_⟩
      have hqa : ltK q a = true := lt_of_le_ne (hq q hq' a (by simp)) (fun e => hpa (by rw [hq', e]))
      rcases List.mem_cons.1 hx with rfl | hx
      · exact hqa
      · exact swoK.trans _ _ _ hqa (h2 a rfl x hx)

/-- The keys of a list, rising, each once. -/
def KS (l : List K) : List K := compL none (l.mergeSort leK)
theorem sorted_le (l : List K) : (l.mergeSort leK).Pairwise (fun a b => leK a b = true) := by
  refine List.pairwise_mergeSort (le := leK) ?_ ?_ l
  · intro a b c h1 h2
    rw [leK_iff] at *
    exact swoK.ntrans _ _ _ h2 h1
  · intro a b
    unfold leK
    cases h : ltK b a with
    | false => rfl
    | true => rw [Sort.SWO.asymm swoK h]; rfl
theorem KS_rising (l : List K) : Rising (KS l) := (compL_rising _ none (sorted_le l) (by simp)).1
theorem KS_mem (l : List K) (x : K) : x ∈ KS l ↔ x ∈ l := by
  have h := compL_mem (l.mergeSort leK) none x
  have hm := (List.mergeSort_perm l leK).mem_iff (a := x)
  constructor
  · intro hx; exact hm.1 (h.1 hx)
  · intro hx
    rcases h.2 (hm.2 hx) with h | h
    · cases h
    · exact h
theorem KS_len (l : List K) : (KS l).length ≤ l.length := by
  have := compL_len (l.mergeSort leK) none
  rw [List.length_mergeSort] at this
  exact this
theorem rising_nodup {l : List K} (h : Rising l) : l.Nodup := h.imp (fun hab e => by subst e; rw [swoK.irrefl] at hab; cases hab)
/-- Two rising lists of the same keys are the same. -/
theorem rising_ext {a b : List K} (ha : Rising a) (hb : Rising b) (h : ∀ x, x ∈ a ↔ x ∈ b) : a = b := by
  have hp : a.Perm b := (List.perm_ext_iff_of_nodup (rising_nodup ha) (rising_nodup hb)).2 h
  refine List.Perm.eq_of_pairwise (le := fun x y => ltK x y = true) ?_ ha hb hp
  intro x y _ _ h1 h2
  rw [Sort.SWO.asymm swoK h1] at h2
  cases h2
end Go.Proofs.YtpjcfnnnciknmaaGreat
