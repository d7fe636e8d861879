/- slices.SortFunc at keys, its callees, first part: insertion sort, the heap, reversal, the pivot, the patterns. -/
import Derived.Test.YtpjcfnnnciknmaaKeyCmp
set_option linter.unusedVariables false
set_option linter.unusedSimpArgs false
set_option maxRecDepth 100000
namespace Go.Proofs.Ytpjcfnnnciknmaa
open Go hiding Expr
open Go.RowKit Tr
open Go.Sort (insOuter insInner insertionSort siftDown heapBuild heapPop heapSort reverseLoop reverseRange swp PermIn SortedIn Below)

def many : Nat := 2305843009213693952
theorem w_add {i j : Nat} (h : i + j < 9223372036854775807) : IntKind.wrap .i64 ((i : Int) + (j : Int)) = ((i + j : Nat) : Int) := by rw [wrap64 (by omega) (by omega)]; rfl
theorem w_succ {i : Nat} (h : i < 9223372036854775807) : IntKind.wrap .i64 ((i : Int) + 1) = ((i + 1 : Nat) : Int) := by rw [wrap64 (by omega) (by omega)]; rfl
theorem w_sub {i j : Nat} (h : j ≤ i) (h2 : i < 9223372036854775807) : IntKind.wrap .i64 ((i : Int) - (j : Int)) = ((i - j : Nat) : Int) := by rw [wrap64 (by omega) (by omega)]; omega
theorem w_pred {i : Nat} (h : 1 ≤ i) (h2 : i < 9223372036854775807) : IntKind.wrap .i64 ((i : Int) - 1) = ((i - 1 : Nat) : Int) := by rw [wrap64 (by omega) (by omega)]; omega
theorem ltK_of (a b : K) : decide (cmpK a b < 0) = ltK a b := rfl
theorem swp_sz (d : Array K) (i j : Nat) : (swp d i j).size = d.size := by simp [swp]

section
variable {w : World} {g cap L : Nat} {ty : TypeId} {d : Array K} {sp : List Value}

theorem ins_c (h : Cells w g ty (KA d sp)) (hL : L = d.size) {a b : Nat} (hab : a ≤ b) (hb : b ≤ d.size) (hsz : d.size < many) :
    Calls Try.prog 92 #[.slice (some ⟨g, 0, none⟩) L cap, .int .i64 a, .int .i64 b, .func (.func 41) #[] #[]] w fun e w' =>
      (∃ v, e = .returned v) ∧ Fr [g] w w' ∧ Cells w' g ty (KA (insertionSort ltK d a b) sp) := by
  apply c92
  simp only [many] at hsz
  refine s_loop (fun vs W => ∃ (i : Nat) (d' : Array K), vs = [.int .i64 i] ∧ i ≤ b + 1 ∧ d'.size = d.size ∧ insOuter ltK a b i d' = insertionSort ltK d a b ∧ Fr [g] w W ∧ Cells W g ty (KA d' sp))
    (fun vs _ => b - (intOf (vs.getD 0 undef)).toNat) ⟨a + 1, d, by rw [w_succ (by omega)], by omega, rfl, rfl, Fr.refl _ _, h⟩ ?_
  rintro _ j W ⟨i, d1, rfl, hi, hs1, he, hf, h1⟩
  refine s_asI (s_ite (fun g1 => ?_) (fun g1 => ?_))
  · simp only [decide_eq_true_eq] at g1
    have hi' : i < b := by omega
    rw [insOuter, if_pos hi'] at he
    refine s_loop (fun vs W => ∃ (j : Nat) (d2 : Array K), vs = [.int .i64 j] ∧ j ≤ i ∧ d2.size = d.size ∧ insInner ltK a j d2 = insInner ltK a i d1 ∧ Fr [g] w W ∧ Cells W g ty (KA d2 sp))
      (fun vs _ => (intOf (vs.getD 0 undef)).toNat) ⟨i, d1, rfl, by omega, hs1, rfl, hf, h1⟩ ?_
    rintro _ j2 W2 ⟨j, d2, rfl, hj, hs2, he2, hf2, h2⟩
    refine s_asI (s_drew fun W3 _ f3 => ?_)
    have h3 := f3.cells h2 (by simp)
    have hf3 := hf2.trans f3.nil
    have leave : ∀ {W : World}, insInner ltK a j d2 = d2 → Fr [g] w W → Cells W g ty (KA d2 sp) →
        (∃ (i' : Nat) (d' : Array K), ([.int .i64 (IntKind.wrap .i64 ((i : Int) + 1))] : List Value) = [.int .i64 i'] ∧ i' ≤ b + 1 ∧ d'.size = d.size ∧ insOuter ltK a b i' d' = insertionSort ltK d a b ∧ Fr [g] w W ∧ Cells W g ty (KA d' sp)) ∧
          b - (intOf (([.int .i64 (IntKind.wrap .i64 ((i : Int) + 1))] : List Value).getD 0 undef)).toNat < b - (intOf (([.int .i64 i] : List Value).getD 0 undef)).toNat := by
      intro W hid hf hc
      refine ⟨⟨i + 1, d2, by rw [w_succ (by omega)], by omega, hs2, ?_, hf, hc⟩, by rw [w_succ (by omega)]; simp [intOf] <;> omega⟩
      rw [← he2, hid] at he
      exact he
    refine s_ite (fun g2 => ?_) (fun g2 => s_chk c_nil (s_next (by first | exact ⟨rfl, rfl⟩ | trivial) ?_))
    · simp only [decide_eq_true_eq] at g2
      refine cmpAt h3 (by omega) rfl (w_pred (by omega) (by omega)) (by omega) (by omega) fun W4 f4 h4 => s_chk c_nil ?_
      obtain ⟨j', rfl⟩ : ∃ j', j = j' + 1 := ⟨j - 1, by omega⟩
      simp only [Nat.add_sub_cancel] at h4 ⊢
      rw [ltK_of]
      refine s_ite (fun g3 => s_drew fun W5 _ f5 => ?_) (fun g3 => s_next (by first | exact ⟨rfl, rfl⟩ | trivial) ?_)
      · rw [insInner, if_pos (by simp [g3] <;> omega)] at he2
        refine swapAt (i := j') (j := j' + 1) (f5.cells h4 (by simp)) (by omega) (w_pred (by omega) (by omega)) rfl (by omega) (by omega) fun W6 f6 h6 => s_next (by first | exact ⟨rfl, rfl⟩ | trivial) ?_
        simp only [if_true]
        exact ⟨⟨j', swp d2 (j' + 1) j', by rw [w_pred (by omega) (by omega)] <;> rfl, by omega, by rw [swp_sz]; exact hs2, he2, ((hf3.trans f4.nil).trans f5.nil).trans f6, h6⟩, by rw [w_pred (by omega) (by omega)]; simp [intOf]⟩
      · simp (config := { decide := true }) only [if_true, if_false]
        exact leave (by rw [insInner, if_neg (by simp [g3])]) (hf3.trans f4.nil) h4
    · simp only [decide_eq_false_iff_not] at g2
      simp (config := { decide := true }) only [if_true, if_false]
      refine leave ?_ hf3 h3
      cases j with
      | zero => rfl
      | succ j' => rw [insInner, if_neg (by simp; omega)]
  · simp only [decide_eq_false_iff_not] at g1
    rw [insOuter, if_neg (by omega)] at he
    rw [he] at h1
    exact s_ret ⟨⟨_, rfl⟩, hf, h1⟩

/-- What is left to do behind the choice of the child c. -/
def siftAt (hi first root c : Nat) (d : Array K) : Array K := if !ltK d[first + root]! d[first + c]! then d else siftDown ltK hi first c (swp d (first + root) (first + c))
theorem siftDown_eq (hi first root : Nat) (d : Array K) : siftDown ltK hi first root d = if 2 * root + 1 ≥ hi then d else
    if 2 * root + 2 < hi ∧ ltK d[first + (2 * root + 1)]! d[first + (2 * root + 2)]! = true then siftAt hi first root (2 * root + 2) d else siftAt hi first root (2 * root + 1) d := by
  rw [siftDown]
  unfold siftAt
  simp only [Nat.add_assoc, Bool.and_eq_true, decide_eq_true_eq]
  by_cases h1 : 2 * root + 1 ≥ hi
  · rw [dif_pos h1, if_pos h1]
  · rw [dif_neg h1, if_neg h1]
    by_cases h2 : 2 * root + (1 + 1) < hi ∧ ltK d[first + (2 * root + 1)]! d[first + (2 * root + (1 + 1))]! = true
    · have h3 : 2 * root + 2 < hi := h2.1
      rw [if_pos h2, if_pos h2, dif_pos h3]
    · rw [if_neg h2, if_neg h2]

theorem sift_c (h : Cells w g ty (KA d sp)) (hL : L = d.size) {lo hi first : Nat} (hb : first + hi ≤ d.size) (hlo : lo ≤ d.size) (hsz : d.size < many) :
    Calls Try.prog 104 #[.slice (some ⟨g, 0, none⟩) L cap, .int .i64 lo, .int .i64 hi, .int .i64 first, .func (.func 41) #[] #[]] w fun e w' =>
      (∃ v, e = .returned v) ∧ Fr [g] w w' ∧ Cells w' g ty (KA (siftDown ltK hi first lo d) sp) := by
  apply c104
  simp only [many] at hsz
  refine s_loop (fun vs W => ∃ (r : Nat) (d' : Array K), vs = [.int .i64 r] ∧ r ≤ d.size ∧ d'.size = d.size ∧ siftDown ltK hi first r d' = siftDown ltK hi first lo d ∧ Fr [g] w W ∧ Cells W g ty (KA d' sp))
    (fun vs _ => d.size - (intOf (vs.getD 0 undef)).toNat) ⟨lo, d, rfl, hlo, rfl, rfl, Fr.refl _ _, h⟩ ?_
  rintro _ j W ⟨r, d1, rfl, hr, hs1, he, hf, h1⟩
  have w1 : IntKind.wrap .i64 (IntKind.wrap .i64 (2 * (r : Int)) + 1) = ((2 * r + 1 : Nat) : Int) := by
    rw [wrap64 (n := 2 * (r : Int)) (by omega) (by omega), wrap64 (by omega) (by omega)]; rfl
  have w2 : IntKind.wrap .i64 (IntKind.wrap .i64 (IntKind.wrap .i64 (2 * (r : Int)) + 1) + 1) = ((2 * r + 2 : Nat) : Int) := by
    rw [w1, wrap64 (by omega) (by omega)]; rfl
  rw [siftDown_eq] at he
  refine s_asI (s_ite (fun g1 => ?_) (fun g1 => ?_))
  · rw [w1] at g1
    simp only [decide_eq_true_eq] at g1
    rw [if_pos (by omega)] at he
    rw [he] at h1
    exact s_ret ⟨⟨_, rfl⟩, hf, h1⟩
  · rw [w1] at g1
    simp only [decide_eq_false_iff_not] at g1
    rw [if_neg (by omega)] at he
    refine s_blk (fun vs W => ∃ c : Nat, vs = [.int .i64 c] ∧ r < c ∧ c < hi ∧ siftAt hi first r c d1 = siftDown ltK hi first lo d ∧ Fr [g] w W ∧ Cells W g ty (KA d1 sp)) ?_ ?_
    · rintro _ j2 W2 ⟨c, rfl, hrc, hch, he2, hf2, h2⟩
      refine s_asI (s_drew fun W3 _ f3 => ?_)
      have h3 := f3.cells h2 (by simp)
      have hf3 := hf2.trans f3.nil
      refine cmpAt (i := first + r) (j := first + c) h3 (by omega) (w_add (by omega)) (w_add (by omega)) (by omega) (by omega) fun W4 f4 h4 => s_chk c_nil ?_
      rw [ltK_of]
      unfold siftAt at he2
      refine s_ite (fun g3 => ?_) (fun g3 => s_drew fun W5 _ f5 => ?_)
      · rw [if_pos g3] at he2
        rw [he2] at h4
        exact s_ret ⟨⟨_, rfl⟩, hf3.trans f4.nil, h4⟩
      · rw [if_neg (by rw [g3]; simp)] at he2
        refine swapAt (i := first + c) (j := first + r) (f5.cells h4 (by simp)) (by omega) (w_add (by omega)) (w_add (by omega)) (by omega) (by omega) fun W6 f6 h6 => s_next (by first | exact ⟨rfl, rfl⟩ | trivial) ?_
        simp (config := { decide := true }) only [if_true, if_false]
        exact ⟨⟨c, _, rfl, by omega, by rw [swp_sz]; exact hs1, he2, ((hf3.trans f4.nil).trans f5.nil).trans f6, h6⟩, by simp [intOf] <;> omega⟩
    · refine s_drew fun W3 _ f3 => ?_
      have h3 := f3.cells h1 (by simp)
      have hf3 := hf.trans f3.nil
      rw [w2, w1]
      refine s_ite (fun g2 => ?_) (fun g2 => s_chk c_nil (s_next (by first | exact ⟨rfl, rfl⟩ | trivial) ?_))
      · simp only [decide_eq_true_eq] at g2
        have w3 : IntKind.wrap .i64 (IntKind.wrap .i64 ((first : Int) + ((2 * r + 1 : Nat) : Int)) + 1) = ((first + (2 * r + 2) : Nat) : Int) := by
          rw [w_add (by omega), w_succ (by omega)]; rfl
        refine cmpAt (i := first + (2 * r + 1)) (j := first + (2 * r + 2)) h3 (by omega) (w_add (by omega)) w3 (by omega) (by omega) fun W4 f4 h4 => s_chk c_nil ?_
        rw [ltK_of]
        refine s_ite (fun g3 => s_next (by first | exact ⟨rfl, rfl⟩ | trivial) ?_) (fun g3 => s_next (by first | exact ⟨rfl, rfl⟩ | trivial) ?_)
        · rw [if_pos ⟨by omega, g3⟩] at he
          simp only [if_true]
          exact ⟨2 * r + 2, rfl, by omega, by omega, he, hf3.trans f4.nil, h4⟩
        · rw [if_neg (by rw [g3]; simp)] at he
          simp only [if_true]
          exact ⟨2 * r + 1, rfl, by omega, by omega, he, hf3.trans f4.nil, h4⟩
      · simp only [decide_eq_false_iff_not] at g2
        rw [if_neg (fun hc => g2 (by have := hc.1; omega))] at he
        simp only [if_true]
        exact ⟨2 * r + 1, rfl, by omega, by omega, he, hf3, h3⟩

theorem sift_sz (hi first : Nat) : ∀ (n root : Nat) (d : Array K), hi - root ≤ n → (siftDown ltK hi first root d).size = d.size := by
  intro n
  induction n with
  | zero => intro root d h; rw [siftDown_eq, if_pos (by omega)]
  | succ n ih =>
    intro root d h
    rw [siftDown_eq]
    split
    · rfl
    · split
      · unfold siftAt; split
        · rfl
        · rw [ih _ _ (by omega), swp_sz]
      · unfold siftAt; split
        · rfl
        · rw [ih _ _ (by omega), swp_sz]

theorem heap_c (h : Cells w g ty (KA d sp)) (hL : L = d.size) {a b : Nat} (hab : a < b) (hb : b ≤ d.size) (hsz : d.size < many) :
    Calls Try.prog 93 #[.slice (some ⟨g, 0, none⟩) L cap, .int .i64 a, .int .i64 b, .func (.func 41) #[] #[]] w fun e w' =>
      (∃ v, e = .returned v) ∧ Fr [g] w w' ∧ Cells w' g ty (KA (heapSort ltK d a b) sp) := by
  apply c93
  have hsz0 := hsz
  simp only [many] at hsz
  have wn : IntKind.wrap .i64 ((b : Int) - (a : Int)) = ((b - a : Nat) : Int) := w_sub (by omega) (by omega)
  have wn1 : IntKind.wrap .i64 (((b - a : Nat) : Int) - 1) = ((b - a - 1 : Nat) : Int) := w_pred (by omega) (by omega)
  unfold t93
  rw [wn, wn1, show Int.tdiv ((b - a - 1 : Nat) : Int) 2 = (((b - a - 1) / 2 : Nat) : Int) from rfl, wrap64 (n := (((b - a - 1) / 2 : Nat) : Int)) (by omega) (by omega)]
  refine s_req (by decide) ?_
  refine s_loop (fun vs W => ∃ (k : Nat) (d' : Array K), vs = [.int .i64 ((k : Int) - 1)] ∧ k ≤ (b - a - 1) / 2 + 1 ∧ d'.size = d.size ∧ heapPop ltK a (b - a) (heapBuild ltK (b - a) a k d') = heapSort ltK d a b ∧ Fr [g] w W ∧ Cells W g ty (KA d' sp))
    (fun vs _ => ((intOf (vs.getD 0 undef)) + 1).toNat) ⟨(b - a - 1) / 2 + 1, d, by simp <;> omega, by omega, rfl, rfl, Fr.refl _ _, h⟩ ?_
  rintro _ j W ⟨k, d1, rfl, hk, hs1, he, hf, h1⟩
  refine s_asI (s_ite (fun g1 => ?_) (fun g1 => ?_))
  · simp only [decide_eq_true_eq] at g1
    obtain ⟨k', rfl⟩ : ∃ k', k = k' + 1 := ⟨k - 1, by omega⟩
    have hcast : (((k' + 1 : Nat) : Int) - 1) = (k' : Int) := by omega
    rw [hcast]
    refine s_call (sift_c (first := a) (lo := k') (hi := b - a) h1 (by omega) (by omega) (by omega) (by rw [hs1]; exact hsz0)) ?_
    rintro _ W2 ⟨⟨v, rfl⟩, f2, h2⟩
    refine ⟨_, rfl, s_next (by first | exact ⟨rfl, rfl⟩ | trivial) ?_⟩
    simp only [if_true]
    exact ⟨⟨k', _, by rw [wrap64 (by omega) (by omega)], by omega, by rw [sift_sz _ _ _ _ _ (Nat.le_refl _)]; exact hs1, he, hf.trans f2, h2⟩, by rw [wrap64 (by omega) (by omega)]; simp [intOf] <;> omega⟩
  · simp only [decide_eq_false_iff_not] at g1
    obtain rfl : k = 0 := by omega
    simp only [heapBuild] at he
    refine s_loop (fun vs W => ∃ (k : Nat) (d' : Array K), vs = [.int .i64 ((k : Int) - 1)] ∧ k ≤ b - a ∧ d'.size = d.size ∧ heapPop ltK a k d' = heapSort ltK d a b ∧ Fr [g] w W ∧ Cells W g ty (KA d' sp))
      (fun vs _ => ((intOf (vs.getD 0 undef)) + 1).toNat) ⟨b - a, d1, by simp <;> omega, by omega, hs1, he, hf, h1⟩ ?_
    rintro _ j W ⟨k, d1, rfl, hk, hs1, he, hf, h1⟩
    refine s_asI (s_ite (fun g1 => ?_) (fun g1 => ?_))
    · simp only [decide_eq_true_eq] at g1
      obtain ⟨k', rfl⟩ : ∃ k', k = k' + 1 := ⟨k - 1, by omega⟩
      have hcast : (((k' + 1 : Nat) : Int) - 1) = (k' : Int) := by omega
      rw [hcast]
      refine s_drew fun W2 _ f2 => swapAt (i := a + k') (j := a) (f2.cells h1 (by simp)) (by omega) (w_add (by omega)) rfl (by omega) (by omega) fun W3 f3 h3 => ?_
      refine s_call (sift_c (first := a) (lo := 0) (hi := k') h3 (by rw [swp_sz]; omega) (by rw [swp_sz]; omega) (by omega) (by rw [swp_sz, hs1]; exact hsz0)) ?_
      rintro _ W4 ⟨⟨v, rfl⟩, f4, h4⟩
      refine ⟨_, rfl, s_next (by first | exact ⟨rfl, rfl⟩ | trivial) ?_⟩
      simp only [if_true]
      exact ⟨⟨k', _, by rw [wrap64 (by omega) (by omega)], by omega, by rw [sift_sz _ _ _ _ _ (Nat.le_refl _), swp_sz]; exact hs1, he, ((hf.trans f2.nil).trans f3).trans f4, h4⟩, by rw [wrap64 (by omega) (by omega)]; simp [intOf] <;> omega⟩
    · simp only [decide_eq_false_iff_not] at g1
      obtain rfl : k = 0 := by omega
      simp only [heapPop] at he
      rw [he] at h1
      exact s_ret ⟨⟨_, rfl⟩, hf, h1⟩

theorem rev_c (h : Cells w g ty (KA d sp)) (hL : L = d.size) {a b : Nat} (hab : a < b) (hb : b ≤ d.size) (hsz : d.size < many) :
    Calls Try.prog 96 #[.slice (some ⟨g, 0, none⟩) L cap, .int .i64 a, .int .i64 b, .func (.func 41) #[] #[]] w fun e w' =>
      (∃ v, e = .returned v) ∧ Fr [g] w w' ∧ Cells w' g ty (KA (reverseRange d a b) sp) := by
  apply c96
  simp only [many] at hsz
  refine s_loop (fun vs W => ∃ (i j : Nat) (d' : Array K), vs = [.int .i64 i, .int .i64 j] ∧ i ≤ j + 1 ∧ j < b ∧ d'.size = d.size ∧ reverseLoop i j d' = reverseRange d a b ∧ Fr [g] w W ∧ Cells W g ty (KA d' sp))
    (fun vs _ => (intOf (vs.getD 1 undef) + 1 - intOf (vs.getD 0 undef)).toNat) ⟨a, b - 1, d, by rw [w_pred (by omega) (by omega)], by omega, by omega, rfl, rfl, Fr.refl _ _, h⟩ ?_
  rintro _ j0 W ⟨i, j, d1, rfl, hij, hj, hs1, he, hf, h1⟩
  rw [reverseLoop] at he
  refine s_asI (s_asI (s_ite (fun g1 => ?_) (fun g1 => ?_)))
  · simp only [decide_eq_true_eq] at g1
    rw [if_pos (by omega)] at he
    refine s_drew fun W2 _ f2 => swapAt (i := j) (j := i) (f2.cells h1 (by simp)) (by omega) rfl rfl (by omega) (by omega) fun W3 f3 h3 => s_next (by first | exact ⟨rfl, rfl⟩ | trivial) ?_
    simp only [if_true]
    exact ⟨⟨i + 1, j - 1, _, by rw [w_succ (by omega), w_pred (by omega) (by omega)], by omega, by omega, by rw [swp_sz]; exact hs1, he, (hf.trans f2.nil).trans f3, h3⟩, by rw [w_succ (by omega), w_pred (by omega) (by omega)]; simp [intOf] <;> omega⟩
  · simp only [decide_eq_false_iff_not] at g1
    rw [if_neg (by omega)] at he
    rw [he] at h1
    exact s_ret ⟨⟨_, rfl⟩, hf, h1⟩

/-! ### The pivot: only that it lies within -/
theorem ord_c (h : Cells w g ty (KA d sp)) (hL : L = d.size) {a b s : Nat} {n : Int} {t2 : TypeId} (ha : a < d.size) (hb : b < d.size) (hs : Cells w s t2 [.int .i64 n]) (hgs : s ≠ g) :
    Calls Try.prog 108 #[.slice (some ⟨g, 0, none⟩) L cap, .int .i64 a, .int .i64 b, .pointer (some ⟨s, 0, none⟩), .func (.func 41) #[] #[]] w fun e w' =>
      ∃ (x y : Nat) (m : Int), ((x = a ∧ y = b) ∨ (x = b ∧ y = a)) ∧ e = .returned (.tuple ⟨[.int .i64 x, .int .i64 y]⟩) ∧ Fr [s] w w' ∧ Cells w' s t2 [.int .i64 m] := by
  apply c108
  refine s_drew fun W1 _ f1 => cmpAt (f1.cells h (by simp)) hL rfl rfl (by omega) (by omega) fun W2 f2 h2 => s_chk c_nil ?_
  have hs2 := (f1.trans f2).cells hs (by simp)
  refine s_ite (fun g1 => ?_) (fun g1 => ?_)
  · refine s_ldI hs2 rfl (s_st hs2 (by simp) rfl fun W3 _ f3 h3 => s_ret ⟨b, a, _, .inr ⟨rfl, rfl⟩, rfl, (f1.nil.trans f2.nil).trans f3, h3⟩)
  · exact s_ret ⟨a, b, n, .inl ⟨rfl, rfl⟩, rfl, f1.nil.trans f2.nil, hs2⟩

theorem med_c (h : Cells w g ty (KA d sp)) (hL : L = d.size) {a b c s : Nat} {n : Int} {t2 : TypeId} (ha : a < d.size) (hb : b < d.size) (hc : c < d.size) (hs : Cells w s t2 [.int .i64 n]) (hgs : s ≠ g) :
    Calls Try.prog 106 #[.slice (some ⟨g, 0, none⟩) L cap, .int .i64 a, .int .i64 b, .int .i64 c, .pointer (some ⟨s, 0, none⟩), .func (.func 41) #[] #[]] w fun e w' =>
      ∃ (x : Nat) (m : Int), (x = a ∨ x = b ∨ x = c) ∧ e = .returned (.int .i64 x) ∧ Fr [s] w w' ∧ Cells w' s t2 [.int .i64 m] := by
  apply c106
  refine s_call (ord_c h hL ha hb hs hgs) ?_
  rintro _ w1 ⟨x1, y1, m1, h1, rfl, f1, s1⟩
  have k1 := f1.cells h (by simp; omega)
  refine ⟨_, rfl, s_asU (s_req rfl (s_asI (s_asI (s_call (ord_c (a := y1) (b := c) k1 hL (by omega) hc s1 hgs) ?_))))⟩
  rintro _ w2 ⟨x2, y2, m2, h2, rfl, f2, s2⟩
  have k2 := f2.cells k1 (by simp; omega)
  refine ⟨_, rfl, s_asU (s_req rfl (s_asI (s_asI (s_call (ord_c (a := x1) (b := x2) k2 hL (by omega) (by omega) s2 hgs) ?_))))⟩
  rintro _ w3 ⟨x3, y3, m3, h3, rfl, f3, s3⟩
  exact ⟨_, rfl, s_asU (s_req rfl (s_asI (s_asI (s_ret ⟨y3, m3, by omega, rfl, (f1.trans f2).trans f3, s3⟩))))⟩

theorem madj_c (h : Cells w g ty (KA d sp)) (hL : L = d.size) {a s : Nat} {n : Int} {t2 : TypeId} (h1 : 1 ≤ a) (ha : a + 1 < d.size) (hsz : d.size < many) (hs : Cells w s t2 [.int .i64 n]) (hgs : s ≠ g) :
    Calls Try.prog 105 #[.slice (some ⟨g, 0, none⟩) L cap, .int .i64 a, .pointer (some ⟨s, 0, none⟩), .func (.func 41) #[] #[]] w fun e w' =>
      ∃ (x : Nat) (m : Int), (a - 1 ≤ x ∧ x ≤ a + 1) ∧ e = .returned (.int .i64 x) ∧ Fr [s] w w' ∧ Cells w' s t2 [.int .i64 m] := by
  apply c105
  simp only [many] at hsz
  unfold t105
  rw [w_pred h1 (by omega), w_succ (by omega)]
  refine s_call (med_c h hL (by omega) (by omega) (by omega) hs hgs) ?_
  rintro _ w1 ⟨x1, m1, h1, rfl, f1, s1⟩
  exact ⟨_, rfl, s_asI (s_ret ⟨x1, m1, by omega, rfl, f1, s1⟩)⟩

theorem piv_c (h : Cells w g ty (KA d sp)) (hL : L = d.size) {a b : Nat} (hab : a < b) (hb : b ≤ d.size) (hsz : d.size < many) :
    Calls Try.prog 95 #[.slice (some ⟨g, 0, none⟩) L cap, .int .i64 a, .int .i64 b, .func (.func 41) #[] #[]] w fun e w' =>
      ∃ (p : Nat) (q : Int), a ≤ p ∧ p < b ∧ e = .returned (.tuple ⟨[.int .i64 p, .int .i64 q]⟩) ∧ Fr [] w w' := by
  apply c95
  have hsz0 := hsz
  simp only [many] at hsz
  have wn : IntKind.wrap .i64 ((b : Int) - (a : Int)) = ((b - a : Nat) : Int) := w_sub (by omega) (by omega)
  have w4 : IntKind.wrap .i64 (Int.tdiv ((b - a : Nat) : Int) 4) = (((b - a) / 4 : Nat) : Int) := by
    rw [show Int.tdiv ((b - a : Nat) : Int) 4 = (((b - a) / 4 : Nat) : Int) from rfl, wrap64 (by omega) (by omega)]
  have wk : ∀ k : Nat, k ≤ 3 → IntKind.wrap .i64 ((a : Int) + IntKind.wrap .i64 ((((b - a) / 4 : Nat) : Int) * (k : Int))) = ((a + (b - a) / 4 * k : Nat) : Int) := fun k hk => by
    have : (b - a) / 4 * k ≤ (b - a) / 4 * 3 := Nat.mul_le_mul_left _ hk
    have e : (((b - a) / 4 : Nat) : Int) * (k : Int) = (((b - a) / 4 * k : Nat) : Int) := by rw [Int.natCast_mul]
    rw [e, wrap64 (n := (((b - a) / 4 * k : Nat) : Int)) (by omega) (by omega), wrap64 (by omega) (by omega)]
    omega
  unfold t95
  rw [wn, w4]
  refine s_new fun s w1 hr hz f1 hs => ?_
  have hgs : s ≠ g := by have := h.lt; omega
  have h := f1.cells h (by simp)
  have new : ∀ {w2 : World}, Fr [s] w1 w2 → Fr [] w w2 := fun f => f1.trans' f (fun x hx => by simp at hx; exact .inr (by omega))
  refine s_req (by decide) (s_req (by decide) (s_req (by decide) ?_))
  refine s_blk (fun vs W => ∃ (p : Nat) (m : Int), vs = [.int .i64 p] ∧ a ≤ p ∧ p < b ∧ Fr [s] w1 W ∧ Cells W s 3 [.int .i64 m]) ?_ ?_
  · rintro _ j W ⟨p, m, rfl, hp1, hp2, f, c⟩
    refine s_asI (s_ldI c rfl (s_ite (fun _ => s_ret ⟨p, _, hp1, hp2, rfl, new f⟩) (fun _ => s_ite (fun _ => s_ret ⟨p, _, hp1, hp2, rfl, new f⟩) (fun _ => s_ret ⟨p, _, hp1, hp2, rfl, new f⟩))))
  · refine s_ite (fun g1 => s_ite (fun g2 => ?_) (fun g2 => ?_)) (fun g1 => s_next (by first | exact ⟨rfl, rfl⟩ | trivial) ?_)
    · simp only [decide_eq_true_eq] at g1 g2
      rw [show (((b - a) / 4 : Nat) : Int) * 1 = (((b - a) / 4 : Nat) : Int) * ((1 : Nat) : Int) from rfl, show (((b - a) / 4 : Nat) : Int) * 2 = (((b - a) / 4 : Nat) : Int) * ((2 : Nat) : Int) from rfl, show (((b - a) / 4 : Nat) : Int) * 3 = (((b - a) / 4 : Nat) : Int) * ((3 : Nat) : Int) from rfl, wk 1 (by omega), wk 2 (by omega), wk 3 (by omega)]
      refine s_call (madj_c h hL (by omega) (by omega) hsz0 hs hgs) ?_
      rintro _ w2 ⟨x1, m1, hx1, rfl, f2, s2⟩
      have h2 := f2.cells h (by simp; omega)
      refine ⟨_, rfl, s_asI (s_call (madj_c h2 hL (by omega) (by omega) hsz0 s2 hgs) ?_)⟩
      rintro _ w3 ⟨x2, m2, hx2, rfl, f3, s3⟩
      have h3 := f3.cells h2 (by simp; omega)
      refine ⟨_, rfl, s_asI (s_call (madj_c h3 hL (by omega) (by omega) hsz0 s3 hgs) ?_)⟩
      rintro _ w4 ⟨x3, m3, hx3, rfl, f4, s4⟩
      have h4 := f4.cells h3 (by simp; omega)
      refine ⟨_, rfl, s_asI (s_call (med_c h4 hL (by omega) (by omega) (by omega) s4 hgs) ?_)⟩
      rintro _ w5 ⟨x, m, hx, rfl, f5, s5⟩
      refine ⟨_, rfl, s_asI (s_next (by first | exact ⟨rfl, rfl⟩ | trivial) ?_)⟩
      simp only [if_true]
      exact ⟨x, m, rfl, by omega, by omega, ((f2.trans f3).trans f4).trans f5, s5⟩
    · simp only [decide_eq_true_eq, decide_eq_false_iff_not] at g1 g2
      rw [show (((b - a) / 4 : Nat) : Int) * 1 = (((b - a) / 4 : Nat) : Int) * ((1 : Nat) : Int) from rfl, show (((b - a) / 4 : Nat) : Int) * 2 = (((b - a) / 4 : Nat) : Int) * ((2 : Nat) : Int) from rfl, show (((b - a) / 4 : Nat) : Int) * 3 = (((b - a) / 4 : Nat) : Int) * ((3 : Nat) : Int) from rfl, wk 1 (by omega), wk 2 (by omega), wk 3 (by omega)]
      refine s_call (med_c h hL (by omega) (by omega) (by omega) hs hgs) ?_
      rintro _ w5 ⟨x, m, hx, rfl, f5, s5⟩
      refine ⟨_, rfl, s_asI (s_next (by first | exact ⟨rfl, rfl⟩ | trivial) ?_)⟩
      simp only [if_true]
      exact ⟨x, m, rfl, by omega, by omega, f5, s5⟩
    · simp only [decide_eq_false_iff_not] at g1
      simp only [if_true]
      refine ⟨a + (b - a) / 4 * 2, 0, by rw [show (((b - a) / 4 : Nat) : Int) * 2 = (((b - a) / 4 : Nat) : Int) * ((2 : Nat) : Int) from rfl, wk 2 (by omega)], by omega, by omega, Fr.refl _ _, hs⟩
end
end Go.Proofs.Ytpjcfnnnciknmaa
