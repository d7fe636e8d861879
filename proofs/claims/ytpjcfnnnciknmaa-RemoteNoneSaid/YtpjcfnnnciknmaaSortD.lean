/- slices.SortFunc at keys, last part: partial insertion, the whole: the keys sorted. -/
import Derived.Test.YtpjcfnnnciknmaaSortC
set_option linter.unusedVariables false
set_option linter.unusedSimpArgs false
set_option maxRecDepth 100000
namespace Go.Proofs.Ytpjcfnnnciknmaa
open Go hiding Expr
open Go.RowKit Tr
open Go.Sort (scanSorted shiftDown shiftUp partialIns partialInsertionSort fixUp fixDown swp PermIn SortedIn Below insertionSort heapSort reverseRange partitionEqual partition)

section
variable {w : World} {g cap L : Nat} {ty : TypeId} {d : Array K} {sp : List Value}

theorem shiftDown_sz : ∀ (j : Nat) (d : Array K), (shiftDown ltK j d).size = d.size
  | 0, _ => rfl
  | j + 1, d => by
    rw [shiftDown]
    split
    · rfl
    · rw [shiftDown_sz, swp_sz]
theorem shiftUp_sz (b : Nat) : ∀ (n j : Nat) (d : Array K), b - j ≤ n → (shiftUp ltK b j d).size = d.size := by
  intro n
  induction n with
  | zero => intro j d h; rw [shiftUp, if_neg (by omega)]
  | succ n ih =>
    intro j d h
    rw [shiftUp]
    split
    · split
      · rfl
      · rw [ih _ _ (by omega), swp_sz]
    · rfl
theorem scanSorted_le (d : Array K) (b : Nat) : ∀ (n i : Nat), b - i ≤ n → i ≤ b → scanSorted ltK d b i ≤ b ∧ i ≤ scanSorted ltK d b i := by
  intro n
  induction n with
  | zero => intro i h hi; rw [scanSorted, if_neg (by simp; omega)]; omega
  | succ n ih =>
    intro i h hi
    rw [scanSorted]
    split
    · rename_i hc
      simp only [Bool.and_eq_true, decide_eq_true_eq] at hc
      have := ih (i + 1) (by omega) (by omega)
      omega
    · omega

theorem pins_c (h : Cells w g ty (KA d sp)) (hL : L = d.size) {a b : Nat} (hab : a < b) (hb : b ≤ d.size) (hsz : d.size < many) :
    Calls Try.prog 97 #[.slice (some ⟨g, 0, none⟩) L cap, .int .i64 a, .int .i64 b, .func (.func 41) #[] #[]] w fun e w' =>
      e = .returned (.bool (partialInsertionSort ltK d a b).2) ∧ Fr [g] w w' ∧ Cells w' g ty (KA (partialInsertionSort ltK d a b).1 sp) := by
  apply c97
  simp only [many] at hsz
  refine s_loop (fun vs W => ∃ (i s : Nat) (d' : Array K), vs = [.int .i64 i, .int .i64 ((5 - s : Nat) : Int)] ∧ s ≤ 5 ∧ a + 1 ≤ i ∧ i ≤ b ∧ d'.size = d.size ∧ partialIns ltK a b s i d' = partialInsertionSort ltK d a b ∧ Fr [g] w W ∧ Cells W g ty (KA d' sp))
    (fun vs _ => 5 - (intOf (vs.getD 1 undef)).toNat) ⟨a + 1, 5, d, by rw [w_succ (by omega)]; rfl, by omega, by omega, by omega, rfl, rfl, Fr.refl _ _, h⟩ ?_
  rintro _ j W ⟨i, s, d1, rfl, hs, hi1, hi2, hs1, he, hf, h1⟩
  refine s_asI (s_asI (s_ite (fun g1 => ?_) (fun g1 => ?_)))
  · simp only [decide_eq_true_eq] at g1
    obtain ⟨s', rfl⟩ : ∃ s', s = s' + 1 := ⟨s - 1, by omega⟩
    rw [Sort.partialIns_succ] at he
    have hsc := scanSorted_le d1 b _ i (Nat.le_refl _) hi2
    refine s_blk (fun vs W' => vs = [.int .i64 (scanSorted ltK d1 b i : Nat)] ∧ Fr [g] w W' ∧ Cells W' g ty (KA d1 sp)) ?_ ?_
    · rintro _ _ W1 ⟨rfl, hf1, h1⟩
      generalize scanSorted ltK d1 b i = i2 at *
      refine s_asI (s_ite (fun g2 => ?_) (fun g2 => ?_))
      · simp only [beq_iff_eq] at g2
        rw [if_pos (by omega)] at he
        rw [← he]
        exact s_ret ⟨rfl, hf1, h1⟩
      · simp only [beq_eq_false_iff_ne, ne_eq] at g2
        rw [if_neg (by omega)] at he
        rw [w_sub (by omega) (by omega)]
        refine s_ite (fun g3 => ?_) (fun g3 => ?_)
        · simp only [decide_eq_true_eq] at g3
          rw [if_pos (by omega)] at he
          rw [← he]
          exact s_ret ⟨rfl, hf1, h1⟩
        · simp only [decide_eq_false_iff_not] at g3
          rw [if_neg (by omega)] at he
          refine s_drew fun W2 _ f2 => swapAt (i := i2 - 1) (j := i2) (f2.cells h1 (by simp)) (by omega) (w_pred (by omega) (by omega)) rfl (by omega) (by omega) fun W3 f3 h3 => ?_
          have hf3 := (hf1.trans f2.nil).trans f3
          have hsw := swp_sz d1 i2 (i2 - 1)
          generalize swp d1 i2 (i2 - 1) = d2 at *
          have hfd : (fixDown ltK a i2 d2).size = d2.size := by
            unfold fixDown; split
            · exact shiftDown_sz _ _
            · rfl
          refine s_blk (fun vs W' => Fr [g] w W' ∧ Cells W' g ty (KA (fixDown ltK a i2 d2) sp)) ?_ ?_
          · rintro vs _ W4 ⟨hf4, h4⟩
            generalize fixDown ltK a i2 d2 = d3 at *
            rw [w_sub (by omega) (by omega)]
            have hcast : IntKind.wrap .i64 (((5 - (s' + 1) : Nat) : Int) + 1) = ((5 - s' : Nat) : Int) := by rw [w_succ (by omega)]; omega
            have leave : ∀ {W : World} {d4 : Array K}, fixUp ltK b i2 d3 = d4 → Fr [g] w W → Cells W g ty (KA d4 sp) →
                (∃ (i s : Nat) (d' : Array K), ([.int .i64 i2, .int .i64 (IntKind.wrap .i64 (((5 - (s' + 1) : Nat) : Int) + 1))] : List Value) = [.int .i64 i, .int .i64 ((5 - s : Nat) : Int)] ∧ s ≤ 5 ∧ a + 1 ≤ i ∧ i ≤ b ∧ d'.size = d.size ∧ partialIns ltK a b s i d' = partialInsertionSort ltK d a b ∧ Fr [g] w W ∧ Cells W g ty (KA d' sp)) ∧
                5 - (intOf (([.int .i64 i2, .int .i64 (IntKind.wrap .i64 (((5 - (s' + 1) : Nat) : Int) + 1))] : List Value).getD 1 undef)).toNat < 5 - (intOf (([.int .i64 i, .int .i64 ((5 - (s' + 1) : Nat) : Int)] : List Value).getD 1 undef)).toNat := by
              intro W d4 hd hf hc
              refine ⟨⟨i2, s', d4, by rw [hcast], by omega, by omega, by omega, ?_, ?_, hf, hc⟩, by rw [hcast]; simp [intOf]; omega⟩
              · rw [← hd]; unfold fixUp; split
                · rw [shiftUp_sz _ _ _ _ (Nat.le_refl _)]; omega
                · omega
              · rw [hd] at he; exact he
            refine s_ite (fun g4 => ?_) (fun g4 => s_next (by first | exact ⟨rfl, rfl⟩ | trivial) ?_)
            · simp only [decide_eq_true_eq] at g4
              refine s_loop (fun vs W => ∃ (k : Nat) (d' : Array K), vs = [.int .i64 k] ∧ i2 + 1 ≤ k ∧ k ≤ b ∧ d'.size = d.size ∧ shiftUp ltK b k d' = shiftUp ltK b (i2 + 1) d3 ∧ Fr [g] w W ∧ Cells W g ty (KA d' sp))
                (fun vs _ => b - (intOf (vs.getD 0 undef)).toNat) ⟨i2 + 1, d3, by rw [w_succ (by omega)], by omega, by omega, by omega, rfl, hf4, h4⟩ ?_
              rintro _ j2 W5 ⟨k, d5, rfl, hk1, hk2, hs5, he5, hf5, h5⟩
              have hfu : fixUp ltK b i2 d3 = shiftUp ltK b (i2 + 1) d3 := by unfold fixUp; rw [if_pos (by omega)]
              rw [shiftUp] at he5
              refine s_asI (s_ite (fun g5 => ?_) (fun g5 => s_next (by first | exact ⟨rfl, rfl⟩ | trivial) ?_))
              · simp only [decide_eq_true_eq] at g5
                rw [if_pos (by omega)] at he5
                refine s_drew fun W6 _ f6 => cmpAt (i := k) (j := k - 1) (f6.cells h5 (by simp)) (by omega) rfl (w_pred (by omega) (by omega)) (by omega) (by omega) fun W7 f7 h7 => s_chk c_nil ?_
                have hf7 := (hf5.trans f6.nil).trans f7.nil
                rw [ltK_of]
                refine s_ite (fun g6 => s_next (by first | exact ⟨rfl, rfl⟩ | trivial) ?_) (fun g6 => ?_)
                · rw [if_pos g6] at he5
                  simp (config := { decide := true }) only [if_true, if_false]
                  exact leave (by rw [hfu, ← he5]) hf7 h7
                · rw [if_neg (by rw [g6]; simp)] at he5
                  refine s_drew fun W8 _ f8 => swapAt (i := k - 1) (j := k) (f8.cells h7 (by simp)) (by omega) (w_pred (by omega) (by omega)) rfl (by omega) (by omega) fun W9 f9 h9 => s_next (by first | exact ⟨rfl, rfl⟩ | trivial) ?_
                  simp (config := { decide := true }) only [if_true, if_false]
                  exact ⟨⟨k + 1, _, by rw [w_succ (by omega)], by omega, by omega, by rw [swp_sz]; exact hs5, he5, (hf7.trans f8.nil).trans f9, h9⟩, by rw [w_succ (by omega)]; simp [intOf] <;> omega⟩
              · simp only [decide_eq_false_iff_not] at g5
                rw [if_neg (by omega)] at he5
                simp (config := { decide := true }) only [if_true, if_false]
                exact leave (by rw [hfu, ← he5]) hf5 h5
            · simp only [decide_eq_false_iff_not] at g4
              simp (config := { decide := true }) only [if_true, if_false]
              exact leave (by unfold fixUp; rw [if_neg (by omega)]) hf4 h4
          · rw [w_sub (by omega) (by omega)]
            refine s_ite (fun g4 => ?_) (fun g4 => s_next (by first | exact ⟨rfl, rfl⟩ | trivial) ?_)
            · simp only [decide_eq_true_eq] at g4
              have hfdn : fixDown ltK a i2 d2 = shiftDown ltK (i2 - 1) d2 := by unfold fixDown; rw [if_pos (by omega)]
              refine s_loop (fun vs W => ∃ (k : Nat) (d' : Array K), vs = [.int .i64 k] ∧ k ≤ i2 - 1 ∧ d'.size = d.size ∧ shiftDown ltK k d' = shiftDown ltK (i2 - 1) d2 ∧ Fr [g] w W ∧ Cells W g ty (KA d' sp))
                (fun vs _ => (intOf (vs.getD 0 undef)).toNat) ⟨i2 - 1, d2, by rw [w_pred (by omega) (by omega)], by omega, by omega, rfl, hf3, h3⟩ ?_
              rintro _ j2 W5 ⟨k, d5, rfl, hk1, hs5, he5, hf5, h5⟩
              refine s_asI (s_ite (fun g5 => ?_) (fun g5 => s_next (by first | exact ⟨rfl, rfl⟩ | trivial) ?_))
              · simp only [decide_eq_true_eq] at g5
                obtain ⟨k', rfl⟩ : ∃ k', k = k' + 1 := ⟨k - 1, by omega⟩
                rw [shiftDown] at he5
                refine s_drew fun W6 _ f6 => cmpAt (i := k' + 1) (j := k') (f6.cells h5 (by simp)) (by omega) rfl (w_pred (by omega) (by omega)) (by omega) (by omega) fun W7 f7 h7 => s_chk c_nil ?_
                have hf7 := (hf5.trans f6.nil).trans f7.nil
                rw [ltK_of]
                refine s_ite (fun g6 => s_next (by first | exact ⟨rfl, rfl⟩ | trivial) ?_) (fun g6 => ?_)
                · rw [if_pos g6] at he5
                  simp (config := { decide := true }) only [if_true, if_false]
                  rw [hfdn, ← he5]
                  exact ⟨hf7, h7⟩
                · rw [if_neg (by rw [g6]; simp)] at he5
                  refine s_drew fun W8 _ f8 => swapAt (i := k') (j := k' + 1) (f8.cells h7 (by simp)) (by omega) (w_pred (by omega) (by omega)) rfl (by omega) (by omega) fun W9 f9 h9 => s_next (by first | exact ⟨rfl, rfl⟩ | trivial) ?_
                  simp (config := { decide := true }) only [if_true, if_false]
                  exact ⟨⟨k', _, by rw [w_pred (by omega) (by omega)]; rfl, by omega, by rw [swp_sz]; exact hs5, he5, (hf7.trans f8.nil).trans f9, h9⟩, by rw [w_pred (by omega) (by omega)]; simp [intOf] <;> omega⟩
              · simp only [decide_eq_false_iff_not] at g5
                obtain rfl : k = 0 := by omega
                rw [shiftDown] at he5
                simp (config := { decide := true }) only [if_true, if_false]
                rw [hfdn, ← he5]
                exact ⟨hf5, h5⟩
            · simp only [decide_eq_false_iff_not] at g4
              simp (config := { decide := true }) only [if_true, if_false]
              have hfdn : fixDown ltK a i2 d2 = d2 := by unfold fixDown; rw [if_neg (by omega)]
              rw [hfdn]
              exact ⟨hf3, h3⟩
    · refine s_loop (fun vs W => ∃ k : Nat, vs = [.int .i64 k] ∧ i ≤ k ∧ k ≤ b ∧ scanSorted ltK d1 b k = scanSorted ltK d1 b i ∧ Fr [g] w W ∧ Cells W g ty (KA d1 sp))
        (fun vs _ => b - (intOf (vs.getD 0 undef)).toNat) ⟨i, rfl, by omega, by omega, rfl, hf, h1⟩ ?_
      rintro _ j2 W5 ⟨k, rfl, hk1, hk2, he5, hf5, h5⟩
      rw [scanSorted] at he5
      refine s_asI (s_drew fun W6 _ f6 => s_ite (fun g5 => ?_) (fun g5 => s_chk c_nil (s_next (by first | exact ⟨rfl, rfl⟩ | trivial) ?_)))
      · simp only [decide_eq_true_eq] at g5
        refine cmpAt (i := k) (j := k - 1) (f6.cells h5 (by simp)) (by omega) rfl (w_pred (by omega) (by omega)) (by omega) (by omega) fun W7 f7 h7 => s_chk c_nil ?_
        have hf7 := (hf5.trans f6.nil).trans f7.nil
        rw [ltK_of]
        refine s_ite (fun g6 => s_next (by first | exact ⟨rfl, rfl⟩ | trivial) ?_) (fun g6 => s_next (by first | exact ⟨rfl, rfl⟩ | trivial) ?_)
        · rw [if_pos (by simp only [Bool.and_eq_true, decide_eq_true_eq]; exact ⟨by omega, g6⟩)] at he5
          simp (config := { decide := true }) only [if_true, if_false]
          exact ⟨⟨k + 1, by rw [w_succ (by omega)], by omega, by omega, he5, hf7, h7⟩, by rw [w_succ (by omega)]; simp [intOf] <;> omega⟩
        · rw [if_neg (by rw [g6]; simp)] at he5
          simp (config := { decide := true }) only [if_true, if_false]
          rw [← he5]
          exact ⟨rfl, hf7, h7⟩
      · simp only [decide_eq_false_iff_not] at g5
        rw [if_neg (by simp; omega)] at he5
        simp (config := { decide := true }) only [if_true, if_false]
        rw [← he5]
        exact ⟨rfl, hf5.trans f6.nil, f6.cells h5 (by simp)⟩
  · simp only [decide_eq_false_iff_not] at g1
    obtain rfl : s = 0 := by omega
    rw [show partialIns ltK a b 0 i d1 = (d1, false) from rfl] at he
    rw [← he]
    exact s_ret ⟨rfl, hf, h1⟩

theorem pdq_c : ∀ (n : Nat) {w : World} {d : Array K} {a b : Nat} {lim : Int}, b - a ≤ n → Cells w g ty (KA d sp) → L = d.size → a ≤ b → b ≤ d.size → Below ltK a b d → d.size < many →
    Calls Try.prog 75 #[.slice (some ⟨g, 0, none⟩) L cap, .int .i64 a, .int .i64 b, .int .i64 lim, .func (.func 41) #[] #[]] w fun e w' =>
      ∃ d', (∃ v, e = .returned v) ∧ PermIn a b d d' ∧ SortedIn ltK a b d' ∧ Fr [g] w w' ∧ Cells w' g ty (KA d' sp) := by
  intro n
  induction n with
  | zero => ?_
  | succ n ih => ?_
  all_goals
    intro w d a b lim hn h hL hab hb hB hsz
    apply c75
    have hsz' := hsz
    simp only [many] at hsz'
    refine s_loop (fun vs W => ∃ (a' b' : Nat) (lim' : Int) (wb wp : Bool) (d1 : Array K), vs = [.int .i64 a', .int .i64 b', .int .i64 lim', .bool wb, .bool wp] ∧ a ≤ a' ∧ a' ≤ b' ∧ b' ≤ b ∧ d1.size = d.size ∧ Below ltK a' b' d1 ∧
        (∀ R, PermIn a' b' d1 R → SortedIn ltK a' b' R → PermIn a b d R ∧ SortedIn ltK a b R) ∧ Fr [g] w W ∧ Cells W g ty (KA d1 sp))
      (fun vs _ => (intOf (vs.getD 1 undef) - intOf (vs.getD 0 undef)).toNat) ⟨a, b, lim, true, true, d, rfl, by omega, by omega, by omega, rfl, hB, fun R h1 h2 => ⟨h1, h2⟩, Fr.refl _ _, h⟩ ?_
    rintro _ j W ⟨a', b', lim', wb, wp, d1, rfl, ha', hab', hb', hs1, hB1, hgo, hf, h1⟩
    refine s_asI (s_asI (s_asI (s_asB (s_asB ?_))))
    rw [w_sub (by omega) (by omega)]
    refine s_ite (fun g1 => s_call (ins_c h1 (by omega) hab' (by omega) (by rw [hs1]; exact hsz)) ?_) (fun g1 => ?_)
    · rintro _ W1 ⟨⟨v, rfl⟩, f1, h1⟩
      obtain ⟨p1, p2⟩ := Sort.insertionSort_holds swoK d1 a' b' hab' (by omega)
      obtain ⟨q1, q2⟩ := hgo _ p1 p2
      exact ⟨_, rfl, s_ret ⟨_, ⟨_, rfl⟩, q1, q2, hf.trans f1, h1⟩⟩
    simp only [decide_eq_false_iff_not] at g1
  · omega
  · refine s_ite (fun g2 => s_call (heap_c h1 (by omega) (show a' < b' by omega) (by omega) (by rw [hs1]; exact hsz)) ?_) (fun g2 => ?_)
    · rintro _ W1 ⟨⟨v, rfl⟩, f1, h1⟩
      obtain ⟨p1, p2⟩ := Sort.heapSort_holds swoK d1 a' b' hab' (by omega)
      obtain ⟨q1, q2⟩ := hgo _ p1 p2
      exact ⟨_, rfl, s_ret ⟨_, ⟨_, rfl⟩, q1, q2, hf.trans f1, h1⟩⟩
    refine s_blk (fun vs W' => ∃ (l2 : Int) (d2 : Array K), vs = [.int .i64 l2] ∧ PermIn a' b' d1 d2 ∧ Fr [g] w W' ∧ Cells W' g ty (KA d2 sp)) ?_ ?_
    · rintro _ _ W1 ⟨l2, d2, rfl, hp2, hf2, h2⟩
      have hs2 : d2.size = d.size := by rw [hp2.1, hs1]
      refine s_asI (s_call (piv_c h2 (by omega) (show a' < b' by omega) (by omega) (by rw [hs2]; exact hsz)) ?_)
      rintro _ W2 ⟨p, q, hpa, hpb, rfl, f2⟩
      refine ⟨_, rfl, s_asU (s_req rfl (s_asI (s_asI ?_)))⟩
      refine s_blk (fun vs W' => ∃ (p3 : Nat) (q3 : Int) (d3 : Array K), vs = [.int .i64 p3, .int .i64 q3] ∧ a' ≤ p3 ∧ p3 < b' ∧ PermIn a' b' d1 d3 ∧ Fr [g] w W' ∧ Cells W' g ty (KA d3 sp)) ?_ ?_
      · rintro _ _ W3 ⟨p3, q3, d3, rfl, hp3a, hp3b, hp3, hf3, h3⟩
        have hs3 : d3.size = d.size := by rw [hp3.1, hs1]
        refine s_asI (s_asI ?_)
        refine s_blk (fun vs W' => ∃ (d4 : Array K), PermIn a' b' d1 d4 ∧ Fr [g] w W' ∧ Cells W' g ty (KA d4 sp)) ?_ ?_
        · rintro vs _ W4 ⟨d4, hp4, hf4, h4⟩
          have hs4 : d4.size = d.size := by rw [hp4.1, hs1]
          have hB4 : Below ltK a' b' d4 := hB1.perm (by omega) hp4
          refine s_blk (fun vs W' => vs = [.int .i64 a'] ∧ Fr [g] w W' ∧ Cells W' g ty (KA d4 sp)) ?_ ?_
          · rintro _ _ W5 ⟨rfl, hf5, h5⟩
            refine s_asI (s_call (part_c h5 (by omega) (show a' < b' by omega) (by omega) hp3a hp3b (by rw [hs4]; exact hsz)) ?_)
            rintro _ W6 ⟨rfl, f6, h6⟩
            refine ⟨_, rfl, s_asU (s_req rfl (s_asI (s_asB (s_req (by decide) ?_))))⟩
            obtain ⟨r1, r2, r3, r4, r5, r6, r7⟩ := Sort.round_part swoK (Sort.partition_holds ltK) hp3a hp3b (by omega) hB4 (show partition ltK d4 a' b' p3 = ((partition ltK d4 a' b' p3).1, (partition ltK d4 a' b' p3).2.1, (partition ltK d4 a' b' p3).2.2) from rfl)
            have hf6 := hf5.trans f6
            generalize partition ltK d4 a' b' p3 = R at *
            obtain ⟨mid, ap, d6⟩ := R
            simp only at *
            refine s_ite (fun g3 => ?_) (fun g3 => ?_)
            · refine s_call (ih (a := a') (b := mid) (by omega) h6 (by omega) (by omega) (by omega) r4 (by rw [r3, hs4]; exact hsz)) ?_
              rintro _ W7 ⟨d7, ⟨v, rfl⟩, p7, s7, f7, h7⟩
              refine ⟨_, rfl, s_next (by first | exact ⟨rfl, rfl⟩ | trivial) ?_⟩
              simp (config := { decide := true }) only [if_true, if_false]
              obtain ⟨t1, t2⟩ := r6 d7 p7 s7
              refine ⟨⟨mid + 1, b', _, _, _, d7, by rw [w_succ (by omega)], by omega, by omega, hb', by rw [p7.1, r3, hs4], t1, fun R u1 u2 => ?_, hf6.trans f7, h7⟩, by rw [w_succ (by omega)]; simp [intOf] <;> omega⟩
              obtain ⟨v1, v2⟩ := t2 R u1 u2
              exact hgo R (Sort.permIn_trans _ _ _ a' b' hp4 v1) v2
            · rw [w_succ (by omega)]
              refine s_call (ih (a := mid + 1) (b := b') (by omega) h6 (by omega) (by omega) (by omega) r5 (by rw [r3, hs4]; exact hsz)) ?_
              rintro _ W7 ⟨d7, ⟨v, rfl⟩, p7, s7, f7, h7⟩
              refine ⟨_, rfl, s_next (by first | exact ⟨rfl, rfl⟩ | trivial) ?_⟩
              simp (config := { decide := true }) only [if_true, if_false]
              obtain ⟨t1, t2⟩ := r7 d7 p7 s7
              refine ⟨⟨a', mid, _, _, _, d7, rfl, by omega, by omega, by omega, by rw [p7.1, r3, hs4], t1, fun R u1 u2 => ?_, hf6.trans f7, h7⟩, by simp [intOf] <;> omega⟩
              obtain ⟨v1, v2⟩ := t2 R u1 u2
              exact hgo R (Sort.permIn_trans _ _ _ a' b' hp4 v1) v2
          · refine s_drew fun W5 _ f5 => s_ite (fun g3 => ?_) (fun g3 => s_chk c_nil (s_next (by first | exact ⟨rfl, rfl⟩ | trivial) ?_))
            · simp only [decide_eq_true_eq] at g3
              refine cmpAt (i := a' - 1) (j := p3) (f5.cells h4 (by simp)) (by omega) (w_pred (by omega) (by omega)) rfl (by omega) (by omega) fun W6 f6 h6 => s_chk c_nil ?_
              rw [ltK_of]
              refine s_ite (fun g4 => ?_) (fun g4 => s_next (by first | exact ⟨rfl, rfl⟩ | trivial) ?_)
              · refine s_call (peq_c h6 (by omega) (show a' < b' by omega) (by omega) hp3a hp3b (by rw [hs4]; exact hsz)) ?_
                rintro _ W7 ⟨rfl, f7, h7⟩
                refine ⟨_, rfl, s_asI (s_next (by first | exact ⟨rfl, rfl⟩ | trivial) ?_)⟩
                simp (config := { decide := true }) only [if_true, if_false]
                obtain ⟨r1, r2, r3, r4, r5⟩ := Sort.round_eq swoK (Sort.partitionEqual_holds ltK) (by omega) hp3a hp3b (by omega) hB4 (by simpa using g4) (show partitionEqual ltK d4 a' b' p3 = ((partitionEqual ltK d4 a' b' p3).1, (partitionEqual ltK d4 a' b' p3).2) from rfl)
                refine ⟨⟨_, b', _, _, _, _, rfl, by omega, by omega, hb', by rw [r3, hs4], r4, fun R u1 u2 => ?_, ((hf4.trans f5.nil).trans f6.nil).trans f7, h7⟩, by simp [intOf] <;> omega⟩
                obtain ⟨v1, v2⟩ := r5 R u1 u2
                exact hgo R (Sort.permIn_trans _ _ _ a' b' hp4 v1) v2
              · simp (config := { decide := true }) only [if_true, if_false]
                exact ⟨trivial, (hf4.trans f5.nil).trans f6.nil, h6⟩
            · simp (config := { decide := true }) only [if_true, if_false]
              exact ⟨trivial, hf4.trans f5.nil, f5.cells h4 (by simp)⟩
        · have stay : ∃ (d4 : Array K), PermIn a' b' d1 d4 ∧ Fr [g] w W3 ∧ Cells W3 g ty (KA d4 sp) := ⟨d3, hp3, hf3, h3⟩
          refine s_ite (fun g3 => s_ite (fun g4 => s_ite (fun g5 => ?_) (fun g5 => s_next (by first | exact ⟨rfl, rfl⟩ | trivial) ?_)) (fun g4 => s_next (by first | exact ⟨rfl, rfl⟩ | trivial) ?_)) (fun g3 => s_next (by first | exact ⟨rfl, rfl⟩ | trivial) ?_)
          · refine s_call (pins_c h3 (by omega) (show a' < b' by omega) (by omega) (by rw [hs3]; exact hsz)) ?_
            rintro _ W4 ⟨rfl, f4, h4⟩
            obtain ⟨r1, r2⟩ := Sort.partialInsertionSort_holds swoK d3 a' b' (by omega) (by omega) (hB1.perm (by omega) hp3)
            have hp4 := Sort.permIn_trans _ _ _ a' b' hp3 r1
            refine ⟨_, rfl, s_asB (s_ite (fun g6 => ?_) (fun g6 => s_next (by first | exact ⟨rfl, rfl⟩ | trivial) ?_))⟩
            · obtain ⟨q1, q2⟩ := hgo _ hp4 (r2 g6)
              exact s_ret ⟨_, ⟨_, rfl⟩, q1, q2, hf3.trans f4, h4⟩
            · simp (config := { decide := true }) only [if_true, if_false]
              exact ⟨_, hp4, hf3.trans f4, h4⟩
          all_goals
            simp (config := { decide := true }) only [if_true, if_false]
            exact stay
      · refine s_ite (fun g3 => s_call (rev_c (f2.cells h2 (by simp)) (by omega) (show a' < b' by omega) (by omega) (by rw [hs2]; exact hsz)) ?_) (fun g3 => s_next (by first | exact ⟨rfl, rfl⟩ | trivial) ?_)
        · rintro _ W3 ⟨⟨v, rfl⟩, f3, h3⟩
          refine ⟨_, rfl, s_next (by first | exact ⟨rfl, rfl⟩ | trivial) ?_⟩
          simp (config := { decide := true }) only [if_true, if_false]
          rw [w_pred (by omega) (by omega), w_sub (i := p) (j := a') (by omega) (by omega), w_sub (by omega) (by omega)]
          exact ⟨b' - 1 - (p - a'), 1, _, rfl, by omega, by omega, Sort.permIn_trans _ _ _ a' b' hp2 (Sort.reverseRange_holds d2 a' b' hab' (by omega)), (hf2.trans f2.nil).trans f3, h3⟩
        · simp (config := { decide := true }) only [if_true, if_false]
          exact ⟨p, q, d2, rfl, hpa, hpb, hp2, hf2.trans f2.nil, f2.cells h2 (by simp)⟩
    · refine s_ite (fun g3 => s_call (brk_c h1 (by omega) hab' (by omega) (by rw [hs1]; exact hsz)) ?_) (fun g3 => s_next (by first | exact ⟨rfl, rfl⟩ | trivial) ?_)
      · rintro _ W1 ⟨d2, ⟨v, rfl⟩, p2, f2, h2⟩
        refine ⟨_, rfl, s_next (by first | exact ⟨rfl, rfl⟩ | trivial) ?_⟩
        simp (config := { decide := true }) only [if_true, if_false]
        exact ⟨_, d2, rfl, p2, hf.trans f2, h2⟩
      · simp (config := { decide := true }) only [if_true, if_false]
        exact ⟨_, d1, rfl, Sort.permIn_refl d1 a' b', hf, h1⟩

theorem len0_c {w : World} : Calls Try.prog 43 #[.int .u64 ((0 : Nat) : Int)] w fun e w' => (∃ lim : Int, e = .returned (.int .i64 lim)) ∧ w = w' := by
  apply c43
  refine s_call (R := fun e w' => (∃ lim : Int, e = .returned (.int .i64 lim)) ∧ w = w') ?_ ?_
  · apply c69
    unfold t69
    exact s_false (by decide) (s_false (by decide) (s_false (by decide) (s_req (by decide) (s_ret ⟨⟨_, rfl⟩, rfl⟩))))
  · rintro _ _ ⟨⟨lim, rfl⟩, rfl⟩
    exact ⟨_, rfl, s_asI (s_ret ⟨⟨_, rfl⟩, rfl⟩)⟩

def leK (x y : K) : Bool := !ltK y x
/-- The keys, sorted. -/
theorem sort_c {ks : List K} (h : Cells w g ty ((ks.map kr).flatten ++ sp)) (hL : L = ks.length) (hsz : ks.length < many) :
    Calls Try.prog 54 #[.slice (some ⟨g, 0, none⟩) L cap, .func (.func 41) #[] #[]] w fun e w' =>
      (∃ v, e = .returned v) ∧ Fr [g] w w' ∧ Cells w' g ty (((ks.mergeSort leK).map kr).flatten ++ sp) := by
  apply c54
  have hsz' := hsz
  simp only [many] at hsz'
  have h : Cells w g ty (KA ks.toArray sp) := by unfold KA; exact h
  have hs : ks.toArray.size = ks.length := by simp
  unfold t54
  have lencall : Calls Try.prog 43 #[.int .u64 (IntKind.wrap .u64 (L : Int))] w fun e w' => (∃ lim : Int, e = .returned (.int .i64 lim)) ∧ w = w' := by
    subst hL
    rw [wrapU (by omega) (by omega)]
    rcases Nat.eq_zero_or_pos ks.length with h0 | h0
    · rw [h0]
      exact len0_c
    · exact (len_c (w := w) ks.length h0 (by omega)).mono fun e w' ⟨z, he, _, _, hw⟩ => ⟨⟨z, he⟩, hw⟩
  refine s_call lencall ?_
  rintro _ _ ⟨⟨lim, rfl⟩, rfl⟩
  refine ⟨_, rfl, s_asI (s_call (pdq_c ks.length (a := 0) (b := L) (by omega) h (by omega) (by omega) (by omega) (.inl rfl) (by rw [hs]; exact hsz)) ?_)⟩
  rintro _ w1 ⟨d', ⟨v, rfl⟩, p1, s1, f1, h1⟩
  refine ⟨_, rfl, s_ret ⟨⟨_, rfl⟩, f1, ?_⟩⟩
  have hL' : L = ks.toArray.size := by omega
  rw [hL'] at p1 s1
  have := Sort.sorted_unique_holds (lt := ltK) swoK (fun x y h1 h2 => ltK_eq h1 h2) ks.toArray d' p1 s1
  unfold KA at h1
  rw [this] at h1
  exact h1
end
end Go.Proofs.Ytpjcfnnnciknmaa
