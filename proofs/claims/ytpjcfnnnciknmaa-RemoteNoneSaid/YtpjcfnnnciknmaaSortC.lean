/- slices.SortFunc at keys, third part: the partitions, the whole: the keys sorted. -/
import Derived.Test.YtpjcfnnnciknmaaSortB
set_option linter.unusedVariables false
set_option linter.unusedSimpArgs false
set_option maxRecDepth 100000
namespace Go.Proofs.Ytpjcfnnnciknmaa
open Go hiding Expr
open Go.RowKit Tr
open Go.Sort (scanUp scanDown partLoop partition partEqLoop partitionEqual scanSorted shiftDown shiftUp partialIns partialInsertionSort fixUp fixDown swp PermIn SortedIn Below insertionSort heapSort reverseRange)

section
variable {w : World} {g cap L : Nat} {ty : TypeId} {d : Array K} {sp : List Value}

theorem peq_c (h : Cells w g ty (KA d sp)) (hL : L = d.size) {a b p : Nat} (hab : a < b) (hb : b ≤ d.size) (hp1 : a ≤ p) (hp2 : p < b) (hsz : d.size < many) :
    Calls Try.prog 98 #[.slice (some ⟨g, 0, none⟩) L cap, .int .i64 a, .int .i64 b, .int .i64 p, .func (.func 41) #[] #[]] w fun e w' =>
      e = .returned (.int .i64 (partitionEqual ltK d a b p).1) ∧ Fr [g] w w' ∧ Cells w' g ty (KA (partitionEqual ltK d a b p).2 sp) := by
  apply c98
  simp only [many] at hsz
  refine s_drew fun w1 _ f1 => swapAt (i := p) (j := a) (f1.cells h (by simp)) hL rfl rfl (by omega) (by omega) fun w2 f2 h2 => ?_
  refine s_loop (fun vs W => ∃ (i j : Nat) (d' : Array K), vs = [.int .i64 i, .int .i64 j] ∧ a + 1 ≤ i ∧ i ≤ b + 1 ∧ j < b ∧ d'.size = d.size ∧ partEqLoop ltK a i j d' = partitionEqual ltK d a b p ∧ Fr [g] w W ∧ Cells W g ty (KA d' sp))
    (fun vs _ => (intOf (vs.getD 1 undef) + 1 - intOf (vs.getD 0 undef)).toNat)
    ⟨a + 1, b - 1, _, by rw [w_succ (by omega), w_pred (by omega) (by omega)], by omega, by omega, by omega, swp_sz _ _ _, rfl, f1.nil.trans f2, h2⟩ ?_
  rintro _ j0 W ⟨i, j, d1, rfl, hi1, hi2, hj, hs1, he, hf, h1⟩
  rw [Sort.partEqLoop_eq] at he
  refine s_asI (s_asI ?_)
  refine s_blk (fun vs W' => vs = [.int .i64 (scanUp (fun x => !ltK d1[a]! x) d1 j i : Nat)] ∧ Fr [g] w W' ∧ Cells W' g ty (KA d1 sp)) ?_ ?_
  · rintro _ _ W1 ⟨rfl, hf1, h1⟩
    have hge := Sort.scanUp_ge (fun x => !ltK d1[a]! x) d1 j i
    have hle := (Sort.scanUp_spec (fun x => !ltK d1[a]! x) d1 j _ i rfl).2.1
    have hsu : scanUp (fun x => !ltK d1[a]! x) d1 j i ≤ b + 1 := by
      by_cases hij : i ≤ j + 1
      · have := hle hij; omega
      · rw [scanUp, if_neg (by simp; omega)]; omega
    generalize scanUp (fun x => !ltK d1[a]! x) d1 j i = i2 at *
    refine s_asI ?_
    refine s_blk (fun vs W' => vs = [.int .i64 (scanDown (fun x => ltK d1[a]! x) d1 i2 j : Nat)] ∧ Fr [g] w W' ∧ Cells W' g ty (KA d1 sp)) ?_ ?_
    · rintro _ _ W2 ⟨rfl, hf2, h2⟩
      have hdl := Sort.scanDown_le (fun x => ltK d1[a]! x) d1 i2 j
      generalize scanDown (fun x => ltK d1[a]! x) d1 i2 j = j2 at *
      refine s_asI (s_ite (fun g1 => ?_) (fun g1 => ?_))
      · simp only [decide_eq_true_eq] at g1
        rw [if_pos (by omega)] at he
        rw [← he]
        exact s_ret ⟨rfl, hf2, h2⟩
      · simp only [decide_eq_false_iff_not] at g1
        rw [if_neg (by omega)] at he
        refine s_drew fun W3 _ f3 => swapAt (i := j2) (j := i2) (f3.cells h2 (by simp)) (by omega) rfl rfl (by omega) (by omega) fun W4 f4 h4 => s_next (by first | exact ⟨rfl, rfl⟩ | trivial) ?_
        simp (config := { decide := true }) only [if_true, if_false]
        exact ⟨⟨i2 + 1, j2 - 1, _, by rw [w_succ (by omega), w_pred (by omega) (by omega)], by omega, by omega, by omega, by rw [swp_sz]; exact hs1, he, (hf2.trans f3.nil).trans f4, h4⟩, by rw [w_succ (by omega), w_pred (by omega) (by omega)]; simp [intOf] <;> omega⟩
    · refine scan_ai (a := a) h1 (by omega) rfl (by omega) (fun k => k ≤ j ∧ scanDown (fun x => ltK d1[a]! x) d1 i2 k = scanDown (fun x => ltK d1[a]! x) d1 i2 j) (fun k => k) ⟨j, rfl, by omega, rfl⟩ ?_ ?_ (by decide) (fun _ => by first | exact ⟨rfl, rfl⟩ | trivial) (fun _ => by first | exact ⟨rfl, rfl⟩ | trivial) (fun _ => by first | exact ⟨rfl, rfl⟩ | trivial)
      · rintro k ⟨hk, hke⟩ hg
        simp only [decide_eq_true_eq] at hg
        refine ⟨by omega, fun ht => ⟨k - 1, by rw [w_pred (by omega) (by omega)], ⟨by omega, ?_⟩, by omega⟩⟩
        obtain ⟨k', rfl⟩ : ∃ k', k = k' + 1 := ⟨k - 1, by omega⟩
        rw [scanDown, ltK_of] at *
        rw [if_pos (by simp only [Bool.and_eq_true, decide_eq_true_eq]; exact ⟨by omega, ht⟩)] at hke
        exact hke
      · rintro k W3 ⟨hk, hke⟩ hend f3 h3
        simp (config := { decide := true }) only [if_true, if_false]
        refine ⟨?_, hf1.trans f3.nil, h3⟩
        rw [← hke]
        cases k with
        | zero => rfl
        | succ k' =>
          rw [scanDown, if_neg]
          simp only [Bool.and_eq_true, decide_eq_true_eq, not_and]
          intro hle ht
          have := hend (by simp only [decide_eq_true_eq]; omega)
          rw [ltK_of] at this
          rw [this] at ht
          cases ht
  · refine scan_ai (a := a) h1 (by omega) rfl (by omega) (fun k => i ≤ k ∧ (k ≤ i ∨ k ≤ j + 1) ∧ scanUp (fun x => !ltK d1[a]! x) d1 j k = scanUp (fun x => !ltK d1[a]! x) d1 j i) (fun k => b + 2 - k) ⟨i, rfl, by omega, by omega, rfl⟩ ?_ ?_ (by decide) (fun _ => by first | exact ⟨rfl, rfl⟩ | trivial) (fun _ => by first | exact ⟨rfl, rfl⟩ | trivial) (fun _ => by first | exact ⟨rfl, rfl⟩ | trivial)
    · rintro k ⟨hk1, hk2, hke⟩ hg
      simp only [decide_eq_true_eq] at hg
      refine ⟨by omega, fun ht => ⟨k + 1, by rw [w_succ (by omega)], ⟨by omega, by omega, ?_⟩, by omega⟩⟩
      rw [scanUp, if_pos (by simp only [Bool.and_eq_true, decide_eq_true_eq]; exact ⟨by omega, ht⟩)] at hke
      exact hke
    · rintro k W3 ⟨hk1, hk2, hke⟩ hend f3 h3
      simp (config := { decide := true }) only [if_true, if_false]
      refine ⟨?_, hf.trans f3.nil, h3⟩
      rw [← hke, scanUp, if_neg]
      simp only [Bool.and_eq_true, decide_eq_true_eq, not_and]
      intro hle ht
      have := hend (by simp only [decide_eq_true_eq]; omega)
      rw [ltK_of] at this
      rw [this] at ht
      cases ht


theorem part_c (h : Cells w g ty (KA d sp)) (hL : L = d.size) {a b p : Nat} (hab : a < b) (hb : b ≤ d.size) (hp1 : a ≤ p) (hp2 : p < b) (hsz : d.size < many) :
    Calls Try.prog 99 #[.slice (some ⟨g, 0, none⟩) L cap, .int .i64 a, .int .i64 b, .int .i64 p, .func (.func 41) #[] #[]] w fun e w' =>
      e = .returned (.tuple ⟨[.int .i64 (partition ltK d a b p).1, .bool (partition ltK d a b p).2.1]⟩) ∧ Fr [g] w w' ∧ Cells w' g ty (KA (partition ltK d a b p).2.2 sp) := by
  apply c99
  simp only [many] at hsz
  unfold t99
  refine s_drew fun w1 _ f1 => swapAt (i := p) (j := a) (f1.cells h (by simp)) hL rfl rfl (by omega) (by omega) fun w2 f2 h1 => ?_
  have hD := swp_sz d a p
  have hP : partition ltK d a b p = (if scanUp (fun x => ltK x (swp d a p)[a]!) (swp d a p) (b - 1) (a + 1) > scanDown (fun x => !ltK x (swp d a p)[a]!) (swp d a p) (scanUp (fun x => ltK x (swp d a p)[a]!) (swp d a p) (b - 1) (a + 1)) (b - 1) then
      (scanDown (fun x => !ltK x (swp d a p)[a]!) (swp d a p) (scanUp (fun x => ltK x (swp d a p)[a]!) (swp d a p) (b - 1) (a + 1)) (b - 1), true, swp (swp d a p) (scanDown (fun x => !ltK x (swp d a p)[a]!) (swp d a p) (scanUp (fun x => ltK x (swp d a p)[a]!) (swp d a p) (b - 1) (a + 1)) (b - 1)) a) else
      ((partLoop ltK a (scanUp (fun x => ltK x (swp d a p)[a]!) (swp d a p) (b - 1) (a + 1) + 1) (scanDown (fun x => !ltK x (swp d a p)[a]!) (swp d a p) (scanUp (fun x => ltK x (swp d a p)[a]!) (swp d a p) (b - 1) (a + 1)) (b - 1) - 1)
          (swp (swp d a p) (scanUp (fun x => ltK x (swp d a p)[a]!) (swp d a p) (b - 1) (a + 1)) (scanDown (fun x => !ltK x (swp d a p)[a]!) (swp d a p) (scanUp (fun x => ltK x (swp d a p)[a]!) (swp d a p) (b - 1) (a + 1)) (b - 1)))).1, false,
        swp (partLoop ltK a (scanUp (fun x => ltK x (swp d a p)[a]!) (swp d a p) (b - 1) (a + 1) + 1) (scanDown (fun x => !ltK x (swp d a p)[a]!) (swp d a p) (scanUp (fun x => ltK x (swp d a p)[a]!) (swp d a p) (b - 1) (a + 1)) (b - 1) - 1)
          (swp (swp d a p) (scanUp (fun x => ltK x (swp d a p)[a]!) (swp d a p) (b - 1) (a + 1)) (scanDown (fun x => !ltK x (swp d a p)[a]!) (swp d a p) (scanUp (fun x => ltK x (swp d a p)[a]!) (swp d a p) (b - 1) (a + 1)) (b - 1)))).2
          (partLoop ltK a (scanUp (fun x => ltK x (swp d a p)[a]!) (swp d a p) (b - 1) (a + 1) + 1) (scanDown (fun x => !ltK x (swp d a p)[a]!) (swp d a p) (scanUp (fun x => ltK x (swp d a p)[a]!) (swp d a p) (b - 1) (a + 1)) (b - 1) - 1)
          (swp (swp d a p) (scanUp (fun x => ltK x (swp d a p)[a]!) (swp d a p) (b - 1) (a + 1)) (scanDown (fun x => !ltK x (swp d a p)[a]!) (swp d a p) (scanUp (fun x => ltK x (swp d a p)[a]!) (swp d a p) (b - 1) (a + 1)) (b - 1)))).1 a)) := by
    unfold partition
    simp only
  have hf := f1.nil.trans f2
  generalize swp d a p = D at *
  have wb1 : IntKind.wrap .i64 ((b : Int) - 1) = ((b - 1 : Nat) : Int) := w_pred (by omega) (by omega)
  rw [wb1]
  refine s_blk (fun vs W' => vs = [.int .i64 (scanUp (fun x => ltK x D[a]!) D (b - 1) (a + 1) : Nat)] ∧ Fr [g] w W' ∧ Cells W' g ty (KA D sp)) ?_ ?_
  · rintro _ _ W1 ⟨rfl, hf1, h1⟩
    have hge := Sort.scanUp_ge (fun x => ltK x D[a]!) D (b - 1) (a + 1)
    have hle := (Sort.scanUp_spec (fun x => ltK x D[a]!) D (b - 1) _ (a + 1) rfl).2.1 (by omega)
    generalize scanUp (fun x => ltK x D[a]!) D (b - 1) (a + 1) = i2 at *
    refine s_asI ?_
    refine s_blk (fun vs W' => vs = [.int .i64 (scanDown (fun x => !ltK x D[a]!) D i2 (b - 1) : Nat)] ∧ Fr [g] w W' ∧ Cells W' g ty (KA D sp)) ?_ ?_
    · rintro _ _ W2 ⟨rfl, hf2, h2⟩
      have hdl := Sort.scanDown_le (fun x => !ltK x D[a]!) D i2 (b - 1)
      generalize scanDown (fun x => !ltK x D[a]!) D i2 (b - 1) = j2 at *
      refine s_asI (s_ite (fun g1 => ?_) (fun g1 => ?_))
      · simp only [decide_eq_true_eq] at g1
        rw [if_pos (by omega)] at hP
        rw [hP]
        exact s_drew fun W3 _ f3 => swapAt (i := a) (j := j2) (f3.cells h2 (by simp)) (by omega) rfl rfl (by omega) (by omega) fun W4 f4 h4 => s_ret ⟨rfl, (hf2.trans f3.nil).trans f4, h4⟩
      · simp only [decide_eq_false_iff_not] at g1
        rw [if_neg (by omega)] at hP
        refine s_drew fun W3 _ f3 => swapAt (i := j2) (j := i2) (f3.cells h2 (by simp)) (by omega) rfl rfl (by omega) (by omega) fun W4 f4 h4 => ?_
        refine s_loop (fun vs W => ∃ (i j : Nat) (d' : Array K), vs = [.int .i64 i, .int .i64 j] ∧ a + 1 ≤ i ∧ i ≤ b + 1 ∧ j < b ∧ d'.size = d.size ∧ partLoop ltK a i j d' = partLoop ltK a (i2 + 1) (j2 - 1) (swp D i2 j2) ∧ Fr [g] w W ∧ Cells W g ty (KA d' sp))
          (fun vs _ => (intOf (vs.getD 1 undef) + 1 - intOf (vs.getD 0 undef)).toNat)
          ⟨i2 + 1, j2 - 1, _, by rw [w_succ (by omega), w_pred (by omega) (by omega)], by omega, by omega, by omega, by rw [swp_sz]; exact hD, rfl, (hf2.trans f3.nil).trans f4, h4⟩ ?_
        generalize partLoop ltK a (i2 + 1) (j2 - 1) (swp D i2 j2) = R at hP ⊢
        rintro _ j0 W ⟨i, j, d1, rfl, hi1, hi2, hj, hs1, he, hf, h1⟩
        rw [Sort.partLoop_eq] at he
        refine s_asI (s_asI ?_)
        refine s_blk (fun vs W' => vs = [.int .i64 (scanUp (fun x => ltK x d1[a]!) d1 j i : Nat)] ∧ Fr [g] w W' ∧ Cells W' g ty (KA d1 sp)) ?_ ?_
        · rintro _ _ W1 ⟨rfl, hf1, h1⟩
          have hge := Sort.scanUp_ge (fun x => ltK x d1[a]!) d1 j i
          have hle := (Sort.scanUp_spec (fun x => ltK x d1[a]!) d1 j _ i rfl).2.1
          have hsu : scanUp (fun x => ltK x d1[a]!) d1 j i ≤ b + 1 := by
            by_cases hij : i ≤ j + 1
            · have := hle hij; omega
            · rw [scanUp, if_neg (by simp; omega)]; omega
          clear g1 hdl
          generalize scanUp (fun x => ltK x d1[a]!) d1 j i = i2 at *
          refine s_asI ?_
          refine s_blk (fun vs W' => vs = [.int .i64 (scanDown (fun x => !ltK x d1[a]!) d1 i2 j : Nat)] ∧ Fr [g] w W' ∧ Cells W' g ty (KA d1 sp)) ?_ ?_
          · rintro _ _ W2 ⟨rfl, hf2, h2⟩
            have hdl := Sort.scanDown_le (fun x => !ltK x d1[a]!) d1 i2 j
            generalize scanDown (fun x => !ltK x d1[a]!) d1 i2 j = j2 at *
            refine s_asI (s_ite (fun g1 => ?_) (fun g1 => ?_))
            · simp only [decide_eq_true_eq] at g1
              rw [if_pos (by omega)] at he
              rw [hP, ← he]
              exact s_drew fun W3 _ f3 => swapAt (i := a) (j := j2) (f3.cells h2 (by simp)) (by omega) rfl rfl (by omega) (by omega) fun W4 f4 h4 => s_ret ⟨rfl, (hf2.trans f3.nil).trans f4, h4⟩
            · simp only [decide_eq_false_iff_not] at g1
              rw [if_neg (by omega)] at he
              refine s_drew fun W3 _ f3 => swapAt (i := j2) (j := i2) (f3.cells h2 (by simp)) (by omega) rfl rfl (by omega) (by omega) fun W4 f4 h4 => s_next (by first | exact ⟨rfl, rfl⟩ | trivial) ?_
              simp (config := { decide := true }) only [if_true, if_false]
              exact ⟨⟨i2 + 1, j2 - 1, _, by rw [w_succ (by omega), w_pred (by omega) (by omega)], by omega, by omega, by omega, by rw [swp_sz]; exact hs1, he, (hf2.trans f3.nil).trans f4, h4⟩, by rw [w_succ (by omega), w_pred (by omega) (by omega)]; simp [intOf] <;> omega⟩
          · refine scan_ia (a := a) h1 (by omega) rfl (by omega) (fun k => k ≤ j ∧ scanDown (fun x => !ltK x d1[a]!) d1 i2 k = scanDown (fun x => !ltK x d1[a]!) d1 i2 (j)) (fun k => k) ⟨j, rfl, by omega, rfl⟩ ?_ ?_ (by decide) (fun _ => by first | exact ⟨rfl, rfl⟩ | trivial) (fun _ => by first | exact ⟨rfl, rfl⟩ | trivial) (fun _ => by first | exact ⟨rfl, rfl⟩ | trivial)
            · rintro k ⟨hk, hke⟩ hg
              simp only [decide_eq_true_eq] at hg
              refine ⟨by omega, fun ht => ⟨k - 1, by rw [w_pred (by omega) (by omega)], ⟨by omega, ?_⟩, by omega⟩⟩
              obtain ⟨k', rfl⟩ : ∃ k', k = k' + 1 := ⟨k - 1, by omega⟩
              rw [scanDown, if_pos (by simp only [Bool.and_eq_true, decide_eq_true_eq]; exact ⟨by omega, ht⟩)] at hke
              exact hke
            · rintro k W3 ⟨hk, hke⟩ hend f3 h3
              simp (config := { decide := true }) only [if_true, if_false]
              refine ⟨?_, hf1.trans f3.nil, h3⟩
              rw [← hke]
              cases k with
              | zero => rfl
              | succ k' =>
                rw [scanDown, if_neg]
                simp only [Bool.and_eq_true, decide_eq_true_eq, not_and]
                intro hle ht
                have := hend (by simp only [decide_eq_true_eq]; omega)
                rw [ltK_of] at this
                rw [this] at ht
                cases ht
        · refine scan_ia (a := a) h1 (by omega) rfl (by omega) (fun k => i ≤ k ∧ (k ≤ i ∨ k ≤ j + 1) ∧ scanUp (fun x => ltK x d1[a]!) d1 j k = scanUp (fun x => ltK x d1[a]!) d1 j i) (fun k => b + 2 - k) ⟨i, rfl, by omega, by omega, rfl⟩ ?_ ?_ (by decide) (fun _ => by first | exact ⟨rfl, rfl⟩ | trivial) (fun _ => by first | exact ⟨rfl, rfl⟩ | trivial) (fun _ => by first | exact ⟨rfl, rfl⟩ | trivial)
          · rintro k ⟨hk1, hk2, hke⟩ hg
            simp only [decide_eq_true_eq] at hg
            refine ⟨by omega, fun ht => ⟨k + 1, by rw [w_succ (by omega)], ⟨by omega, by omega, ?_⟩, by omega⟩⟩
            rw [scanUp, if_pos (by simp only [Bool.and_eq_true, decide_eq_true_eq]; exact ⟨by omega, ht⟩)] at hke
            exact hke
          · rintro k W3 ⟨hk1, hk2, hke⟩ hend f3 h3
            simp (config := { decide := true }) only [if_true, if_false]
            refine ⟨?_, hf.trans f3.nil, h3⟩
            rw [← hke, scanUp, if_neg]
            simp only [Bool.and_eq_true, decide_eq_true_eq, not_and]
            intro hle ht
            have := hend (by simp only [decide_eq_true_eq]; omega)
            rw [ltK_of] at this
            rw [this] at ht
            cases ht
    · refine scan_ia (a := a) h1 (by omega) rfl (by omega) (fun k => k ≤ (b - 1) ∧ scanDown (fun x => !ltK x D[a]!) D i2 k = scanDown (fun x => !ltK x D[a]!) D i2 ((b - 1))) (fun k => k) ⟨(b - 1), rfl, by omega, rfl⟩ ?_ ?_ (by decide) (fun _ => by first | exact ⟨rfl, rfl⟩ | trivial) (fun _ => by first | exact ⟨rfl, rfl⟩ | trivial) (fun _ => by first | exact ⟨rfl, rfl⟩ | trivial)
      · rintro k ⟨hk, hke⟩ hg
        simp only [decide_eq_true_eq] at hg
        refine ⟨by omega, fun ht => ⟨k - 1, by rw [w_pred (by omega) (by omega)], ⟨by omega, ?_⟩, by omega⟩⟩
        obtain ⟨k', rfl⟩ : ∃ k', k = k' + 1 := ⟨k - 1, by omega⟩
        rw [scanDown, if_pos (by simp only [Bool.and_eq_true, decide_eq_true_eq]; exact ⟨by omega, ht⟩)] at hke
        exact hke
      · rintro k W3 ⟨hk, hke⟩ hend f3 h3
        simp (config := { decide := true }) only [if_true, if_false]
        refine ⟨?_, hf1.trans f3.nil, h3⟩
        rw [← hke]
        cases k with
        | zero => rfl
        | succ k' =>
          rw [scanDown, if_neg]
          simp only [Bool.and_eq_true, decide_eq_true_eq, not_and]
          intro hle ht
          have := hend (by simp only [decide_eq_true_eq]; omega)
          rw [ltK_of] at this
          rw [this] at ht
          cases ht
  · refine scan_ia (a := a) h1 (by omega) rfl (by omega) (fun k => (a + 1) ≤ k ∧ (k ≤ (a + 1) ∨ k ≤ (b - 1) + 1) ∧ scanUp (fun x => ltK x D[a]!) D (b - 1) k = scanUp (fun x => ltK x D[a]!) D (b - 1) (a + 1)) (fun k => b + 2 - k) ⟨(a + 1), by rw [w_succ (by omega)], by omega, by omega, rfl⟩ ?_ ?_ (by decide) (fun _ => by first | exact ⟨rfl, rfl⟩ | trivial) (fun _ => by first | exact ⟨rfl, rfl⟩ | trivial) (fun _ => by first | exact ⟨rfl, rfl⟩ | trivial)
    · rintro k ⟨hk1, hk2, hke⟩ hg
      simp only [decide_eq_true_eq] at hg
      refine ⟨by omega, fun ht => ⟨k + 1, by rw [w_succ (by omega)], ⟨by omega, by omega, ?_⟩, by omega⟩⟩
      rw [scanUp, if_pos (by simp only [Bool.and_eq_true, decide_eq_true_eq]; exact ⟨by omega, ht⟩)] at hke
      exact hke
    · rintro k W3 ⟨hk1, hk2, hke⟩ hend f3 h3
      simp (config := { decide := true }) only [if_true, if_false]
      refine ⟨?_, hf.trans f3.nil, h3⟩
      rw [← hke, scanUp, if_neg]
      simp only [Bool.and_eq_true, decide_eq_true_eq, not_and]
      intro hle ht
      have := hend (by simp only [decide_eq_true_eq]; omega)
      rw [ltK_of] at this
      rw [this] at ht
      cases ht
end
end Go.Proofs.Ytpjcfnnnciknmaa
