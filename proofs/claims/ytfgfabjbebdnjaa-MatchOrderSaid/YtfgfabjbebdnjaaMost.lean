/- The walk of MatchMost. -/
import Derived.Test.YtfgfabjbebdnjaaBegun
set_option linter.unusedVariables false
set_option linter.unusedSimpArgs false
set_option maxRecDepth 100000

namespace Go.Proofs.Ytfgfabjbebdnjaa
open Go hiding Expr
open Go.RowKit Tr

structure Opn where
  d : Int
  who : Int
  slot : Int
def opRow (o : Opn) : List Value := [.int .i64 o.d, .int .i64 o.who, .int .i64 o.slot]
def opLeaves : List Leaf := [.int .i64, .int .i64, .int .i64]
theorem ops_of : ∀ rows : List (List Value), (∀ r ∈ rows, Fits opLeaves r) → ∃ ops : List Opn, rows = ops.map opRow
  | [], _ => ⟨[], rfl⟩
  | r :: l, h => by
    obtain ⟨ops, rfl⟩ := ops_of l (fun x hx => h x (by simp [hx]))
    obtain ⟨a, r1, rfl, _, h1⟩ := (h r (by simp)).int
    obtain ⟨b, r2, rfl, _, h2⟩ := h1.int
    obtain ⟨c, r3, rfl, _, h3⟩ := h2.int
    obtain rfl := h3.nil
    exact ⟨⟨a, b, c⟩ :: ops, rfl⟩
/-- The cells of one operation that was handed in. -/
theorem op_at {w : World} {o : Option Addr} {ops : List Opn} (h : RowsAt w o 3 (ops.map opRow)) {i : Nat} (hi : i < ops.length) :
    ∃ g off, o = some ⟨g, off, none⟩ ∧ w.cell? ⟨g, off + i * 3, none⟩ = some (.int .i64 ops[i].d) ∧ w.cell? ⟨g, off + i * 3 + 1, none⟩ = some (.int .i64 ops[i].who) ∧ w.cell? ⟨g, off + i * 3 + 2, none⟩ = some (.int .i64 ops[i].slot) := by
  obtain ⟨g, off, rfl, _, hc⟩ := h.at (j := i) (r := opRow ops[i]) (by simp [hi])
  exact ⟨g, off, rfl, hc 0 _ rfl, hc 1 _ rfl, hc 2 _ rfl⟩

theorem likes_get {s : MS} (i : Nat) (h : (i : Int) < s.n) : s.likes[i]? = some (s.at (i : Int)).2 := by
  simp only [MS.likes, List.getElem?_map, List.getElem?_range (show i < s.n.toNat by omega), Option.map_some]
theorem likes_len (s : MS) : s.likes.length = s.n.toNat := by simp [MS.likes]
theorem tellS_n (s : MS) (i : Int) (yes : Bool) (slot : Int) : (s.tellS i yes slot).n = s.n := by
  unfold MS.tellS
  split
  · rfl
  · split
    · rfl
    · split <;> rfl
theorem atLeast_step {ls : List Int} {i : Nat} {x : Int} (h : ls[i]? = some x) (v : Int) : atLeast (ls.take (i + 1)) v = atLeast (ls.take i) v + (if v ≤ x then 1 else 0) := by
  rw [List.take_add_one, h]
  simp only [atLeast, Option.toList_some, List.countP_append, List.countP_cons, List.countP_nil, Nat.zero_add, decide_eq_true_eq]
theorem atLeast_le (ls : List Int) (v : Int) : atLeast ls v ≤ ls.length := List.countP_le_length

theorem exists_ag {ls : List Int} (h : 0 < ls.length) : ∃ v, IsAg ls v := by
  have hp := List.mergeSort_perm ls (fun a b => decide (a ≤ b))
  have hs : (ls.mergeSort (fun a b => decide (a ≤ b))).Pairwise (· ≤ ·) := by
    have := List.pairwise_mergeSort (le := fun a b : Int => decide (a ≤ b)) (by intro a b c; simp only [decide_eq_true_eq]; omega) (by intro a b; simp only [Bool.or_eq_true, decide_eq_true_eq]; omega) ls
    exact this.imp (by intro a b hab; simpa using hab)
  have hl : (ls.length - 1) / 2 < (ls.mergeSort (fun a b => decide (a ≤ b))).length := by rw [hp.length_eq]; omega
  exact ⟨_, ag_of hp hs (List.getElem?_eq_getElem hl)⟩

theorem most_c {w : World} (n self len : Int) (o : Option Addr) (cap : Nat) (ops : List Opn) (hmax : ops.length ≤ maxLen) (hrows : RowsAt w o 3 (ops.map opRow)) :
    Calls Try.prog 3 #[.agg #[.int .i64 n, .int .i64 self], .int .i64 len, .slice o ops.length cap] w fun e w' => e = .returned (.bool true) ∧ Fr [] w w' := by
  apply c3
  have hmx : ops.length ≤ 9223372036854775807 := by unfold maxLen at hmax; omega
  refine h_new (Has.init w) fun r6 u H => ?_
  (repeat (first | refine s_asI ?_ | refine s_asS ?_ | refine s_asP ?_ | refine s_asB ?_ | refine s_asA ?_ | refine s_asT ?_ | refine s_asM ?_ | refine s_asU ?_ | refine s_asC ?_ | refine s_sm ?_ | refine s_req (by first | rfl | exact ⟨rfl, rfl⟩) ?_ | refine h_ldI H (by repeat (first | exact pick_head | apply pick_tail | apply pick_app)) (by first | rfl | (simp; done)) ?_ | refine h_ldB H (by repeat (first | exact pick_head | apply pick_tail | apply pick_app)) (by first | rfl | (simp; done)) ?_ | refine h_ldP H (by repeat (first | exact pick_head | apply pick_tail | apply pick_app)) (by first | rfl | (simp; done)) ?_ | refine h_ldS H (by repeat (first | exact pick_head | apply pick_tail | apply pick_app)) (by first | rfl | (simp; done)) ?_ | refine h_ldM H (by repeat (first | exact pick_head | apply pick_tail | apply pick_app)) (by first | rfl | (simp; done)) ?_ | refine h_ldT H (by repeat (first | exact pick_head | apply pick_tail | apply pick_app)) (by first | rfl | (simp; done)) ?_ | refine h_ldV H (by repeat (first | exact pick_head | apply pick_tail | apply pick_app)) (by first | rfl | (simp; done)) ?_ | (refine h_st H (by repeat (first | exact pick_head | apply pick_tail | apply pick_app)) (by simp) rfl fun u H => ?_) | (refine h_drew H fun u H => ?_) | refine s_chk c_nil ?_))
  refine s_call (new_c n self len) ?_
  rintro _ u ⟨f, ⟨hn, rfl⟩ | ⟨hn, r, hr, hc, rfl⟩⟩
  · have H := H.fr0 f
    refine ⟨_, rfl, ?_⟩
    (repeat (first | refine s_asI ?_ | refine s_asS ?_ | refine s_asP ?_ | refine s_asB ?_ | refine s_asA ?_ | refine s_asT ?_ | refine s_asM ?_ | refine s_asU ?_ | refine s_asC ?_ | refine s_sm ?_ | refine s_req (by first | rfl | exact ⟨rfl, rfl⟩) ?_ | refine h_ldI H (by repeat (first | exact pick_head | apply pick_tail | apply pick_app)) (by first | rfl | (simp; done)) ?_ | refine h_ldB H (by repeat (first | exact pick_head | apply pick_tail | apply pick_app)) (by first | rfl | (simp; done)) ?_ | refine h_ldP H (by repeat (first | exact pick_head | apply pick_tail | apply pick_app)) (by first | rfl | (simp; done)) ?_ | refine h_ldS H (by repeat (first | exact pick_head | apply pick_tail | apply pick_app)) (by first | rfl | (simp; done)) ?_ | refine h_ldM H (by repeat (first | exact pick_head | apply pick_tail | apply pick_app)) (by first | rfl | (simp; done)) ?_ | refine h_ldT H (by repeat (first | exact pick_head | apply pick_tail | apply pick_app)) (by first | rfl | (simp; done)) ?_ | refine h_ldV H (by repeat (first | exact pick_head | apply pick_tail | apply pick_app)) (by first | rfl | (simp; done)) ?_ | (refine h_st H (by repeat (first | exact pick_head | apply pick_tail | apply pick_app)) (by simp) rfl fun u H => ?_) | (refine h_drew H fun u H => ?_) | refine s_chk c_nil ?_))
    refine s_call begun_c ?_
    rintro _ u ⟨rfl, f⟩
    have H := H.fr0 f
    refine ⟨_, rfl, s_asB (s_false rfl (s_true rfl (s_call begun_c ?_)))⟩
    rintro _ u ⟨rfl, f⟩
    exact ⟨_, rfl, s_asB (s_true rfl (s_ret ⟨rfl, (H.fr0 f).base⟩))⟩
  · have H := H.addc f hr hc
    refine ⟨_, rfl, ?_⟩
    (repeat (first | refine s_asI ?_ | refine s_asS ?_ | refine s_asP ?_ | refine s_asB ?_ | refine s_asA ?_ | refine s_asT ?_ | refine s_asM ?_ | refine s_asU ?_ | refine s_asC ?_ | refine s_sm ?_ | refine s_req (by first | rfl | exact ⟨rfl, rfl⟩) ?_ | refine h_ldI H (by repeat (first | exact pick_head | apply pick_tail | apply pick_app)) (by first | rfl | (simp; done)) ?_ | refine h_ldB H (by repeat (first | exact pick_head | apply pick_tail | apply pick_app)) (by first | rfl | (simp; done)) ?_ | refine h_ldP H (by repeat (first | exact pick_head | apply pick_tail | apply pick_app)) (by first | rfl | (simp; done)) ?_ | refine h_ldS H (by repeat (first | exact pick_head | apply pick_tail | apply pick_app)) (by first | rfl | (simp; done)) ?_ | refine h_ldM H (by repeat (first | exact pick_head | apply pick_tail | apply pick_app)) (by first | rfl | (simp; done)) ?_ | refine h_ldT H (by repeat (first | exact pick_head | apply pick_tail | apply pick_app)) (by first | rfl | (simp; done)) ?_ | refine h_ldV H (by repeat (first | exact pick_head | apply pick_tail | apply pick_app)) (by first | rfl | (simp; done)) ?_ | (refine h_st H (by repeat (first | exact pick_head | apply pick_tail | apply pick_app)) (by simp) rfl fun u H => ?_) | (refine h_drew H fun u H => ?_) | refine s_chk c_nil ?_))
    refine s_call begun_c ?_
    rintro _ u ⟨rfl, f⟩
    have H := H.fr0 f
    refine ⟨_, rfl, s_asB (s_false rfl (s_false rfl ?_))⟩
    refine s_loop (fun vs W => ∃ (i : Nat) (s : MS), vs = [.int .i64 i] ∧ i ≤ ops.length ∧ s.Ok ∧ s.n = n ∧ Has w W (cl r 46 (pm s) :: cl r6 23 [.int .i64 n, .int .i64 self] :: []))
      (fun vs _ => ops.length - (intOf (vs.getD 0 undef)).toNat) ⟨0, newS n self len, rfl, by omega, newS_ok hn, rfl, H⟩ ?_
    rintro _ j W ⟨i, s, rfl, hi, hs, hsn, H⟩
    refine s_asI (s_ite (fun g => ?_) (fun g => ?_))
    · simp only [decide_eq_true_eq] at g
      have hw : IntKind.wrap .i64 ((i : Int) + 1) = ((i + 1 : Nat) : Int) := by rw [wrap64 (by omega) (by omega)]; rfl
      obtain ⟨gb, off, rfl, q1, q2, q3⟩ := op_at (H.rows hrows) (i := i) (by omega)
      refine s_req (by omega) (s_sm (s_loadI q1 (s_loadI q2 (s_loadI q3 ?_))))
      (repeat (first | refine s_asI ?_ | refine s_asS ?_ | refine s_asP ?_ | refine s_asB ?_ | refine s_asA ?_ | refine s_asT ?_ | refine s_asM ?_ | refine s_asU ?_ | refine s_asC ?_ | refine s_sm ?_ | refine s_req (by first | rfl | exact ⟨rfl, rfl⟩) ?_ | refine h_ldI H (by repeat (first | exact pick_head | apply pick_tail | apply pick_app)) (by first | rfl | (simp; done)) ?_ | refine h_ldB H (by repeat (first | exact pick_head | apply pick_tail | apply pick_app)) (by first | rfl | (simp; done)) ?_ | refine h_ldP H (by repeat (first | exact pick_head | apply pick_tail | apply pick_app)) (by first | rfl | (simp; done)) ?_ | refine h_ldS H (by repeat (first | exact pick_head | apply pick_tail | apply pick_app)) (by first | rfl | (simp; done)) ?_ | refine h_ldM H (by repeat (first | exact pick_head | apply pick_tail | apply pick_app)) (by first | rfl | (simp; done)) ?_ | refine h_ldT H (by repeat (first | exact pick_head | apply pick_tail | apply pick_app)) (by first | rfl | (simp; done)) ?_ | refine h_ldV H (by repeat (first | exact pick_head | apply pick_tail | apply pick_app)) (by first | rfl | (simp; done)) ?_ | (refine h_new H fun _ u H => ?_) | (refine h_st H (by repeat (first | exact pick_head | apply pick_tail | apply pick_app)) (by simp) rfl fun u H => ?_) | (refine h_drew H fun u H => ?_) | refine s_chk c_nil ?_))
      refine s_call (told_c (H.cells (by repeat (first | exact pick_head | apply pick_tail | apply pick_app))) hs _ _ _) ?_
      rintro _ u ⟨⟨gw, er, rfl, _⟩, f, hc⟩
      have H := H.updc (by repeat (first | exact pick_head | apply pick_tail | apply pick_app)) f hc
      refine ⟨_, rfl, ?_⟩
      (repeat (first | refine s_asI ?_ | refine s_asS ?_ | refine s_asP ?_ | refine s_asB ?_ | refine s_asA ?_ | refine s_asT ?_ | refine s_asM ?_ | refine s_asU ?_ | refine s_asC ?_ | refine s_sm ?_ | refine s_req (by first | rfl | exact ⟨rfl, rfl⟩) ?_ | refine h_ldI H (by repeat (first | exact pick_head | apply pick_tail | apply pick_app)) (by first | rfl | (simp; done)) ?_ | refine h_ldB H (by repeat (first | exact pick_head | apply pick_tail | apply pick_app)) (by first | rfl | (simp; done)) ?_ | refine h_ldP H (by repeat (first | exact pick_head | apply pick_tail | apply pick_app)) (by first | rfl | (simp; done)) ?_ | refine h_ldS H (by repeat (first | exact pick_head | apply pick_tail | apply pick_app)) (by first | rfl | (simp; done)) ?_ | refine h_ldM H (by repeat (first | exact pick_head | apply pick_tail | apply pick_app)) (by first | rfl | (simp; done)) ?_ | refine h_ldT H (by repeat (first | exact pick_head | apply pick_tail | apply pick_app)) (by first | rfl | (simp; done)) ?_ | refine h_ldV H (by repeat (first | exact pick_head | apply pick_tail | apply pick_app)) (by first | rfl | (simp; done)) ?_ | (refine h_new H fun _ u H => ?_) | (refine h_st H (by repeat (first | exact pick_head | apply pick_tail | apply pick_app)) (by simp) rfl fun u H => ?_) | (refine h_drew H fun u H => ?_) | refine s_chk c_nil ?_))
      refine s_next ⟨rfl, rfl⟩ ?_
      simp only [if_true]
      exact ⟨⟨i + 1, s.tellS ops[i].who (ops[i].d != 3) ops[i].slot, by rw [hw], by omega, tellS_ok hs _ _ _, by rw [tellS_n]; exact hsn, H.sub (by repeat (first | exact sb_refl | exact sb_nil | refine sb_cons (by repeat (first | exact pick_head | apply pick_tail | apply pick_app)) ?_ | refine sb_app (by repeat (first | exact cut_head | exact cut_all | apply cut_tail | apply cut_app)) ?_ | exact sb_one (by repeat (first | exact cut_head | exact cut_all | apply cut_tail | apply cut_app))))⟩, by rw [hw]; simp [intOf]; omega⟩
    · (repeat (first | refine s_asI ?_ | refine s_asS ?_ | refine s_asP ?_ | refine s_asB ?_ | refine s_asA ?_ | refine s_asT ?_ | refine s_asM ?_ | refine s_asU ?_ | refine s_asC ?_ | refine s_sm ?_ | refine s_req (by first | rfl | exact ⟨rfl, rfl⟩) ?_ | refine h_ldI H (by repeat (first | exact pick_head | apply pick_tail | apply pick_app)) (by first | rfl | (simp; done)) ?_ | refine h_ldB H (by repeat (first | exact pick_head | apply pick_tail | apply pick_app)) (by first | rfl | (simp; done)) ?_ | refine h_ldP H (by repeat (first | exact pick_head | apply pick_tail | apply pick_app)) (by first | rfl | (simp; done)) ?_ | refine h_ldS H (by repeat (first | exact pick_head | apply pick_tail | apply pick_app)) (by first | rfl | (simp; done)) ?_ | refine h_ldM H (by repeat (first | exact pick_head | apply pick_tail | apply pick_app)) (by first | rfl | (simp; done)) ?_ | refine h_ldT H (by repeat (first | exact pick_head | apply pick_tail | apply pick_app)) (by first | rfl | (simp; done)) ?_ | refine h_ldV H (by repeat (first | exact pick_head | apply pick_tail | apply pick_app)) (by first | rfl | (simp; done)) ?_ | (refine h_new H fun _ u H => ?_) | (refine h_st H (by repeat (first | exact pick_head | apply pick_tail | apply pick_app)) (by simp) rfl fun u H => ?_) | (refine h_drew H fun u H => ?_) | refine s_chk c_nil ?_))
      have hn5 := hs.n5
      have hn1 := hs.n1
      obtain ⟨v, hv⟩ := exists_ag (ls := s.likes) (by rw [likes_len]; omega)
      have hv2 := hv.most
      rw [likes_len] at hv2
      refine s_loop (fun vs W => ∃ (i : Nat), vs = [.int .i64 (atLeast (s.likes.take i) v), .int .i64 (atLeast (s.likes.take i) (v + 1)), .int .i64 i] ∧ (i : Int) ≤ s.n ∧ Has w W (cl r 46 (pm s) :: cl r6 23 [.int .i64 n, .int .i64 self] :: []))
        (fun vs _ => s.n.toNat - (intOf (vs.getD 2 undef)).toNat) ⟨0, rfl, by omega, H⟩ ?_
      rintro _ j W ⟨i, rfl, hi, H⟩
      have hl1 : atLeast (s.likes.take i) v ≤ 5 := Nat.le_trans (atLeast_le _ _) (by rw [List.length_take, likes_len]; omega)
      have hl2 : atLeast (s.likes.take i) (v + 1) ≤ 5 := Nat.le_trans (atLeast_le _ _) (by rw [List.length_take, likes_len]; omega)
      refine s_asI (s_asI (s_asI (s_ite (fun g => ?_) (fun g => ?_))))
      · simp only [decide_eq_true_eq] at g
        have hw : IntKind.wrap .i64 ((i : Int) + 1) = ((i + 1 : Nat) : Int) := by rw [wrap64 (by omega) (by omega)]; rfl
        have st1 := atLeast_step (likes_get (s := s) i (by omega)) v
        have st2 := atLeast_step (likes_get (s := s) i (by omega)) (v + 1)
        have hw1 : IntKind.wrap .i64 ((atLeast (s.likes.take i) v : Int) + 1) = ((atLeast (s.likes.take i) v + 1 : Nat) : Int) := by rw [wrap64 (by omega) (by omega)]; rfl
        have hw2 : IntKind.wrap .i64 ((atLeast (s.likes.take i) (v + 1) : Int) + 1) = ((atLeast (s.likes.take i) (v + 1) + 1 : Nat) : Int) := by rw [wrap64 (by omega) (by omega)]; rfl
        have two : ∀ {u : World} {k : Int → Int → T} {Q : Ending → World → Prop} {ρ : Lv}, Has w u (cl r 46 (pm s) :: cl r6 23 [.int .i64 n, .int .i64 self] :: []) →
            (∀ u, Has w u (cl r 46 (pm s) :: cl r6 23 [.int .i64 n, .int .i64 self] :: []) → (k (s.at (i : Int)).2 v).sem Try.prog Q ρ u) →
            (T.call 10 [.pointer (some ⟨r, 0, none⟩), .int .i64 i] fun x => T.asI .i64 x fun a => T.call 11 [.pointer (some ⟨r, 0, none⟩)] fun y => T.asI .i64 y fun c => k a c).sem Try.prog Q ρ u := by
          intro u k Q ρ H hk
          refine s_call (like_c (H.cells (by repeat (first | exact pick_head | apply pick_tail | apply pick_app))) hs i) ?_
          rintro _ u ⟨rfl, f⟩
          have H := H.fr0 f
          refine ⟨_, rfl, s_asI (s_call (agreed_c (H.cells (by repeat (first | exact pick_head | apply pick_tail | apply pick_app))) hs) ?_)⟩
          rintro _ u ⟨v', rfl, hv', f⟩
          obtain rfl := hv.inj hv'
          exact ⟨_, rfl, s_asI (hk u (H.fr0 f))⟩
        refine two H fun u H => s_ite (fun g1 => two H fun u H => s_ite (fun g2 => s_next ⟨rfl, rfl⟩ ?_) (fun g2 => s_next ⟨rfl, rfl⟩ ?_)) (fun g1 => two H fun u H => s_ite (fun g2 => s_next ⟨rfl, rfl⟩ ?_) (fun g2 => s_next ⟨rfl, rfl⟩ ?_))
        all_goals
          simp only [if_true]
          simp only [decide_eq_true_eq, decide_eq_false_iff_not] at g1 g2
        · rw [if_pos (by omega)] at st1 st2
          exact ⟨⟨i + 1, by rw [hw, hw1, hw2, st1, st2], by omega, H⟩, by rw [hw]; simp [intOf]; omega⟩
        · rw [if_pos (by omega)] at st1
          rw [if_neg (by omega)] at st2; simp only [Nat.add_zero] at st2
          exact ⟨⟨i + 1, by rw [hw, hw1, st1, st2], by omega, H⟩, by rw [hw]; simp [intOf]; omega⟩
        · omega
        · rw [if_neg (by omega)] at st1 st2; simp only [Nat.add_zero] at st1 st2
          exact ⟨⟨i + 1, by rw [hw, st1, st2], by omega, H⟩, by rw [hw]; simp [intOf]; omega⟩
      · simp only [decide_eq_false_iff_not] at g
        have hin : (i : Int) = s.n := by omega
        have ht : s.likes.take i = s.likes := List.take_of_length_le (by rw [likes_len]; omega)
        rw [ht] at hl1 hl2 ⊢
        (repeat (first | refine s_asI ?_ | refine s_asS ?_ | refine s_asP ?_ | refine s_asB ?_ | refine s_asA ?_ | refine s_asT ?_ | refine s_asM ?_ | refine s_asU ?_ | refine s_asC ?_ | refine s_sm ?_ | refine s_req (by first | rfl | exact ⟨rfl, rfl⟩) ?_ | refine h_ldI H (by repeat (first | exact pick_head | apply pick_tail | apply pick_app)) (by first | rfl | (simp; done)) ?_ | refine h_ldB H (by repeat (first | exact pick_head | apply pick_tail | apply pick_app)) (by first | rfl | (simp; done)) ?_ | refine h_ldP H (by repeat (first | exact pick_head | apply pick_tail | apply pick_app)) (by first | rfl | (simp; done)) ?_ | refine h_ldS H (by repeat (first | exact pick_head | apply pick_tail | apply pick_app)) (by first | rfl | (simp; done)) ?_ | refine h_ldM H (by repeat (first | exact pick_head | apply pick_tail | apply pick_app)) (by first | rfl | (simp; done)) ?_ | refine h_ldT H (by repeat (first | exact pick_head | apply pick_tail | apply pick_app)) (by first | rfl | (simp; done)) ?_ | refine h_ldV H (by repeat (first | exact pick_head | apply pick_tail | apply pick_app)) (by first | rfl | (simp; done)) ?_ | (refine h_new H fun _ u H => ?_) | (refine h_st H (by repeat (first | exact pick_head | apply pick_tail | apply pick_app)) (by simp) rfl fun u H => ?_) | (refine h_drew H fun u H => ?_) | refine s_chk c_nil ?_))
        refine s_true ?_ ?_
        · rw [wrap64 (by omega) (by omega)]; simp only [decide_eq_true_eq]; omega
        · (repeat (first | refine s_asI ?_ | refine s_asS ?_ | refine s_asP ?_ | refine s_asB ?_ | refine s_asA ?_ | refine s_asT ?_ | refine s_asM ?_ | refine s_asU ?_ | refine s_asC ?_ | refine s_sm ?_ | refine s_req (by first | rfl | exact ⟨rfl, rfl⟩) ?_ | refine h_ldI H (by repeat (first | exact pick_head | apply pick_tail | apply pick_app)) (by first | rfl | (simp; done)) ?_ | refine h_ldB H (by repeat (first | exact pick_head | apply pick_tail | apply pick_app)) (by first | rfl | (simp; done)) ?_ | refine h_ldP H (by repeat (first | exact pick_head | apply pick_tail | apply pick_app)) (by first | rfl | (simp; done)) ?_ | refine h_ldS H (by repeat (first | exact pick_head | apply pick_tail | apply pick_app)) (by first | rfl | (simp; done)) ?_ | refine h_ldM H (by repeat (first | exact pick_head | apply pick_tail | apply pick_app)) (by first | rfl | (simp; done)) ?_ | refine h_ldT H (by repeat (first | exact pick_head | apply pick_tail | apply pick_app)) (by first | rfl | (simp; done)) ?_ | refine h_ldV H (by repeat (first | exact pick_head | apply pick_tail | apply pick_app)) (by first | rfl | (simp; done)) ?_ | (refine h_new H fun _ u H => ?_) | (refine h_st H (by repeat (first | exact pick_head | apply pick_tail | apply pick_app)) (by simp) rfl fun u H => ?_) | (refine h_drew H fun u H => ?_) | refine s_chk c_nil ?_))
          refine s_ret ⟨?_, H.base⟩
          rw [wrap64 (by omega) (by omega), decide_eq_true (by omega)]
end Go.Proofs.Ytfgfabjbebdnjaa
