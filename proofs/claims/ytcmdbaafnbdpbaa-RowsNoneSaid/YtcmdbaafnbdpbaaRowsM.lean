/- Lists of numbers in memory: slices.Clone, BinarySearch, ContainsFunc, Insert; a result cloned. -/
import Derived.Test.YtcmdbaafnbdpbaaTreesR
import Derived.Test.YtcmdbaafnbdpbaaRowsP
import Derived.Test.YtcmdbaafnbdpbaaWrite
import Derived.Test.YtcmdbaafnbdpbaaCopy
import Derived.Test.YtcmdbaafnbdpbaaRanges
set_option linter.unusedVariables false
set_option linter.unusedSimpArgs false
set_option maxRecDepth 100000
set_option maxHeartbeats 1000000
namespace Go.Proofs.Ytcmdbaafnbdpbaa
open Go hiding Expr
open Go.RowKit Tr

theorem wrapI {n : Int} (h1 : -9223372036854775808 ≤ n) (h2 : n ≤ 9223372036854775807) : IntKind.wrap .i64 n = n := by
  rw [IntKind.wrap_i64]; omega
theorem w_add {i j : Nat} (h : i + j < 9223372036854775807) : IntKind.wrap .i64 ((i : Int) + (j : Int)) = ((i + j : Nat) : Int) := by rw [wrapI (by omega) (by omega)]; rfl
theorem w_succ {i : Nat} (h : i < 9223372036854775807) : IntKind.wrap .i64 ((i : Int) + 1) = ((i + 1 : Nat) : Int) := by rw [wrapI (by omega) (by omega)]; rfl
theorem w_sub {i j : Nat} (h : j ≤ i) (h2 : i < 9223372036854775807) : IntKind.wrap .i64 ((i : Int) - (j : Int)) = ((i - j : Nat) : Int) := by rw [wrapI (by omega) (by omega)]; omega
theorem w_pred {i : Nat} (h : 1 ≤ i) (h2 : i < 9223372036854775807) : IntKind.wrap .i64 ((i : Int) - 1) = ((i - 1 : Nat) : Int) := by rw [wrapI (by omega) (by omega)]; omega
theorem wrapU {n : Int} (h1 : 0 ≤ n) (h2 : n < 18446744073709551616) : IntKind.wrap .u64 n = n := by
  simp only [IntKind.wrap, IntKind.min, IntKind.max, IntKind.signed, IntKind.bits]; simp; omega
theorem shr_one (n : Nat) : shrI .u64 (n : Int) 1 = ((n / 2 : Nat) : Int) := by
  unfold shrI
  rw [show min (1 : Int).toNat IntKind.u64.bits = 1 from by simp [IntKind.bits], Int.fdiv_eq_ediv_of_nonneg _ (by decide)]
  rfl
theorem half {i j : Nat} (h : i + j < 9223372036854775807) : IntKind.wrap .i64 (shrI .u64 (IntKind.wrap .u64 (IntKind.wrap .i64 ((i : Int) + (j : Int)))) 1) = (((i + j) / 2 : Nat) : Int) := by
  rw [w_add h, wrapU (by omega) (by omega), shr_one, wrapI (by omega) (by omega)]

def ir (x : Int) : List Value := [.int .i64 x]
def ints (l : List Int) : List Value := (l.map ir).flatten
theorem ir1 (l : List Int) : ∀ r ∈ l.map ir, r.length = 1 := by
  intro r hr
  obtain ⟨x, _, rfl⟩ := List.mem_map.1 hr
  rfl
theorem ir_one (l : List Int) : ∀ r ∈ l.map ir, ∀ u ∈ r, u.oneCell' = true := by
  intro r hr u hu
  obtain ⟨x, _, rfl⟩ := List.mem_map.1 hr
  simp [ir] at hu
  subst hu
  rfl
theorem ints_eq (l : List Int) : ints l = l.map (.int .i64) := by
  unfold ints
  induction l with
  | nil => rfl
  | cons a l ih => rw [List.map_cons, List.flatten_cons, ih]; rfl
theorem ints_len (l : List Int) : (ints l).length = l.length := by rw [ints_eq, List.length_map]
theorem ints_append (a b : List Int) : ints (a ++ b) = ints a ++ ints b := by simp [ints]
theorem ints_get {l : List Int} {i : Nat} {x : Int} (h : l[i]? = some x) : (ints l)[i]? = some (.int .i64 x) := by rw [ints_eq, List.getElem?_map, h]; rfl
theorem ints_one (l : List Int) : ∀ u ∈ ints l, u.oneCell' = true := by
  intro u hu
  rw [ints_eq] at hu
  obtain ⟨x, _, rfl⟩ := List.mem_map.1 hu
  rfl
def ValsAt (w : World) (o : Option Addr) (l : List Int) : Prop := RowsAt w o 1 (l.map ir)

theorem elemI : Elem Try.prog 28 2 (.int .i64 0) 1 8 := ⟨by kernel_rfl, by kernel_rfl, rfl, by decide⟩

section
variable {w w' w0 : World} {o : Option Addr} {l : List Int} {m m' c : Hp} {n cap : Nat}
theorem ValsAt.fr0 (h : ValsAt w o l) (hf : Fr [] w w') : ValsAt w' o l := RowsAt.fr h hf
theorem ValsAt.get (h : ValsAt w o l) {i : Nat} {x : Int} (hi : l[i]? = some x) : ∃ g off, o = some ⟨g, off, none⟩ ∧ w.cell? ⟨g, off + i * 1, none⟩ = some (.int .i64 x) := by
  obtain ⟨g, off, rfl, _, hc⟩ := RowsAt.at h (j := i) (r := ir x) (by simp [hi])
  exact ⟨g, off, rfl, hc 0 _ rfl⟩
theorem valsAt_own {e : TypeId} (ho : OwnC e 1 (.slice o n cap) n (ints l) c) (H : Has w0 w m) (hp : Cut c m m') : ValsAt w o l := rowsAt_own (ir1 l) (by decide) ho H hp
theorem valsAt_nil : ValsAt w o [] := .inl rfl

theorem sclone_c (h : ValsAt w o l) (hn : n = l.length) (hsz : l.length * 8 ≤ 140737488355328) : Calls Try.prog 39 #[.slice o n cap] w fun e w' =>
    ∃ v c, e = .returned v ∧ OwnC 2 1 v l.length (ints l) c ∧ Has w w' c := by
  subst hn
  apply c39
  refine s_ite (fun g => ?_) (fun g => ?_)
  · have : o = none := by cases o <;> simp_all
    subst this
    have hl : l = [] := by simpa using RowsAt.none h
    subst hl
    exact s_ret ⟨_, _, rfl, OwnC.nil, Has.init w⟩
  · refine h_new (Has.init w) fun n3 u H => ?_
    refine h_appAll elemI (by decide) H (by repeat (first | exact cut_head | exact cut_all | apply cut_tail | apply cut_app)) (OwnC.zero _ _ _) (ir1 l) (ir_one l) (h.fr0 H.base) (by rw [List.length_map]) (by omega) (by omega) ?_
    intro v c u ho H
    rw [Nat.zero_add, List.nil_append] at ho
    obtain ⟨o', n', rfl⟩ := ho.slice
    exact s_asS (s_ret ⟨_, c, rfl, ho, H.sub (by repeat (first | exact sb_refl | exact sb_nil | refine sb_cons (by repeat (first | exact pick_head | apply pick_tail | apply pick_app)) ?_ | refine sb_app (by repeat (first | exact cut_head | exact cut_all | apply cut_tail | apply cut_app)) ?_ | exact sb_one (by repeat (first | exact cut_head | exact cut_all | apply cut_tail | apply cut_app))))⟩)

theorem clone_c (e slot place : Int) (h : ValsAt w o l) (hn : n = l.length) (hsz : l.length * 8 ≤ 140737488355328) : Calls Try.prog 29 #[.agg ⟨[.int .i64 e, .slice o n cap, .int .i64 slot, .int .i64 place]⟩] w fun en w' =>
    ∃ o' cap' c, en = .returned (.agg ⟨[.int .i64 e, .slice o' l.length cap', .int .i64 slot, .int .i64 place]⟩) ∧ OwnC 2 1 (.slice o' l.length cap') l.length (ints l) c ∧ Has w w' c := by
  apply c29
  refine h_new (Has.init w) fun n6 u H => ?_
  (refine h_new H fun n7 u H => ?_)
  refine h_ldS H (by repeat (first | exact pick_head | apply pick_tail | apply pick_app)) rfl (s_call (sclone_c (h.fr0 H.base) hn hsz) ?_)
  rintro _ u ⟨v, c, rfl, ho, Hc⟩
  have H := H.join Hc
  obtain ⟨o', n', rfl⟩ := ho.slice
  refine ⟨_, rfl, s_asS ?_⟩
  (repeat (first | refine s_asI ?_ | refine s_asS ?_ | refine s_asP ?_ | refine s_asB ?_ | refine s_asA ?_ | refine s_asT ?_ | refine s_asM ?_ | refine s_asU ?_ | refine s_asC ?_ | refine s_sm ?_ | refine s_req (by first | rfl | exact ⟨rfl, rfl⟩) ?_ | refine h_ldI H (by repeat (first | exact pick_head | apply pick_tail | apply pick_app)) (by first | rfl | (simp; done)) ?_ | refine h_ldB H (by repeat (first | exact pick_head | apply pick_tail | apply pick_app)) (by first | rfl | (simp; done)) ?_ | refine h_ldP H (by repeat (first | exact pick_head | apply pick_tail | apply pick_app)) (by first | rfl | (simp; done)) ?_ | refine h_ldS H (by repeat (first | exact pick_head | apply pick_tail | apply pick_app)) (by first | rfl | (simp; done)) ?_ | refine h_ldM H (by repeat (first | exact pick_head | apply pick_tail | apply pick_app)) (by first | rfl | (simp; done)) ?_ | refine h_ldT H (by repeat (first | exact pick_head | apply pick_tail | apply pick_app)) (by first | rfl | (simp; done)) ?_ | refine h_ldV H (by repeat (first | exact pick_head | apply pick_tail | apply pick_app)) (by first | rfl | (simp; done)) ?_ | (refine h_new H fun _ u H => ?_) | (refine h_st H (by repeat (first | exact pick_head | apply pick_tail | apply pick_app)) (by first | (simp; done) | exact Nat.le_of_ble_eq_true rfl) rfl fun u H => ?_) | (refine h_drew H fun u H => ?_) | refine s_chk c_nil ?_))
  exact s_ret ⟨o', n', c, rfl, ho, H.sub (by repeat (first | exact sb_refl | exact sb_nil | refine sb_cons (by repeat (first | exact pick_head | apply pick_tail | apply pick_app)) ?_ | refine sb_app (by repeat (first | exact cut_head | exact cut_all | apply cut_tail | apply cut_app)) ?_ | exact sb_one (by repeat (first | exact cut_head | exact cut_all | apply cut_tail | apply cut_app))))⟩

theorem out1_c (x : Int) : Calls Try.prog 41 #[.int .i64 x] w fun e w' => e = .returned (.bool (outI x)) ∧ w = w' := by
  apply c41
  refine s_ite (fun g => s_ret ⟨?_, rfl⟩) (fun g => s_ret ⟨?_, rfl⟩) <;> simp only [decide_eq_true_eq, decide_eq_false_iff_not] at g <;> simp [outI, g]
theorem idx_c (h : ValsAt w o l) (hn : n = l.length) (hmax : l.length < 9223372036854775807) : Calls Try.prog 47 #[.slice o n cap, .func (.func 41) #[] #[]] w fun e w' => (∃ k : Int, e = .returned (.int .i64 k) ∧ (k ≥ 0 ↔ l.any outI = true)) ∧ w = w' := by
  subst hn
  apply c47
  refine s_loop (fun vs W => ∃ i : Nat, vs = [.int .i64 i] ∧ i ≤ l.length ∧ w = W ∧ (l.take i).any outI = false) (fun vs _ => l.length - (intOf (vs.getD 0 undef)).toNat) ⟨0, rfl, by omega, rfl, by simp⟩ ?_
  rintro _ j W ⟨i, rfl, hi, rfl, hno⟩
  refine s_asI (s_ite (fun g1 => ?_) (fun g1 => ?_))
  · simp only [decide_eq_true_eq] at g1
    have hlt : i < l.length := by omega
    obtain ⟨x, hx⟩ : ∃ x, l[i]? = some x := ⟨_, List.getElem?_eq_getElem hlt⟩
    obtain ⟨g, off, rfl, p1⟩ := h.get hx
    refine s_req ⟨by omega, g1⟩ (s_sm (s_loadI p1 (s_call (out1_c x) ?_)))
    rintro _ _ ⟨rfl, rfl⟩
    refine ⟨_, rfl, s_asB (s_ite (fun g2 => ?_) (fun g2 => s_next (by first | exact ⟨rfl, rfl⟩ | trivial) ?_))⟩
    · refine s_ret ⟨⟨(i : Int), rfl, ⟨fun _ => ?_, fun _ => by omega⟩⟩, rfl⟩
      exact List.any_eq_true.2 ⟨x, List.mem_of_getElem? hx, g2⟩
    · simp (config := { decide := true }) only [if_true, if_false]
      refine ⟨⟨i + 1, by rw [w_succ (by omega)], by omega, trivial, ?_⟩, by rw [w_succ (by omega)]; simp [intOf] <;> omega⟩
      rw [List.take_add_one, hx, Option.toList_some, List.any_append, hno]
      simpa using g2
  · simp only [decide_eq_false_iff_not] at g1
    rw [List.take_of_length_le (by omega)] at hno
    exact s_ret ⟨⟨-1, rfl, by rw [hno]; simp⟩, rfl⟩
theorem out_c (h : ValsAt w o l) (hn : n = l.length) (hmax : l.length < 9223372036854775807) : Calls Try.prog 31 #[.slice o n cap] w fun e w' => e = .returned (.bool (l.any outI)) ∧ w = w' := by
  apply c31
  refine s_call (R := fun e w' => e = .returned (.bool (l.any outI)) ∧ w = w') ?_ ?_
  · apply c40
    refine s_call (idx_c h hn hmax) ?_
    rintro _ _ ⟨⟨k, rfl, hk⟩, rfl⟩
    refine ⟨_, rfl, s_asI (s_ret ⟨?_, rfl⟩)⟩
    congr 2
    cases hb : l.any outI with
    | true => rw [decide_eq_true_eq]; exact hk.2 hb
    | false => rw [decide_eq_false_iff_not]; exact fun hh => by rw [hk.1 hh] at hb; cases hb
  · rintro _ _ ⟨rfl, rfl⟩
    exact ⟨_, rfl, s_asB (s_ret ⟨rfl, rfl⟩)⟩

theorem nan_c (x : Int) : Calls Try.prog 44 #[.int .i64 x] w fun e w' => e = .returned (.bool false) ∧ w = w' := by
  apply c44
  exact s_ret ⟨by simp, rfl⟩
theorem less_c (x y : Int) : Calls Try.prog 43 #[.int .i64 x, .int .i64 y] w fun e w' => e = .returned (.bool (decide (x < y))) ∧ w = w' := by
  apply c43
  have nan := fun (z : Int) => (show Calls Try.prog 48 #[.int .i64 z] w (fun e w' => e = .returned (.bool false) ∧ w = w') from c48 _ (s_ret ⟨by simp, rfl⟩))
  refine s_call (nan x) ?_
  rintro _ _ ⟨rfl, rfl⟩
  exact ⟨_, rfl, s_asB (s_false rfl (s_ret ⟨rfl, rfl⟩))⟩
theorem bs_c (h : ValsAt w o l) (hn : n = l.length) (hmax : l.length < 4611686018427387904) (hu : UpI l) (s : Int) : Calls Try.prog 37 #[.slice o n cap, .int .i64 s] w fun e w' =>
    e = .returned (.tuple #[.int .i64 (cutI l s : Nat), .bool (decide (l[cutI l s]? = some s))]) ∧ w = w' := by
  subst hn
  apply c37
  refine s_loop (fun vs W => ∃ i j : Nat, vs = [.int .i64 i, .int .i64 j] ∧ i ≤ j ∧ j ≤ l.length ∧ w = W ∧ (∀ k a, k < i → l[k]? = some a → a < s) ∧ (∀ k a, j ≤ k → l[k]? = some a → s ≤ a))
    (fun vs _ => (intOf (vs.getD 1 undef)).toNat - (intOf (vs.getD 0 undef)).toNat) ⟨0, l.length, rfl, by omega, by omega, rfl, fun k a h => by omega, fun k a hk ha => by have := (List.getElem?_eq_some_iff.1 ha).1; omega⟩ ?_
  rintro _ j0 W ⟨i, j, rfl, hij, hj, rfl, h1, h2⟩
  refine s_asI (s_asI (s_ite (fun g1 => ?_) (fun g1 => ?_)))
  · simp only [decide_eq_true_eq] at g1
    have hlt : i < j := by omega
    rw [half (by omega)]
    have hm1 : i ≤ (i + j) / 2 := by omega
    have hm2 : (i + j) / 2 < j := by omega
    obtain ⟨x, hx⟩ : ∃ x, l[(i + j) / 2]? = some x := ⟨_, List.getElem?_eq_getElem (by omega)⟩
    obtain ⟨g, off, rfl, p1⟩ := h.get hx
    refine s_req (by decide) (s_req ⟨by omega, by omega⟩ (s_sm (s_loadI p1 (s_call (less_c x s) ?_))))
    rintro _ _ ⟨rfl, rfl⟩
    refine ⟨_, rfl, s_asB (s_ite (fun g2 => s_next (by first | exact ⟨rfl, rfl⟩ | trivial) ?_) (fun g2 => s_next (by first | exact ⟨rfl, rfl⟩ | trivial) ?_))⟩
    all_goals
      simp (config := { decide := true }) only [if_true, if_false]
      simp only [decide_eq_true_eq, decide_eq_false_iff_not] at g2
    · refine ⟨⟨(i + j) / 2 + 1, j, by rw [w_succ (by omega)], by omega, hj, trivial, fun k a hk ha => ?_, h2⟩, by rw [w_succ (by omega)]; simp [intOf] <;> omega⟩
      rcases Nat.lt_or_ge k ((i + j) / 2) with hlt2 | hge
      · have := hu.get hlt2 ha hx
        omega
      · obtain rfl : k = (i + j) / 2 := by omega
        rw [hx] at ha
        cases ha
        exact g2
    · refine ⟨⟨i, (i + j) / 2, rfl, by omega, by omega, trivial, h1, fun k a hk ha => ?_⟩, by simp [intOf] <;> omega⟩
      rcases Nat.eq_or_lt_of_le hk with rfl | hlt2
      · rw [hx] at ha
        cases ha
        omega
      · have := hu.get hlt2 hx ha
        omega
  · simp only [decide_eq_false_iff_not] at g1
    obtain rfl : i = j := by omega
    have hc : i = cutI l s := cutI_of hj h1 (fun a ha => h2 i a (Nat.le_refl _) ha)
    rw [← hc]
    refine s_ite (fun g2 => ?_) (fun g2 => ?_)
    · simp only [decide_eq_true_eq] at g2
      obtain ⟨x, hx⟩ : ∃ x, l[i]? = some x := ⟨_, List.getElem?_eq_getElem (by omega)⟩
      obtain ⟨g, off, rfl, p1⟩ := h.get hx
      refine s_req ⟨by omega, g2⟩ (s_sm (s_loadI p1 (s_ite (fun g3 => s_ret ⟨?_, rfl⟩) (fun g3 => s_req ⟨by omega, g2⟩ (s_sm (s_loadI p1 (s_call (nan_c x) ?_)))))))
      · simp only [beq_iff_eq] at g3
        rw [hx, g3]
        simp
      · rintro _ _ ⟨rfl, rfl⟩
        simp only [beq_eq_false_iff_ne, ne_eq] at g3
        refine ⟨_, rfl, s_asB (s_false rfl (s_ret ⟨?_, rfl⟩))⟩
        rw [hx]
        simp [g3]
    · simp only [decide_eq_false_iff_not] at g2
      rw [List.getElem?_eq_none (by omega)]
      exact s_ret ⟨by simp, rfl⟩
end
end Go.Proofs.Ytcmdbaafnbdpbaa
