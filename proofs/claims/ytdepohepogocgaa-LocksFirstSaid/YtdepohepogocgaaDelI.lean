/- slices.Delete of one place of a list of one's own; may. -/
import Derived.Test.YtdepohepogocgaaLkD
import Derived.Test.YtdepohepogocgaaRoom
import Derived.Test.YtdepohepogocgaaFirstP
set_option linter.unusedVariables false
set_option linter.unusedSimpArgs false
set_option maxRecDepth 100000
set_option maxHeartbeats 4000000
namespace Go.Proofs.Ytdepohepogocgaa
open Go hiding Expr
open Go.RowKit Tr

theorem setL_eq {news l : List Value} {o : Nat} (h : o + news.length ≤ l.length) : setL l o news = l.take o ++ news ++ l.drop (o + news.length) := by
  refine List.ext_getElem? fun i => ?_
  rw [setL_get _ _ _ h]
  split
  · rename_i hi
    rw [List.append_assoc, List.getElem?_append_right (by rw [List.length_take]; omega), List.length_take, Nat.min_eq_left (by omega), List.getElem?_append_left (by omega)]
  · rename_i hi
    rcases Nat.lt_or_ge i o with h2 | h2
    · rw [List.append_assoc, List.getElem?_append_left (by rw [List.length_take]; omega), List.getElem?_take_of_lt h2]
    · rw [List.append_assoc, List.getElem?_append_right (by rw [List.length_take]; omega), List.length_take, Nat.min_eq_left (by omega), List.getElem?_append_right (by omega), List.getElem?_drop]
      congr 1
      omega
theorem flat_take2 {rows : List (List Value)} {sz : Nat} (hr : ∀ r ∈ rows, r.length = sz) (i : Nat) : rows.flatten.take (i * sz) = (rows.take i).flatten := rows_take hr i
section
variable {w0 w : World} {m m' c : Hp} {o : Option Addr} {R : List Ix} {n cap k : Nat}
theorem delete_c (H : Has w0 w m) (hp : Cut c m m') (ho : OwnC 27 2 (.slice o n cap) n (R.map ir).flatten c) (hn : n = R.length) (hk : k < R.length) (hmax : R.length ≤ 1099511627776) :
    Calls Try.prog 22 #[.slice o n cap, .int .i64 k, .int .i64 ((k + 1 : Nat) : Int)] w fun e w' => ∃ o' c', e = .returned (.slice o' (cutI R k).length cap) ∧
      OwnC 27 2 (.slice o' (cutI R k).length cap) (cutI R k).length ((cutI R k).map ir).flatten c' ∧ Has w0 w' (c' ++ m') := by
  subst hn
  have H := H.pullc hp
  obtain ⟨g, cap', sp, he, rfl, h1, h2, h3⟩ := ho.pos (by omega)
  cases he
  have hlen : (cutI R k).length = k + (R.length - (k + 1)) := by unfold cutI; rw [List.length_append, List.length_take, List.length_drop]; omega
  have hfl : ((R.map ir).flatten).length = R.length * 2 := by rw [flat_len (ir2 R), List.length_map]
  have hnews : ((R.drop (k + 1)).map ir).flatten.length = (R.length - (k + 1)) * 2 := by rw [flat_len (ir2 _), List.length_map, List.length_drop]
  apply c22
  refine s_req ⟨by omega, by omega, by omega, by omega, by omega, by omega⟩ (s_false (by simp; omega) (h_drew H fun u H => s_req ⟨by omega, by omega⟩ (s_req ⟨by omega, by omega⟩ ?_)))
  rw [Int.toNat_natCast, Int.toNat_natCast, sb_zero]
  have hrd : ∀ a, sliceBase (some ⟨g, 0, none⟩ : Option Addr) (k + 1) cap 2 = some a → Reads u a ((R.drop (k + 1)).map ir).flatten := by
    intro a ha j v hv
    have hj := (List.getElem?_eq_some_iff.1 hv).1
    rw [hnews] at hj
    unfold sliceBase at ha
    rw [if_neg (by omega)] at ha
    simp only [Option.map_some, Option.some.injEq] at ha
    subst ha
    rw [Addr.add_add, add_plain]
    refine (H.cells pick_head).cell ?_
    rw [List.getElem?_append_left (by omega)]
    have e := rows_drop (ir2 R) (k + 1)
    rw [← List.map_drop] at e
    rw [← e, List.getElem?_drop] at hv
    rw [Nat.zero_add]
    exact hv
  obtain ⟨a, ha⟩ : ∃ a, sliceBase (some ⟨g, 0, none⟩ : Option Addr) (k + 1) cap 2 = some a := by
    unfold sliceBase; split <;> exact ⟨_, rfl⟩
  have hrd := hrd a ha
  rw [ha]
  refine h_appRoom elemI H pick_head (n := k) (j := R.length - (k + 1)) hnews hrd (one_flat (ir_one _)) (by omega) (by rw [hnews, List.length_append, hfl]; omega) ?_
  intro u H
  have hsl : setL ((R.map ir).flatten ++ sp) (k * 2) ((R.drop (k + 1)).map ir).flatten = ((cutI R k).map ir).flatten ++ ((R.map ir).flatten ++ sp).drop ((cutI R k).length * 2) := by
    rw [setL_eq (by rw [hnews, List.length_append, hfl]; omega), List.take_append_of_le_length (by rw [hfl]; omega), rows_take (ir2 R), ← List.map_take, hnews, hlen]
    unfold cutI
    rw [List.map_append, List.flatten_append, Nat.add_mul]
  rw [hsl] at H
  rw [← hlen]
  refine s_asS (s_chk c_nil (s_req ⟨by omega, by omega, by omega, by omega⟩ ?_))
  simp only [Int.toNat_natCast]
  have hcl : (((cutI R k).map ir).flatten ++ ((R.map ir).flatten ++ sp).drop ((cutI R k).length * 2)).length = cap * 2 := by
    rw [← hsl, setL_len, h3]
  have hb : sliceBase (some ⟨g, 0, none⟩ : Option Addr) (cutI R k).length cap 2 = some ⟨g, (cutI R k).length * 2, none⟩ := by
    unfold sliceBase
    rw [if_neg (by omega)]
    simp [add_plain]
  rw [hb]
  refine s_clear (H.cells pick_head) elemI.under (z := .agg ⟨[.int .i64 0, .int .i64 0]⟩) (fun w => by rfl) (by intro u hu; simp [Value.cells] at hu; rcases hu with rfl | rfl <;> rfl) (by decide) rfl (by
    show (cutI R k).length * 2 + (R.length - (cutI R k).length) * 2 ≤ _
    rw [hcl]
    omega) ?_
  intro l' u hf hc hl' hsame
  have H := H.updc pick_head hf hc
  have hfc : ((cutI R k).map ir).flatten.length = (cutI R k).length * 2 := by rw [flat_len (ir2 _), List.length_map]
  have htk : l'.take ((cutI R k).length * 2) = ((cutI R k).map ir).flatten := by
    refine List.ext_getElem? fun q => ?_
    rw [List.getElem?_take]
    split
    · rename_i hq
      rw [hsame q (.inl hq), List.getElem?_append_left (by rw [hfc]; exact hq)]
    · rename_i hq
      rw [List.getElem?_eq_none (by rw [hfc]; omega)]
  refine s_ret ⟨some ⟨g, 0, none⟩, [cl g 27 l'], rfl, ⟨hfc, .inr ⟨g, cap, l'.drop ((cutI R k).length * 2), rfl, ?_, by omega, h2, ?_⟩⟩, H⟩
  · rw [← htk, List.take_append_drop]
  · rw [← htk, List.take_append_drop, hl', hcl]

theorem less_c' (a b : K) : Calls Try.prog 44 #[.agg ⟨kr a⟩, .agg ⟨kr b⟩] w fun e w' => e = .returned (.bool (ltK a b)) ∧ Fr [] w w' := by
  apply c44
  refine h_new (Has.init w) fun n4 u H => ?_
  (refine h_new H fun n5 u H => ?_)
  have key : ∀ b1 : Bool, (b1 = true ↔ (a.t < b.t ∨ (a.t = b.t ∧ a.r < b.r))) → b1 = ltK a b := fun b1 h => by rw [Bool.eq_iff_iff, h, ltK_iff]
  refine h_ldI H (by repeat (first | exact pick_head | apply pick_tail | apply pick_app)) rfl (h_ldI H (by repeat (first | exact pick_head | apply pick_tail | apply pick_app)) rfl (s_ite (fun g => s_ret ⟨?_, H.base⟩) (fun g => h_ldI H (by repeat (first | exact pick_head | apply pick_tail | apply pick_app)) rfl (h_ldI H (by repeat (first | exact pick_head | apply pick_tail | apply pick_app)) rfl (s_ite (fun g2 => h_ldI H (by repeat (first | exact pick_head | apply pick_tail | apply pick_app)) rfl (h_ldI H (by repeat (first | exact pick_head | apply pick_tail | apply pick_app)) rfl (s_ret ⟨?_, H.base⟩))) (fun g2 => s_ret ⟨?_, H.base⟩))))))
  · rw [key true (by simp at g; simp; omega)]
  · rw [key (decide (a.r < b.r)) (by simp at g g2; simp; omega)]
  · rw [key false (by simp at g g2; simp; omega)]
theorem may_c {l : List Lk} (hl : RowsAt w o 3 (l.map lr)) (hmax : l.length ≤ 5864062014805) : Calls Try.prog 15 #[.slice o l.length cap] w fun e w' => e = .returned (.bool (srtB l)) ∧ Fr [] w w' := by
  apply c15
  refine s_loop (fun vs W => ∃ i : Nat, vs = [.int .i64 i] ∧ i ≤ l.length ∧ srtB (l.take i) = true ∧ Has w W []) (fun vs _ => l.length - (intOf (vs.getD 0 undef)).toNat)
    ⟨0, rfl, by omega, rfl, Has.init w⟩ ?_
  rintro _ j W ⟨i, rfl, hil, hsr, H⟩
  refine s_asI (s_ite (fun g1 => ?_) (fun g1 => ?_))
  · simp only [decide_eq_true_eq] at g1
    have hlt : i < l.length := by omega
    obtain ⟨y, hy⟩ : ∃ y, l[i]? = some y := ⟨_, List.getElem?_eq_getElem hlt⟩
    refine h_drew H fun u H => s_ite (fun g2 => ?_) (fun g2 => s_chk c_nil (s_next (by first | exact ⟨rfl, rfl⟩ | trivial) ?_))
    · simp only [decide_eq_true_eq] at g2
      have hw1 : IntKind.wrap .i64 ((i : Int) - 1) = ((i - 1 : Nat) : Int) := by rw [wrap64 (by omega) (by omega)]; omega
      obtain ⟨x, hx⟩ : ∃ x, l[i - 1]? = some x := ⟨_, List.getElem?_eq_getElem (by omega)⟩
      have hy' : l[i - 1 + 1]? = some y := by rw [show i - 1 + 1 = i by omega]; exact hy
      have hst := srtB_step hx hy'
      rw [show i - 1 + 2 = i + 1 by omega, show i - 1 + 1 = i by omega, hsr, Bool.true_and] at hst
      rw [hw1]
      have hWu := RowsAt.fr hl H.base
      obtain ⟨g, off, he, _, hc⟩ := hWu.at (j := i - 1) (r := lr x) (by rw [List.getElem?_map, hx]; rfl)
      obtain ⟨g', off', he', _, hc'⟩ := hWu.at (j := i) (r := lr y) (by rw [List.getElem?_map, hy]; rfl)
      refine s_req ⟨by omega, by omega⟩ ⟨g, off, he, s_loadI (hc 0 _ rfl) (s_loadI (hc 1 _ rfl) (s_req ⟨by omega, by omega⟩ ⟨g', off', he', s_loadI (hc' 0 _ rfl) (s_loadI (hc' 1 _ rfl) (s_call (less_c' x.k y.k) ?_))⟩))⟩
      rintro _ u ⟨rfl, f⟩
      have H := H.fr0 f
      refine ⟨_, rfl, s_asB (s_chk c_nil (s_ite (fun g3 => ?_) (fun g3 => s_next (by first | exact ⟨rfl, rfl⟩ | trivial) ?_)))⟩
      · have hlk : ltK x.k y.k = false := by simpa using g3
        have hbad : srtB l = false := by
          cases hh : srtB l with
          | false => rfl
          | true => have := srtB_at hh hx hy'; rw [hlk] at this; cases this
        exact s_ret ⟨by rw [hbad], H.base⟩
      · have hlk : ltK x.k y.k = true := by simpa using g3
        simp (config := { decide := true }) only [if_true, if_false]
        exact ⟨⟨i + 1, by rw [w_succ (by omega)], by omega, by rw [hst, hlk], H⟩, by rw [w_succ (by omega)]; simp [intOf] <;> omega⟩
    · simp only [decide_eq_false_iff_not] at g2
      obtain rfl : i = 0 := by omega
      simp (config := { decide := true }) only [if_true, if_false]
      refine ⟨⟨1, by rw [w_succ (by omega)], by omega, ?_, H⟩, by rw [w_succ (by omega)]; simp [intOf] <;> omega⟩
      cases l with
      | nil => rfl
      | cons a r => rfl
  · simp only [decide_eq_false_iff_not] at g1
    rw [List.take_of_length_le (by omega)] at hsr
    exact s_ret ⟨by rw [hsr], H.base⟩
end
end Go.Proofs.Ytdepohepogocgaa
