/- shard.Keys, shard.Has and what they call, over their trees. -/
import Derived.Test.YtpjcfnnnciknmaaGreatSortX
import Derived.Test.YtpjcfnnnciknmaaGreatTreesB
set_option linter.unusedVariables false
set_option linter.unusedSimpArgs false
set_option maxRecDepth 100000
namespace Go.Proofs.YtpjcfnnnciknmaaGreat.Ids
open Go hiding Expr
open Go.RowKit Tr

theorem elemK : Elem Tryz.prog 89 32 (.agg ⟨[.int .i64 0, .int .i64 0]⟩) 2 16 := ⟨by kernel_rfl, by kernel_rfl, rfl, by decide⟩
def enc (l : List K) : List Value := (l.map kr).flatten
theorem enc_len (l : List K) : (enc l).length = l.length * 2 := by unfold enc; rw [flat_len (kr2 l), List.length_map]
theorem enc_append (a b : List K) : enc (a ++ b) = enc a ++ enc b := by simp [enc]
theorem enc_one (u : Value) (l : List K) (h : u ∈ enc l) : u.oneCell' = true := by
  obtain ⟨r, hr, hu⟩ := List.mem_flatten.1 h
  obtain ⟨p, _, rfl⟩ := List.mem_map.1 hr
  simp [kr, ixr] at hu
  rcases hu with rfl | rfl <;> rfl
/-- Keys that lie somewhere, to be read. -/
def KeysAt (w : World) (o : Option Addr) (l : List K) : Prop := RowsAt w o 2 (l.map kr)

section
variable {w w' w0 : World} {o : Option Addr} {l : List K} {F : List Nat} {g : Nat} {ty : TypeId} {sp : List Value} {m m' : Hp}
theorem KeysAt.fr0 (h : KeysAt w o l) (hf : Fr [] w w') : KeysAt w' o l := RowsAt.fr h hf
theorem KeysAt.get (h : KeysAt w o l) {i : Nat} {k : K} (hi : l[i]? = some k) : ∃ g off, o = some ⟨g, off, none⟩ ∧ w.cell? ⟨g, off + i * 2, none⟩ = some (.int .i64 k.s) ∧ w.cell? ⟨g, off + i * 2 + 1, none⟩ = some (.int .i64 k.p) := by
  obtain ⟨g, off, rfl, _, hc⟩ := RowsAt.at h (j := i) (r := kr k) (by simp [hi])
  exact ⟨g, off, rfl, hc 0 _ rfl, hc 1 _ rfl⟩
theorem keysAt_cells (h : Cells w g ty (enc l ++ sp)) : KeysAt w (some ⟨g, 0, none⟩) l := by
  refine .inr ⟨g, 0, rfl, h.lt, fun j r hr k v hv => h.cell ?_⟩
  have h1 := flat_get (kr2 l) hr hv
  unfold enc
  rw [Nat.zero_add, List.getElem?_append_left (List.getElem?_eq_some_iff.1 h1).1]
  exact h1
theorem keysAt_own {e : TypeId} {n cap : Nat} {c : Hp} (ho : OwnC e 2 (.slice o n cap) n (enc l) c) (H : Has w0 w m) (hp : Cut c m m') : KeysAt w o l := by
  rcases ho.2 with ⟨hv, hn, rfl⟩ | ⟨g, cap', sp, hv, rfl, _⟩
  · have hl := ho.len
    rw [enc_len, hn] at hl
    have : l = [] := List.eq_nil_of_length_eq_zero (by omega)
    subst this
    exact .inl rfl
  · cases hv
    exact keysAt_cells ((H.pullc hp).cells pick_head)
/-- The cells as a stretch. -/
theorem KeysAt.reads {a : Addr} (h : KeysAt w (some a) l) : Reads w a (enc l) := by
  intro j u hu
  rcases h with hn | ⟨g, off, he, _, hc⟩
  · have : l = [] := by simpa using hn
    subst this
    simp [enc] at hu
  · cases he
    have hjl := (List.getElem?_eq_some_iff.1 hu).1
    rw [enc_len] at hjl
    have hi : j / 2 < l.length := by omega
    have hg : (l.map kr)[j / 2]? = some (kr l[j / 2]) := by simp [hi]
    have hm : (kr l[j / 2])[j % 2]? = some ((kr l[j / 2])[j % 2]'(by show _ < 2; omega)) := List.getElem?_eq_getElem _
    have h1 := flat_get (kr2 l) hg hm
    rw [show j / 2 * 2 + j % 2 = j by omega] at h1
    unfold enc at hu
    rw [hu] at h1
    cases h1
    have := hc (j / 2) _ hg (j % 2) _ hm
    rw [add_plain]
    rwa [show off + j / 2 * 2 + j % 2 = off + j by omega] at this

theorem compact_c {cap : Nat} (h : Cells w g ty (KA l.toArray sp)) (hty : ty = 32) (hcap : (enc l ++ sp).length = cap * 2) (hle : l.length ≤ cap) (hsz : l.length < many) :
    Calls Tryz.prog 59 #[.slice (some ⟨g, 0, none⟩) l.length cap] w fun e w' =>
      ∃ sp', e = .returned (.slice (some ⟨g, 0, none⟩) (compL none l).length cap) ∧ Fr [g] w w' ∧ Cells w' g ty (enc (compL none l) ++ sp') ∧ (enc (compL none l) ++ sp').length = cap * 2 := by
  apply c59
  have hsz' := hsz
  simp only [many] at hsz'
  have hKA : ∀ (d : Array K) (sp : List Value), KA d sp = enc d.toList ++ sp := fun d sp => rfl
  refine s_ite (fun g1 => ?_) (fun g1 => ?_)
  · simp only [decide_eq_true_eq] at g1
    have hc : compL none l = l := by
      match l, g1 with
      | [], _ => rfl
      | [a], _ => simp [compL]
      | _ :: _ :: _, h => simp at h; omega
    rw [hc]
    exact s_ret ⟨sp, rfl, Fr.refl _ _, by rw [hKA] at h; exact h, hcap⟩
  · simp only [decide_eq_false_iff_not] at g1
    refine s_loop (fun vs W => ∃ i : Nat, vs = [.int .i64 i] ∧ 1 ≤ i ∧ i ≤ l.length ∧ compL none (l.take i) = l.take i ∧ Fr [g] w W ∧ Cells W g ty (KA l.toArray sp)) (fun vs _ => l.length - (intOf (vs.getD 0 undef)).toNat)
      ⟨1, rfl, by omega, by omega, ?_, Fr.refl _ _, h⟩ ?_
    · match l, g1 with
      | [], h => simp at h
      | a :: r, _ => simp [compL]
    rintro _ j W ⟨i, rfl, hi1, hi2, hcomp, hf, h1⟩
    refine s_asI (s_ite (fun g2 => ?_) (fun g2 => ?_))
    · simp only [decide_eq_true_eq] at g2
      have hlt : i < l.length := by omega
      have hA : ∀ j, j < l.length → l.toArray[j]! = l[j]! := fun j hj => by simp
      obtain ⟨p1, p2⟩ := KA_get (d := l.toArray) (sp := sp) (i := i) (by simpa using hlt)
      obtain ⟨q1, q2⟩ := KA_get (d := l.toArray) (sp := sp) (i := i - 1) (by simp; omega)
      refine s_drew fun W2 _ f2 => ?_
      have h2 := f2.cells h1 (by simp)
      rw [w_pred hi1 (by omega)]
      simp only [Int.toNat_natCast]
      refine s_req ⟨by omega, by omega⟩ (s_sm ?_)
      simp only [Nat.zero_add]
      refine s_ldI h2 p1 (s_ldI h2 p2 (s_req ⟨by omega, by omega⟩ (s_sm ?_)))
      simp only [Nat.zero_add]
      refine s_ldI h2 q1 (s_ldI h2 q2 ?_)
      have hx : l[i - 1]? = some l.toArray[i - 1]! := by rw [hA _ (by omega)]; simp [show i - 1 < l.length by omega]
      have hy : l[i - 1 + 1]? = some l.toArray[i]! := by rw [hA _ hlt, show i - 1 + 1 = i by omega]; simp [hlt]
      have hst := compL_step hx hy
      rw [show i - 1 + 2 = i + 1 by omega, show i - 1 + 1 = i by omega] at hst
      refine s_ite (fun g3 => ?_) (fun g3 => s_next (by first | exact ⟨rfl, rfl⟩ | trivial) ?_)
      · have heq : l.toArray[i - 1]! = l.toArray[i]! := by
          simp only [Bool.and_true, Bool.and_eq_true, beq_iff_eq] at g3
          exact Ix.ext' g3.1.symm g3.2.symm
        rw [if_pos heq, List.append_nil] at hst
        refine s_req ⟨by omega, by omega⟩ ?_
        refine s_loop (fun vs W => ∃ (a b : Nat) (d : Array K), vs = [.int .i64 a, .int .i64 b] ∧ 1 ≤ b ∧ i + b ≤ l.length ∧ a + 1 ≤ i + b ∧ d.size = l.length ∧ (∀ j, i + b ≤ j + 1 → j < l.length → d[j]! = l.toArray[j]!) ∧ d.toList.take a = compL none (l.take (i + b)) ∧ a ≤ d.size ∧ Fr [g] w W ∧ Cells W g ty (KA d sp))
          (fun vs _ => l.length - (intOf (vs.getD 1 undef)).toNat) ⟨i, 1, l.toArray, rfl, by omega, by omega, by omega, by simp, fun _ _ _ => rfl, by rw [hst, hcomp], by simp; omega, hf.trans f2.nil, h2⟩ ?_
        rintro _ j3 W3 ⟨a, b, d, rfl, hb1, hb2, hab, hds, hd, htk, had, hf3, h3⟩
        refine s_asI (s_asI (s_ite (fun g4 => ?_) (fun g4 => ?_)))
        · simp only [decide_eq_true_eq, Int.toNat_natCast] at g4
          have hib : i + b < l.length := by omega
          have hsb : sliceBase (some ⟨g, 0, none⟩) i cap 2 = some ⟨g, i * 2, none⟩ := by
            unfold sliceBase
            rw [if_neg (by omega)]
            simp [add_plain]
          refine s_drew fun W4 _ f4 => ?_
          have h4 := f4.cells h3 (by simp)
          simp only [Int.toNat_natCast]
          rw [hsb, w_pred hb1 (by omega)]
          simp only [Int.toNat_natCast]
          obtain ⟨p1, p2⟩ := KA_get (d := d) (sp := sp) (i := i + b) (by omega)
          obtain ⟨q1, q2⟩ := KA_get (d := d) (sp := sp) (i := i + (b - 1)) (by omega)
          rw [Nat.add_mul] at p1 p2 q1 q2
          refine s_req ⟨by omega, by omega⟩ (s_sm (s_ldI h4 p1 (s_ldI h4 p2 (s_req ⟨by omega, by omega⟩ (s_sm (s_ldI h4 q1 (s_ldI h4 q2 ?_)))))))
          rw [hd (i + b) (by omega) hib, hd (i + (b - 1)) (by omega) (by omega)] at *
          have hx : l[i + (b - 1)]? = some l.toArray[i + (b - 1)]! := by rw [hA _ (by omega)]; simp [show i + (b - 1) < l.length by omega]
          have hy : l[i + (b - 1) + 1]? = some l.toArray[i + b]! := by rw [hA _ hib, show i + (b - 1) + 1 = i + b by omega]; simp [hib]
          have hst2 := compL_step hx hy
          rw [show i + (b - 1) + 2 = i + (b + 1) by omega, show i + (b - 1) + 1 = i + b by omega] at hst2
          refine s_ite (fun g5 => ?_) (fun g5 => s_next (by first | exact ⟨rfl, rfl⟩ | trivial) ?_)
          · have hne : l.toArray[i + (b - 1)]! ≠ l.toArray[i + b]! := fun e => by rw [e] at g5; simp at g5
            rw [if_neg hne] at hst2
            refine s_req ⟨by omega, by omega⟩ (s_sm (s_ldI h4 p1 (s_ldI h4 p2 (s_req ⟨by omega, by omega⟩ (s_sm ?_)))))
            simp only [Nat.zero_add]
            refine s_st h4 (by rw [KA_len]; omega) rfl fun W5 _ f5 h5 => s_st h5 (by rw [List.length_set, KA_len]; omega) rfl fun W6 _ f6 h6 => s_next (by first | exact ⟨rfl, rfl⟩ | trivial) ?_
            rw [KA_set (by omega) l.toArray[i + b]!] at h6
            simp (config := { decide := true }) only [if_true, if_false]
            refine ⟨⟨a + 1, b + 1, _, by rw [w_succ (by omega), w_succ (by omega)], by omega, by omega, by omega, by simp [hds], fun j hj1 hj2 => ?_, ?_, by simp; omega, ((hf3.trans f4.nil).trans f5).trans f6, h6⟩, by rw [w_succ (by omega), w_succ (by omega)]; simp [intOf] <;> omega⟩
            · rw [← hd j (by omega) hj2, getElem!_pos _ j (by simp; omega), getElem!_pos _ j (by omega), Array.getElem_setIfInBounds, if_neg (by omega)]
            · rw [hst2, ← htk, Array.toList_setIfInBounds]
              rw [List.take_add_one, List.getElem?_set, if_pos rfl, if_pos (by simp; omega), List.take_set_of_le (by omega)]
              rfl
          · have hee : l.toArray[i + (b - 1)]! = l.toArray[i + b]! := by
              simp only [Bool.and_true, Bool.not_eq_false', Bool.and_eq_true, beq_iff_eq] at g5
              exact Ix.ext' g5.1.symm g5.2.symm
            rw [if_pos hee, List.append_nil] at hst2
            simp (config := { decide := true }) only [if_true, if_false]
            exact ⟨⟨a, b + 1, d, by rw [w_succ (by omega)], by omega, by omega, by omega, hds, fun j hj1 hj2 => hd j (by omega) hj2, by rw [hst2]; exact htk, had, hf3.trans f4.nil, h4⟩, by rw [w_succ (by omega)]; simp [intOf] <;> omega⟩
        · simp only [decide_eq_false_iff_not, Int.toNat_natCast] at g4
          have hib : i + b = l.length := by omega
          rw [hib, List.take_length] at htk
          simp only [Int.toNat_natCast]
          have hla : (compL none l).length = a := by rw [← htk]; simp; omega
          have hlen3 : (KA d sp).length = cap * 2 := by rw [KA_len, hds]; rw [List.length_append, enc_len] at hcap; omega
          have fin : ∀ (l' : List Value) (W' : World), l'.length = (KA d sp).length → (∀ i, i < a * 2 → l'[i]? = (KA d sp)[i]?) → Fr [g] w W' → Cells W' g ty l' →
              ∃ sp', Ending.returned (.slice (sliceBase (some ⟨g, 0, none⟩) 0 cap 2) a cap) = .returned (.slice (some ⟨g, 0, none⟩) (compL none l).length cap) ∧ Fr [g] w W' ∧ Cells W' g ty (enc (compL none l) ++ sp') ∧ (enc (compL none l) ++ sp').length = cap * 2 := by
            intro l' W' hl1 hl2 hf' hc'
            have hsb0 : sliceBase (some ⟨g, 0, none⟩) 0 cap 2 = some ⟨g, 0, none⟩ := by unfold sliceBase; split <;> simp [add_plain]
            have hpre : l'.take (a * 2) = enc (compL none l) := by
              have he : (KA d sp).take (a * 2) = enc (compL none l) := by
                rw [← htk, hKA]
                have : enc d.toList = enc (d.toList.take a) ++ enc (d.toList.drop a) := by rw [← enc_append, List.take_append_drop]
                rw [this, List.append_assoc, List.take_append_of_le_length (by rw [enc_len]; simp; omega), List.take_of_length_le (by rw [enc_len]; simp; omega)]
              rw [← he]
              refine List.ext_getElem? fun k => ?_
              rw [List.getElem?_take, List.getElem?_take]
              split
              · exact hl2 k (by assumption)
              · rfl
            refine ⟨l'.drop (a * 2), by rw [hla, hsb0], hf', ?_, ?_⟩
            · rw [← hpre, List.take_append_drop]; exact hc'
            · rw [← hpre, List.take_append_drop, hl1, hlen3]
          refine s_req ⟨by omega, by omega⟩ ?_
          subst hty
          refine s_clear (z := .agg ⟨[.int .i64 0, .int .i64 0]⟩) h3 (by kernel_rfl) (fun w => by kernel_rfl) (by intro u hu; simp [Value.cells] at hu; rcases hu with rfl | rfl <;> rfl) (by decide) (o := if cap = a then 0 else a * 2) ?_ ?_ ?_
          · unfold sliceBase
            split
            · rfl
            · simp [add_plain]
          · show _ + (l.length - a) * 2 ≤ _
            rw [KA_len, hds]; split <;> omega
          · intro l' W4 f4 h4 hl1 hl2
            refine s_req ⟨by omega, by omega⟩ (s_ret (fin l' W4 hl1 (fun k hk => ?_) (hf3.trans f4) h4))
            by_cases hca : cap = a
            · have : l.length - a = 0 := by omega
              exact hl2 k (.inr this)
            · exact hl2 k (.inl (by rw [if_neg hca]; exact hk))
      · have hne : ¬ l.toArray[i - 1]! = l.toArray[i]! := fun e => by rw [e] at g3; simp at g3
        rw [if_neg hne] at hst
        simp (config := { decide := true }) only [if_true, if_false]
        refine ⟨⟨i + 1, by rw [w_succ (by omega)], by omega, by omega, ?_, hf.trans f2.nil, h2⟩, by rw [w_succ (by omega)]; simp [intOf] <;> omega⟩
        rw [hst, hcomp]
        rw [show i - 1 + 1 = i by omega] at hy
        rw [List.take_add_one (i := i), hy, Option.toList_some]
    · simp only [decide_eq_false_iff_not] at g2
      have : i = l.length := by omega
      rw [this, List.take_length] at hcomp
      rw [hcomp]
      exact s_ret ⟨sp, rfl, hf, by rw [hKA] at h1; exact h1, hcap⟩

theorem index_c {n cap : Nat} (h : KeysAt w o l) (hn : n = l.length) (hmax : l.length ≤ 9223372036854775807) (k : K) : Calls Tryz.prog 54 #[.slice o n cap, .agg ⟨kr k⟩] w fun e w' =>
    ∃ i : Int, e = .returned (.int .i64 i) ∧ (0 ≤ i ↔ k ∈ l) ∧ Fr [] w w' := by
  apply c54
  subst hn
  refine h_new (Has.init w) fun r u H => ?_
  refine s_loop (fun vs W => ∃ i : Nat, vs = [.int .i64 i] ∧ i ≤ l.length ∧ (∀ j x, j < i → l[j]? = some x → x ≠ k) ∧ Has w W (cl r 32 (kr k) :: [])) (fun vs _ => l.length - (intOf (vs.getD 0 undef)).toNat) ⟨0, rfl, by omega, by omega, H⟩ ?_
  rintro _ j W ⟨i, rfl, hi, hno, H⟩
  refine s_asI (s_ite (fun g1 => ?_) (fun g1 => ?_))
  · simp only [decide_eq_true_eq] at g1
    have hlt : i < l.length := by omega
    have hx : l[i]? = some l[i] := List.getElem?_eq_getElem hlt
    refine h_drew H fun u H => h_ldI H (by repeat (first | exact pick_head | apply pick_tail | apply pick_app)) rfl (h_ldI H (by repeat (first | exact pick_head | apply pick_tail | apply pick_app)) rfl ?_)
    obtain ⟨g, off, rfl, p1, p2⟩ := (h.fr0 H.base).get hx
    refine s_req ⟨by omega, g1⟩ (s_sm (s_loadI p1 (s_loadI p2 (s_ite (fun g2 => ?_) (fun g2 => s_next (by first | exact ⟨rfl, rfl⟩ | trivial) ?_)))))
    · have : k = l[i] := by
        simp only [Bool.and_true, Bool.and_eq_true, beq_iff_eq] at g2
        exact Ix.ext' g2.1 g2.2
      exact s_ret ⟨_, rfl, ⟨fun _ => this ▸ List.getElem_mem hlt, fun _ => by omega⟩, H.base⟩
    · have hne : l[i] ≠ k := fun e => by rw [e] at g2; simp at g2
      simp (config := { decide := true }) only [if_true, if_false]
      refine ⟨⟨i + 1, by rw [w_succ (by omega)], by omega, fun j x hj hx' => ?_, H⟩, by rw [w_succ (by omega)]; simp [intOf] <;> omega⟩
      by_cases hji : j = i
      · subst hji
        rw [hx] at hx'
        cases hx'
        exact hne
      · exact hno j x (by omega) hx'
  · simp only [decide_eq_false_iff_not] at g1
    refine s_ret ⟨-1, rfl, ⟨fun h => by omega, fun hm => ?_⟩, H.base⟩
    obtain ⟨j, hj, he⟩ := List.getElem_of_mem hm
    exact absurd he (hno j _ (by omega) (List.getElem?_eq_getElem hj))

theorem cont_c {n cap : Nat} (h : KeysAt w o l) (hn : n = l.length) (hmax : l.length ≤ 9223372036854775807) (k : K) : Calls Tryz.prog 39 #[.slice o n cap, .agg ⟨kr k⟩] w fun e w' => e = .returned (.bool (decide (k ∈ l))) ∧ Fr [] w w' := by
  apply c39
  refine h_new (Has.init w) fun r u H => ?_
  (repeat (first | refine s_asI ?_ | refine s_asS ?_ | refine s_asP ?_ | refine s_asB ?_ | refine s_asA ?_ | refine s_asT ?_ | refine s_asM ?_ | refine s_asU ?_ | refine s_asC ?_ | refine s_sm ?_ | refine s_req (by first | rfl | exact ⟨rfl, rfl⟩) ?_ | refine h_ldI H (by repeat (first | exact pick_head | apply pick_tail | apply pick_app)) (by first | rfl | (simp; done)) ?_ | refine h_ldB H (by repeat (first | exact pick_head | apply pick_tail | apply pick_app)) (by first | rfl | (simp; done)) ?_ | refine h_ldP H (by repeat (first | exact pick_head | apply pick_tail | apply pick_app)) (by first | rfl | (simp; done)) ?_ | refine h_ldS H (by repeat (first | exact pick_head | apply pick_tail | apply pick_app)) (by first | rfl | (simp; done)) ?_ | refine h_ldM H (by repeat (first | exact pick_head | apply pick_tail | apply pick_app)) (by first | rfl | (simp; done)) ?_ | refine h_ldT H (by repeat (first | exact pick_head | apply pick_tail | apply pick_app)) (by first | rfl | (simp; done)) ?_ | refine h_ldV H (by repeat (first | exact pick_head | apply pick_tail | apply pick_app)) (by first | rfl | (simp; done)) ?_ | (refine h_st H (by repeat (first | exact pick_head | apply pick_tail | apply pick_app)) (by first | (simp; done) | exact Nat.le_of_ble_eq_true rfl) rfl fun u H => ?_) | (refine h_drew H fun u H => ?_) | refine s_chk c_nil ?_))
  refine s_call (index_c (h.fr0 H.base) hn hmax k) ?_
  rintro _ u ⟨i, rfl, hi, f⟩
  refine ⟨_, rfl, s_asI (s_ret ⟨?_, (H.fr0 f).base⟩)⟩
  congr 2
  exact decide_eq_decide.2 hi
end
end Go.Proofs.YtpjcfnnnciknmaaGreat.Ids
