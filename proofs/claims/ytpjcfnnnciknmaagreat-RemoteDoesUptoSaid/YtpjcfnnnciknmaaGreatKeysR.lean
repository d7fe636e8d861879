/- Lists of keys in memory, and the document's Compare (out of the lib's KeysA, KeysR, Part: for a seat without the functions on lists of keys). -/
import Derived.Test.YtpjcfnnnciknmaaGreatPairsP
import Derived.Test.YtpjcfnnnciknmaaGreatTreesA
set_option linter.unusedVariables false
set_option linter.unusedSimpArgs false
set_option maxRecDepth 100000
set_option maxHeartbeats 1000000
namespace Go.Proofs.YtpjcfnnnciknmaaGreat
open Go hiding Expr
open Go.RowKit Tr

theorem elemK : Elem Tryz.prog 97 51 (.agg ⟨[.int .i32 0, .int .i64 0]⟩) 2 16 := ⟨by kernel_rfl, by kernel_rfl, rfl, by decide⟩
def enc (l : List K) : List Value := (l.map kr).flatten
theorem enc_len (l : List K) : (enc l).length = l.length * 2 := by unfold enc; rw [flat_len (kr2 l), List.length_map]
theorem enc_append (a b : List K) : enc (a ++ b) = enc a ++ enc b := by simp [enc]
theorem enc_one (u : Value) (l : List K) (h : u ∈ enc l) : u.oneCell' = true := by
  obtain ⟨r, hr, hu⟩ := List.mem_flatten.1 h
  obtain ⟨p, _, rfl⟩ := List.mem_map.1 hr
  simp [kr] at hu
  rcases hu with rfl | rfl <;> rfl
/-- Keys that lie somewhere, to be read. -/
def KeysAt (w : World) (o : Option Addr) (l : List K) : Prop := RowsAt w o 2 (l.map kr)

theorem keys_of (rows : List (List Value)) (h : ∀ r ∈ rows, Fits [.int .i32, .int .i64] r) : ∃ ks : List K, rows = ks.map kr ∧ ∀ k ∈ ks, -2147483648 ≤ k.t ∧ k.t ≤ 2147483647 ∧ -9223372036854775808 ≤ k.r ∧ k.r ≤ 9223372036854775807 := by
  induction rows with
  | nil => exact ⟨[], rfl, by simp⟩
  | cons r rows ih =>
    obtain ⟨ks, rfl, hi⟩ := ih fun q hq => h q (by simp [hq])
    obtain ⟨x1, r1, rfl, hw1, f1⟩ := (h r (by simp)).int
    obtain ⟨x2, r2, rfl, hw2, f2⟩ := f1.int
    obtain rfl := f2.nil
    refine ⟨⟨x1, x2⟩ :: ks, rfl, ?_⟩
    intro k hk
    rcases List.mem_cons.1 hk with rfl | hk
    · simp [Lit.wf, IntKind.min, IntKind.max, IntKind.signed, IntKind.bits] at hw1 hw2
      exact ⟨by simp only; omega, by simp only; omega, by simp only; omega, by simp only; omega⟩
    · exact hi k hk

section
variable {w w' w0 : World} {o : Option Addr} {l : List K} {F : List Nat} {g : Nat} {ty : TypeId} {sp : List Value} {m m' : Hp}
theorem KeysAt.fr0 (h : KeysAt w o l) (hf : Fr [] w w') : KeysAt w' o l := RowsAt.fr h hf
theorem KeysAt.get (h : KeysAt w o l) {i : Nat} {k : K} (hi : l[i]? = some k) : ∃ g off, o = some ⟨g, off, none⟩ ∧ w.cell? ⟨g, off + i * 2, none⟩ = some (.int .i32 k.t) ∧ w.cell? ⟨g, off + i * 2 + 1, none⟩ = some (.int .i64 k.r) := by
  obtain ⟨g, off, rfl, _, hc⟩ := RowsAt.at h (j := i) (r := kr k) (by simp [hi])
  exact ⟨g, off, rfl, hc 0 _ rfl, hc 1 _ rfl⟩
theorem keysAt_cells (h : Cells w g ty (enc l ++ sp)) : KeysAt w (some ⟨g, 0, none⟩) l := by
  refine .inr ⟨g, 0, rfl, h.lt, fun j r hr k v hv => h.cell ?_⟩
  have h1 := flat_get (kr2 l) hr hv
  unfold enc
  rw [Nat.zero_add, List.getElem?_append_left (List.getElem?_eq_some_iff.1 h1).1]
  exact h1
theorem keysAt_own {e : TypeId} {n cap : Nat} {c : Hp} (ho : OwnC e 2 (.slice o n cap) n (enc l) c) (H : Has w0 w m) (hp : Cut c m m') : KeysAt w o l := by
  rcases ho.2 with ⟨hv, hn, rfl⟩ | ⟨g, cap', sp, hv, rfl, _⟩
  · have hl := ho.len
    rw [enc_len, hn] at hl
    have : l = [] := List.eq_nil_of_length_eq_zero (by omega)
    subst this
    exact .inl rfl
  · cases hv
    exact keysAt_cells ((H.pullc hp).cells pick_head)
/-- The cells as a stretch. -/
theorem KeysAt.reads {a : Addr} (h : KeysAt w (some a) l) : Reads w a (enc l) := by
  intro j u hu
  rcases h with hn | ⟨g, off, he, _, hc⟩
  · have : l = [] := by simpa using hn
    subst this
    simp [enc] at hu
  · cases he
    have hjl := (List.getElem?_eq_some_iff.1 hu).1
    rw [enc_len] at hjl
    have hi : j / 2 < l.length := by omega
    have hg : (l.map kr)[j / 2]? = some (kr l[j / 2]) := by simp [hi]
    have hm : (kr l[j / 2])[j % 2]? = some ((kr l[j / 2])[j % 2]'(by show _ < 2; omega)) := List.getElem?_eq_getElem _
    have h1 := flat_get (kr2 l) hg hm
    rw [show j / 2 * 2 + j % 2 = j by omega] at h1
    unfold enc at hu
    rw [hu] at h1
    cases h1
    have := hc (j / 2) _ hg (j % 2) _ hm
    rw [add_plain]
    rwa [show off + j / 2 * 2 + j % 2 = off + j by omega] at this

end
theorem kr_one (l : List K) : ∀ r ∈ l.map kr, ∀ u ∈ r, u.oneCell' = true := by
  intro r hr u hu
  obtain ⟨p, _, rfl⟩ := List.mem_map.1 hr
  simp [kr] at hu
  rcases hu with rfl | rfl <;> rfl
theorem eqK (a b : K) : (a.t == b.t && (a.r == b.r && true)) = decide (a = b) := by
  by_cases h : a = b
  · subst h; simp
  · rw [decide_eq_false h]
    cases h1 : a.t == b.t <;> cases h2 : a.r == b.r <;> simp_all
    exact h (K.ext' h1 h2)

section
variable {w : World} {o o2 : Option Addr} {l l2 : List K}
theorem KeysAt.at {g off : Nat} (h : KeysAt w (some ⟨g, off, none⟩) l) {i : Nat} {k : K} (hi : l[i]? = some k) : w.cell? ⟨g, off + i * 2, none⟩ = some (.int .i32 k.t) ∧ w.cell? ⟨g, off + i * 2 + 1, none⟩ = some (.int .i64 k.r) := by
  obtain ⟨_, _, he, h1, h2⟩ := h.get hi
  cases he
  exact ⟨h1, h2⟩

end
theorem none_own {e : TypeId} {sz n cap : Nat} {rows : List (List Value)} {c : Hp} (ho : OwnC e sz (.slice none n cap) n rows.flatten c) (hr : ∀ r ∈ rows, r.length = sz) (hpos : 0 < sz) : rows = [] := by
  rcases ho.2 with ⟨hv, hn, rfl⟩ | ⟨g, cap', sp, hv, _⟩
  · have hl := ho.len
    rw [flat_len hr, hn] at hl
    exact List.eq_nil_of_length_eq_zero (by
      rcases Nat.eq_zero_or_pos rows.length with h | h
      · exact h
      · have := Nat.mul_pos h hpos
        omega)
  · cases hv
theorem Tr.OwnC.cap_ge {e : TypeId} {sz n cap N : Nat} {xs : List Value} {c : Hp} {o : Option Addr} (ho : OwnC e sz (.slice o n cap) N xs c) : N ≤ cap ∧ n = N := by
  rcases ho.2 with ⟨hv, hn, rfl⟩ | ⟨g, cap', sp, hv, _, h1, _⟩
  · cases hv; exact ⟨by omega, hn.symm⟩
  · cases hv; exact ⟨h1, rfl⟩

section
variable {w : World}
theorem rcmp_c (a b : K) : Calls Tryz.prog 53 #[.agg ⟨kr a⟩, .agg ⟨kr b⟩] w fun e w' => e = .returned (.int .i64 (cmpK a b)) ∧ Fr [] w w' := by
  apply c53
  refine h_new (Has.init w) fun n4 u H => ?_
  (refine h_new H fun n5 u H => ?_)
  (repeat (first | refine s_asI ?_ | refine s_asS ?_ | refine s_asP ?_ | refine s_asB ?_ | refine s_asA ?_ | refine s_asT ?_ | refine s_asM ?_ | refine s_asU ?_ | refine s_asC ?_ | refine s_sm ?_ | refine s_req (by first | rfl | exact ⟨rfl, rfl⟩) ?_ | refine h_ldI H (by repeat (first | exact pick_head | apply pick_tail | apply pick_app)) (by first | rfl | (simp; done)) ?_ | refine h_ldB H (by repeat (first | exact pick_head | apply pick_tail | apply pick_app)) (by first | rfl | (simp; done)) ?_ | refine h_ldP H (by repeat (first | exact pick_head | apply pick_tail | apply pick_app)) (by first | rfl | (simp; done)) ?_ | refine h_ldS H (by repeat (first | exact pick_head | apply pick_tail | apply pick_app)) (by first | rfl | (simp; done)) ?_ | refine h_ldM H (by repeat (first | exact pick_head | apply pick_tail | apply pick_app)) (by first | rfl | (simp; done)) ?_ | refine h_ldT H (by repeat (first | exact pick_head | apply pick_tail | apply pick_app)) (by first | rfl | (simp; done)) ?_ | refine h_ldV H (by repeat (first | exact pick_head | apply pick_tail | apply pick_app)) (by first | rfl | (simp; done)) ?_ | (refine h_st H (by repeat (first | exact pick_head | apply pick_tail | apply pick_app)) (by first | (simp; done) | exact Nat.le_of_ble_eq_true rfl) rfl fun u H => ?_) | (refine h_drew H fun u H => ?_) | refine s_chk c_nil ?_))
  refine s_ite (fun g1 => s_ret ⟨?_, H.base⟩) (fun g1 => ?_)
  · simp only [decide_eq_true_eq] at g1
    unfold cmpK cmpI; (repeat' split) <;> first | rfl | omega
  simp only [decide_eq_false_iff_not] at g1
  (repeat (first | refine s_asI ?_ | refine s_asS ?_ | refine s_asP ?_ | refine s_asB ?_ | refine s_asA ?_ | refine s_asT ?_ | refine s_asM ?_ | refine s_asU ?_ | refine s_asC ?_ | refine s_sm ?_ | refine s_req (by first | rfl | exact ⟨rfl, rfl⟩) ?_ | refine h_ldI H (by repeat (first | exact pick_head | apply pick_tail | apply pick_app)) (by first | rfl | (simp; done)) ?_ | refine h_ldB H (by repeat (first | exact pick_head | apply pick_tail | apply pick_app)) (by first | rfl | (simp; done)) ?_ | refine h_ldP H (by repeat (first | exact pick_head | apply pick_tail | apply pick_app)) (by first | rfl | (simp; done)) ?_ | refine h_ldS H (by repeat (first | exact pick_head | apply pick_tail | apply pick_app)) (by first | rfl | (simp; done)) ?_ | refine h_ldM H (by repeat (first | exact pick_head | apply pick_tail | apply pick_app)) (by first | rfl | (simp; done)) ?_ | refine h_ldT H (by repeat (first | exact pick_head | apply pick_tail | apply pick_app)) (by first | rfl | (simp; done)) ?_ | refine h_ldV H (by repeat (first | exact pick_head | apply pick_tail | apply pick_app)) (by first | rfl | (simp; done)) ?_ | (refine h_st H (by repeat (first | exact pick_head | apply pick_tail | apply pick_app)) (by first | (simp; done) | exact Nat.le_of_ble_eq_true rfl) rfl fun u H => ?_) | (refine h_drew H fun u H => ?_) | refine s_chk c_nil ?_))
  refine s_ite (fun g2 => ?_) (fun g2 => ?_)
  · simp only [beq_iff_eq] at g2
    (repeat (first | refine s_asI ?_ | refine s_asS ?_ | refine s_asP ?_ | refine s_asB ?_ | refine s_asA ?_ | refine s_asT ?_ | refine s_asM ?_ | refine s_asU ?_ | refine s_asC ?_ | refine s_sm ?_ | refine s_req (by first | rfl | exact ⟨rfl, rfl⟩) ?_ | refine h_ldI H (by repeat (first | exact pick_head | apply pick_tail | apply pick_app)) (by first | rfl | (simp; done)) ?_ | refine h_ldB H (by repeat (first | exact pick_head | apply pick_tail | apply pick_app)) (by first | rfl | (simp; done)) ?_ | refine h_ldP H (by repeat (first | exact pick_head | apply pick_tail | apply pick_app)) (by first | rfl | (simp; done)) ?_ | refine h_ldS H (by repeat (first | exact pick_head | apply pick_tail | apply pick_app)) (by first | rfl | (simp; done)) ?_ | refine h_ldM H (by repeat (first | exact pick_head | apply pick_tail | apply pick_app)) (by first | rfl | (simp; done)) ?_ | refine h_ldT H (by repeat (first | exact pick_head | apply pick_tail | apply pick_app)) (by first | rfl | (simp; done)) ?_ | refine h_ldV H (by repeat (first | exact pick_head | apply pick_tail | apply pick_app)) (by first | rfl | (simp; done)) ?_ | (refine h_st H (by repeat (first | exact pick_head | apply pick_tail | apply pick_app)) (by first | (simp; done) | exact Nat.le_of_ble_eq_true rfl) rfl fun u H => ?_) | (refine h_drew H fun u H => ?_) | refine s_chk c_nil ?_))
    refine s_ite (fun g3 => s_ret ⟨?_, H.base⟩) (fun g3 => ?_)
    · simp only [decide_eq_true_eq] at g3
      unfold cmpK cmpI; (repeat' split) <;> first | rfl | omega
    simp only [decide_eq_false_iff_not] at g3
    (repeat (first | refine s_asI ?_ | refine s_asS ?_ | refine s_asP ?_ | refine s_asB ?_ | refine s_asA ?_ | refine s_asT ?_ | refine s_asM ?_ | refine s_asU ?_ | refine s_asC ?_ | refine s_sm ?_ | refine s_req (by first | rfl | exact ⟨rfl, rfl⟩) ?_ | refine h_ldI H (by repeat (first | exact pick_head | apply pick_tail | apply pick_app)) (by first | rfl | (simp; done)) ?_ | refine h_ldB H (by repeat (first | exact pick_head | apply pick_tail | apply pick_app)) (by first | rfl | (simp; done)) ?_ | refine h_ldP H (by repeat (first | exact pick_head | apply pick_tail | apply pick_app)) (by first | rfl | (simp; done)) ?_ | refine h_ldS H (by repeat (first | exact pick_head | apply pick_tail | apply pick_app)) (by first | rfl | (simp; done)) ?_ | refine h_ldM H (by repeat (first | exact pick_head | apply pick_tail | apply pick_app)) (by first | rfl | (simp; done)) ?_ | refine h_ldT H (by repeat (first | exact pick_head | apply pick_tail | apply pick_app)) (by first | rfl | (simp; done)) ?_ | refine h_ldV H (by repeat (first | exact pick_head | apply pick_tail | apply pick_app)) (by first | rfl | (simp; done)) ?_ | (refine h_st H (by repeat (first | exact pick_head | apply pick_tail | apply pick_app)) (by first | (simp; done) | exact Nat.le_of_ble_eq_true rfl) rfl fun u H => ?_) | (refine h_drew H fun u H => ?_) | refine s_chk c_nil ?_))
    refine s_ite (fun g4 => s_ret ⟨?_, H.base⟩) (fun g4 => s_ret ⟨?_, H.base⟩)
    · simp only [Bool.and_true, Bool.and_eq_true, beq_iff_eq] at g4
      unfold cmpK cmpI; (repeat' split) <;> first | rfl | omega
    · have : ¬ (a.t = b.t ∧ a.r = b.r) := fun h => by simp [h.1, h.2] at g4
      unfold cmpK cmpI; (repeat' split) <;> first | rfl | omega
  · have g2 : ¬ a.t = b.t := fun h => by simp [h] at g2
    (repeat (first | refine s_asI ?_ | refine s_asS ?_ | refine s_asP ?_ | refine s_asB ?_ | refine s_asA ?_ | refine s_asT ?_ | refine s_asM ?_ | refine s_asU ?_ | refine s_asC ?_ | refine s_sm ?_ | refine s_req (by first | rfl | exact ⟨rfl, rfl⟩) ?_ | refine h_ldI H (by repeat (first | exact pick_head | apply pick_tail | apply pick_app)) (by first | rfl | (simp; done)) ?_ | refine h_ldB H (by repeat (first | exact pick_head | apply pick_tail | apply pick_app)) (by first | rfl | (simp; done)) ?_ | refine h_ldP H (by repeat (first | exact pick_head | apply pick_tail | apply pick_app)) (by first | rfl | (simp; done)) ?_ | refine h_ldS H (by repeat (first | exact pick_head | apply pick_tail | apply pick_app)) (by first | rfl | (simp; done)) ?_ | refine h_ldM H (by repeat (first | exact pick_head | apply pick_tail | apply pick_app)) (by first | rfl | (simp; done)) ?_ | refine h_ldT H (by repeat (first | exact pick_head | apply pick_tail | apply pick_app)) (by first | rfl | (simp; done)) ?_ | refine h_ldV H (by repeat (first | exact pick_head | apply pick_tail | apply pick_app)) (by first | rfl | (simp; done)) ?_ | (refine h_st H (by repeat (first | exact pick_head | apply pick_tail | apply pick_app)) (by first | (simp; done) | exact Nat.le_of_ble_eq_true rfl) rfl fun u H => ?_) | (refine h_drew H fun u H => ?_) | refine s_chk c_nil ?_))
    refine s_ite (fun g4 => ?_) (fun g4 => s_ret ⟨?_, H.base⟩)
    · simp only [Bool.and_true, Bool.and_eq_true, beq_iff_eq] at g4
      omega
    · unfold cmpK cmpI; (repeat' split) <;> first | rfl | omega
end
end Go.Proofs.YtpjcfnnnciknmaaGreat
