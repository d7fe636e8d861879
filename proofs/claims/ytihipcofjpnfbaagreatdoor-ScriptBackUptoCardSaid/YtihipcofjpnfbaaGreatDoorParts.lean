/- Lists of rows of one size, in a block of one's own or handed in: parts of them, and append of a part. -/
import Derived.Test.YtihipcofjpnfbaaGreatDoorSep
import Derived.DataElems
namespace Go.Proofs.YtihipcofjpnfbaaGreatDoor.Tr
open Go
set_option linter.unusedSimpArgs false
set_option linter.unusedVariables false
open Go.RowKit

section
variable {α : Type} {rows : List (List Value)} {sz : Nat}
theorem rows_drop (h : ∀ r ∈ rows, r.length = sz) (i : Nat) : rows.flatten.drop (i * sz) = (rows.drop i).flatten := by
  induction rows generalizing i with
  | nil => simp
  | cons a l ih =>
    cases i with
    | zero => simp
    | succ i =>
      have ha : a.length = sz := h a (by simp)
      rw [List.flatten_cons, List.drop_append, List.drop_eq_nil_of_le (by rw [ha, Nat.succ_mul]; omega), List.nil_append, List.drop_succ_cons, ha, show (i + 1) * sz - sz = i * sz by rw [Nat.succ_mul]; omega]
      exact ih (fun r hr => h r (by simp [hr])) i
theorem rows_take (h : ∀ r ∈ rows, r.length = sz) (i : Nat) : rows.flatten.take (i * sz) = (rows.take i).flatten := by
  induction rows generalizing i with
  | nil => simp
  | cons a l ih =>
    cases i with
    | zero => simp
    | succ i =>
      have ha : a.length = sz := h a (by simp)
      rw [List.flatten_cons, List.take_append, List.take_of_length_le (by rw [ha, Nat.succ_mul]; omega), List.take_succ_cons, List.flatten_cons, ha, show (i + 1) * sz - sz = i * sz by rw [Nat.succ_mul]; omega]
      rw [ih (fun r hr => h r (by simp [hr])) i]

theorem sb_zero {o : Option Addr} {cap : Nat} : sliceBase o 0 cap sz = o := by
  unfold sliceBase
  cases o <;> simp [add_plain]
  intro _
  cases ‹Addr›
  simp [Addr.add]
end

section
variable {P : Program} {Q : Ending → World → Prop} {ρ : Lv} {w0 w w' : World} {e e2 t ty ty2 : TypeId} {z : Value} {sz bytes n N cap q : Nat} {v v' : Value} {o : Option Addr} {xs ys : List Value} {rows : List (List Value)} {m m' m2 c d : Hp}

theorem rowsAt_cells {g : Nat} {sp : List Value} (hr : ∀ r ∈ rows, r.length = sz) (h : Cells w g ty (rows.flatten ++ sp)) : RowsAt w (some ⟨g, 0, none⟩) sz rows := by
  refine .inr ⟨g, 0, rfl, h.lt, fun j r hj k v hv => h.cell ?_⟩
  have h1 := flat_get hr hj hv
  rw [Nat.zero_add, List.getElem?_append_left (List.getElem?_eq_some_iff.1 h1).1]
  exact h1
theorem rowsAt_own (hr : ∀ r ∈ rows, r.length = sz) (hpos : 0 < sz) (ho : OwnC e sz (.slice o n cap) n rows.flatten c) (H : Has w0 w m) (hp : Cut c m m') : RowsAt w o sz rows := by
  rcases ho.2 with ⟨hv, hn, rfl⟩ | ⟨g, cap', sp, hv, rfl, _⟩
  · have hl := ho.len
    rw [flat_len hr, hn] at hl
    have : rows = [] := List.eq_nil_of_length_eq_zero (by
      rcases Nat.eq_zero_or_pos rows.length with h | h
      · exact h
      · have := Nat.mul_pos h hpos
        omega)
    exact .inl this
  · cases hv
    exact rowsAt_cells hr ((H.pullc hp).cells pick_head)
/-- Rows as a stretch of cells. -/
theorem RowsAt.reads {a : Addr} (hr : ∀ r ∈ rows, r.length = sz) (hpos : 0 < sz) (h : RowsAt w (some a) sz rows) : Reads w a rows.flatten := by
  intro j u hu
  rcases h with rfl | ⟨g, off, he, _, hc⟩
  · simp at hu
  · cases he
    have hjl := (List.getElem?_eq_some_iff.1 hu).1
    rw [flat_len hr] at hjl
    have hi : j / sz < rows.length := by rw [Nat.div_lt_iff_lt_mul hpos]; exact hjl
    have hg : rows[j / sz]? = some rows[j / sz] := List.getElem?_eq_getElem hi
    have hlr : (rows[j / sz]).length = sz := hr _ (List.getElem_mem hi)
    have hm : (rows[j / sz])[j % sz]? = some ((rows[j / sz])[j % sz]'(by rw [hlr]; exact Nat.mod_lt _ hpos)) := List.getElem?_eq_getElem _
    have h1 := flat_get hr hg hm
    rw [show j / sz * sz + j % sz = j by rw [Nat.mul_comm]; exact Nat.div_add_mod j sz] at h1
    rw [hu] at h1
    cases h1
    have := hc (j / sz) _ hg (j % sz) _ hm
    rw [add_plain]
    rwa [show off + j / sz * sz + j % sz = off + j by rw [Nat.add_assoc, Nat.mul_comm, Nat.div_add_mod]] at this

/-- append of a part of a list of rows that lies somewhere. -/
theorem h_appRows {k : Value → T} (E : Elem P t e z sz bytes) (hpos : 0 < sz) (H : Has w0 w m) (hp : Cut c m m') (hown : OwnC e sz v n xs c) (hr : ∀ r ∈ rows, r.length = sz)
    (h1 : ∀ r ∈ rows, ∀ u ∈ r, u.oneCell' = true) (hsrc : RowsAt w o sz rows) (hnone : o = none → rows = []) {i j : Nat} (hij : i + j ≤ rows.length) (hN : rows.length ≤ cap)
    (hbytes : (n + j) * bytes ≤ 140737488355328) (hmax : n + j ≤ 140737488355328)
    (hk : ∀ v' c' w', OwnC e sz v' (n + j) (xs ++ ((rows.drop i).take j).flatten) c' → Has w0 w' (c' ++ m') → (k v').sem P Q ρ w') :
    (T.run (biV .append #[t, t] ty #[v, .slice (sliceBase o i cap sz) j q]) k).sem P Q ρ w := by
  cases o with
  | none =>
    have hrows := hnone rfl
    subst hrows
    have hj : j = 0 := by simp at hij; omega
    subst hj
    have hb : sliceBase (none : Option Addr) i cap sz = none := by unfold sliceBase; simp
    rw [hb]
    refine h_appNil E H hp hown (hk _ c _ ?_ (H.pullc hp))
    simpa using hown
  | some a =>
    have hb : ∃ b, sliceBase (some a) i cap sz = some b ∧ (j = 0 ∨ b = a.add (i * sz)) := by
      unfold sliceBase
      by_cases hc : cap = i
      · exact ⟨a, by rw [if_pos hc], .inl (by omega)⟩
      · exact ⟨_, by rw [if_neg hc]; rfl, .inr rfl⟩
    obtain ⟨b, hb, hb2⟩ := hb
    rw [hb]
    have hpart : ∀ r ∈ (rows.drop i).take j, r.length = sz := fun r hm => hr r (List.mem_of_mem_drop (List.mem_of_mem_take hm))
    refine h_app E H hp hown (j := j) (news := ((rows.drop i).take j).flatten) ?_ ?_ ?_ hbytes hmax fun v' c' w' ho' H' _ => hk v' c' w' ho' H'
    · rw [flat_len hpart, List.length_take, List.length_drop]
      congr 1
      omega
    · rcases hb2 with rfl | rfl
      · intro k u hu; simp at hu
      · intro k u hu
        have hrd := hsrc.reads hr hpos
        rw [← rows_take (fun r hm => hr r (List.mem_of_mem_drop hm)), ← rows_drop hr] at hu
        rw [List.getElem?_take, List.getElem?_drop] at hu
        split at hu
        · have := hrd _ u hu
          rw [Addr.add_add]
          exact this
        · cases hu
    · intro u hu
      obtain ⟨r, hr', hu⟩ := List.mem_flatten.1 hu
      exact h1 r (List.mem_of_mem_drop (List.mem_of_mem_take hr')) u hu
end
end Go.Proofs.YtihipcofjpnfbaaGreatDoor.Tr
