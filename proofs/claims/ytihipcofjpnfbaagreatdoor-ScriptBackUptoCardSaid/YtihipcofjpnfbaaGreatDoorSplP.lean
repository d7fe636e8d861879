/- Lines and words: cut at blanks, joined by blanks; plain. -/
import Derived.Test.YtihipcofjpnfbaaGreatDoorApartP
set_option linter.unusedVariables false
set_option linter.unusedSimpArgs false
namespace Go.Proofs.YtihipcofjpnfbaaGreatDoor
open Go hiding Expr
open Go.RowKit Tr

abbrev W := List UInt8
/-- A line's words. -/
def spl : List UInt8 → List W
  | [] => [[]]
  | c :: r => if c = 32 then [] :: spl r else match spl r with
    | w :: ws => (c :: w) :: ws
    | [] => [[c]]
theorem spl_ne (s : List UInt8) : spl s ≠ [] := by
  cases s with
  | nil => simp [spl]
  | cons c r =>
    unfold spl
    split
    · simp
    · cases spl r <;> simp
theorem spl_blank {r : List UInt8} : spl (32 :: r) = [] :: spl r := by
  rw [spl, if_pos rfl]
theorem spl_cons {c : UInt8} {r : List UInt8} (h : c ≠ 32) : ∃ w ws, spl r = w :: ws ∧ spl (c :: r) = (c :: w) :: ws := by
  cases hr : spl r with
  | nil => exact absurd hr (spl_ne r)
  | cons w ws => exact ⟨w, ws, rfl, by rw [spl, if_neg h, hr]⟩
theorem spl_nb (s : List UInt8) : ∀ w ∈ spl s, NoBlank w := by
  induction s with
  | nil => intro w hw; simp [spl] at hw; subst hw; unfold NoBlank; simp
  | cons c r ih =>
    by_cases hc : c = 32
    · subst hc
      rw [spl_blank]
      intro w hw
      rcases List.mem_cons.1 hw with rfl | hw
      · unfold NoBlank; simp
      · exact ih w hw
    · obtain ⟨w0, ws, h1, h2⟩ := spl_cons (r := r) hc
      rw [h1] at ih
      rw [h2]
      intro w hw
      rcases List.mem_cons.1 hw with rfl | hw
      · have := ih w0 (by simp)
        unfold NoBlank at this ⊢
        intro h
        rcases List.mem_cons.1 h with h | h
        · exact hc h.symm
        · exact this h
      · exact ih w (by simp [hw])
theorem spl_word {w : W} (h : NoBlank w) : spl w = [w] := by
  induction w with
  | nil => rfl
  | cons c r ih =>
    have hc : c ≠ 32 := fun e => h (by rw [e]; simp)
    obtain ⟨w0, ws, h1, h2⟩ := spl_cons (r := r) hc
    rw [ih (fun hh => h (by simp [hh]))] at h1
    cases h1
    exact h2
theorem spl_app {w : W} (h : NoBlank w) (r : List UInt8) : spl (w ++ 32 :: r) = w :: spl r := by
  induction w with
  | nil => exact spl_blank
  | cons c w ih =>
    have hc : c ≠ 32 := fun e => h (by rw [e]; simp)
    have h1 := ih (fun hh => h (by simp [hh]))
    rw [List.cons_append, spl, if_neg hc, h1]
theorem spl_jt {w : W} {ws : List W} (h : NoBlank w) (hs : ∀ x ∈ ws, NoBlank x) : spl (w ++ jt ws) = w :: ws := by
  induction ws generalizing w with
  | nil => rw [jt_nil, List.append_nil]; exact spl_word h
  | cons x ws ih =>
    rw [jt_cons, spl_app h, ih (hs x (by simp)) (fun y hy => hs y (by simp [hy]))]
theorem spl_join {ws : List W} (hne : ws ≠ []) (hs : ∀ x ∈ ws, NoBlank x) : spl (joinL ws) = ws := by
  cases ws with
  | nil => exact absurd rfl hne
  | cons w ws => rw [joinL_jt]; exact spl_jt (hs w (by simp)) (fun y hy => hs y (by simp [hy]))
theorem join_spl (s : List UInt8) : joinL (spl s) = s := by
  have key : ∀ s : List UInt8, ∀ w ws, spl s = w :: ws → w ++ jt ws = s := by
    intro s
    induction s with
    | nil => intro w ws h; simp [spl] at h; obtain ⟨rfl, rfl⟩ := h; rfl
    | cons c r ih =>
      intro w ws h
      by_cases hc : c = 32
      · subst hc
        rw [spl_blank] at h
        cases hr : spl r with
        | nil => exact absurd hr (spl_ne r)
        | cons w0 ws0 =>
          rw [hr] at h
          cases h
          rw [jt_cons, ih w0 ws0 hr]
          rfl
      · obtain ⟨w0, ws0, h1, h2⟩ := spl_cons (r := r) hc
        rw [h2] at h
        cases h
        rw [List.cons_append, ih w0 _ h1]
  cases h : spl s with
  | nil => exact absurd h (spl_ne s)
  | cons w ws => rw [joinL_jt]; exact key s w ws h
theorem spl_len (s : List UInt8) : (spl s).length ≤ s.length + 1 := by
  induction s with
  | nil => simp [spl]
  | cons c r ih =>
    by_cases hc : c = 32
    · subst hc
      rw [spl_blank]
      simp
      omega
    · obtain ⟨w0, ws, h1, h2⟩ := spl_cons (r := r) hc
      rw [h1] at ih
      rw [h2]
      simp at ih ⊢
      omega
theorem spl_sum (s : List UInt8) : ∀ w ∈ spl s, w.length ≤ s.length := by
  induction s with
  | nil => intro w hw; simp [spl] at hw; subst hw; simp
  | cons c r ih =>
    intro w hw
    by_cases hc : c = 32
    · subst hc
      rw [spl_blank] at hw
      rcases List.mem_cons.1 hw with rfl | hw
      · simp
      · have := ih w hw; simp; omega
    · obtain ⟨w0, ws, h1, h2⟩ := spl_cons (r := r) hc
      rw [h2] at hw
      rw [h1] at ih
      rcases List.mem_cons.1 hw with rfl | hw
      · have := ih w0 (by simp); simp; omega
      · have := ih w (by simp [hw]); simp; omega

/-! ### A step's line, a world's line -/
def stW (x : ST) : List W := wordK x.kind :: fw x
theorem stW_nb {x : ST} (hx : StOk x) : ∀ w ∈ stW x, NoBlank w := by
  intro w hw
  rcases List.mem_cons.1 hw with rfl | hw
  · exact wordK_nb _
  · exact fw_nb hx w hw
/-- What may be read. -/
def Val (x : ST) : Prop := StOk x ∧ (stepR x).2 = 0
theorem Val.line {x : ST} (h : Val x) : (stepR x).1 = joinL (stW x) := by
  rw [(stepR_ok h.2).2.2.2, stW, joinL_jt]
theorem Val.spl {x : ST} (h : Val x) : spl (stepR x).1 = stW x := by
  rw [h.line]
  exact spl_join (by simp [stW]) (stW_nb h.1)
theorem Val.of_spl {x : ST} (h : Val x) {s : List UInt8} (hs : Go.Proofs.YtihipcofjpnfbaaGreatDoor.spl s = stW x) : s = (stepR x).1 := by
  rw [h.line, ← hs, join_spl]
end Go.Proofs.YtihipcofjpnfbaaGreatDoor
