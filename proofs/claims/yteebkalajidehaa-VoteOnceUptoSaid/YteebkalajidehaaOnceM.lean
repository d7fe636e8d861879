/- The memory of VoteOnce: a group of votes, two maps; and the keys' words. -/
import Derived.Test.YteebkalajidehaaOnceP
set_option linter.unusedVariables false
set_option linter.unusedSimpArgs false
set_option maxRecDepth 100000

namespace Go.Proofs.Yteebkalajidehaa
open Go hiding Expr
open Go.RowKit Tr

theorem and15 (x : Int) : 0 ≤ bitsI .and .i64 x 15 ∧ bitsI .and .i64 x 15 ≤ 15 := by
  unfold bitsI
  simp only
  have h : (BitVec.ofInt IntKind.i64.bits x &&& BitVec.ofInt IntKind.i64.bits 15).toNat ≤ 15 := by
    rw [BitVec.toNat_and]
    exact Nat.le_trans Nat.and_le_right (by decide)
  rw [wrap64 (by omega) (by omega)]
  omega

theorem size_n (x : Int) : 1 ≤ IntKind.wrap .i64 (1 + Int.tmod (bitsI .and .i64 x 15) 5) ∧ IntKind.wrap .i64 (1 + Int.tmod (bitsI .and .i64 x 15) 5) ≤ 5 := by
  obtain ⟨h1, h2⟩ := and15 x
  have h3 := Int.tmod_nonneg 5 h1
  have h4 : Int.tmod (bitsI .and .i64 x 15) 5 < 5 := Int.tmod_lt_of_pos _ (by omega)
  rw [wrap64 (by omega) (by omega)]
  omega

theorem index_n (x : Int) {n : Int} (h : 1 ≤ n) : ∃ i : Nat, Int.tmod (bitsI .and .i64 x 15) n = (i : Int) ∧ (i : Int) < n := by
  obtain ⟨h1, h2⟩ := and15 x
  have h3 := Int.tmod_nonneg n h1
  have h4 : Int.tmod (bitsI .and .i64 x 15) n < n := Int.tmod_lt_of_pos _ (by omega)
  exact ⟨(Int.tmod (bitsI .and .i64 x 15) n).toNat, by omega, by omega⟩

theorem elem23 : Elem Try.prog 23 24 (.pointer none) 1 8 := ⟨by kernel_rfl, by kernel_rfl, rfl, by decide⟩

def ptrs (bs : List Nat) : List Value := bs.map fun b => .pointer (some ⟨b, 0, none⟩)

structure Grp (W : World) (lo : Nat) (bs : List Nat) (vs : List VS) : Prop where
  len : bs.length = vs.length
  cells : ∀ (j b : Nat) (s : VS), bs[j]? = some b → vs[j]? = some s → Cells W b 57 (pv s)
  low : ∀ b ∈ bs, lo ≤ b
  inj : ∀ (i j b : Nat), bs[i]? = some b → bs[j]? = some b → i = j

section
variable {W W' : World} {lo : Nat} {bs : List Nat} {vs : List VS} {F : List Nat}
theorem Grp.fr (h : Grp W lo bs vs) (hf : Fr F W W') (hb : ∀ b ∈ bs, b ∉ F) : Grp W' lo bs vs :=
  ⟨h.len, fun j b s h1 h2 => hf.cells (h.cells j b s h1 h2) (hb b (List.mem_of_getElem? h1)), h.low, h.inj⟩
theorem Grp.upd (h : Grp W lo bs vs) {i b : Nat} {s' : VS} (hb : bs[i]? = some b) (hf : Fr [b] W W') (hc : Cells W' b 57 (pv s')) : Grp W' lo bs (vs.set i s') := by
  refine ⟨by simp [h.len], fun j c s h1 h2 => ?_, h.low, h.inj⟩
  rcases get_set _ _ _ _ _ h2 with ⟨rfl, rfl⟩ | ⟨hne, h2⟩
  · rw [hb] at h1; cases h1; exact hc
  · refine hf.cells (h.cells j c s h1 h2) (fun hm => hne ?_)
    simp only [List.mem_singleton] at hm
    subst hm
    exact h.inj _ _ _ h1 hb
theorem Grp.exists (h : Grp W lo bs vs) {j : Nat} (hj : j < vs.length) : ∃ b s, bs[j]? = some b ∧ vs[j]? = some s ∧ Cells W b 57 (pv s) ∧ lo ≤ b := by
  have hb : j < bs.length := by rw [h.len]; exact hj
  have h1 := List.getElem?_eq_getElem hb
  have h2 := List.getElem?_eq_getElem hj
  exact ⟨_, _, h1, h2, h.cells _ _ _ h1 h2, h.low _ (List.getElem_mem hb)⟩
theorem Grp.mapNe (h : Grp W lo bs vs) {m : Nat} {es : Array MapEntry} {c : Nat} (hm : W.heap[m]? = some (.map es c)) : ∀ b ∈ bs, b ≠ m := by
  rintro b hb rfl
  obtain ⟨j, hj, rfl⟩ := List.getElem_of_mem hb
  have hv : j < vs.length := by rw [← h.len]; exact hj
  have := h.cells j _ _ (List.getElem?_eq_getElem hj) (List.getElem?_eq_getElem hv)
  unfold Cells at this
  rw [hm] at this
  cases this
theorem Grp.ownNe (h : Grp W lo bs vs) {e : TypeId} {sz n : Nat} {v : Value} {xs : List Value} (ho : Tr.Own W e sz v n xs) (he : e ≠ 57) : ∀ b ∈ bs, v.ownBlock ≠ some b := by
  intro b hb hv
  obtain ⟨j, hj, rfl⟩ := List.getElem_of_mem hb
  have hvs : j < vs.length := by rw [← h.len]; exact hj
  have hc := h.cells j _ _ (List.getElem?_eq_getElem hj) (List.getElem?_eq_getElem hvs)
  rcases ho.2 with ⟨rfl, _⟩ | ⟨g, cap, cur, rfl, _, hg, _⟩
  · cases hv
  · cases hv
    unfold Cells at hc
    rw [show W.heap[bs[j]]? = _ from hg] at hc
    simp only [Option.some.injEq, Obj.cells.injEq] at hc
    exact he hc.2.1
end

def kI (x : Int) : Value := .int .i64 x
def kP (x : Int × Int) : Value := .agg ⟨[.int .i64 x.1, .int .i64 x.2]⟩
theorem kI_inj (D : List (Int × Int)) (a : Int) : ∀ p ∈ D, kI p.1 = kI a → p.1 = a := fun p _ h => by simpa [kI] using h
theorem kP_inj (D : List ((Int × Int) × Int)) (a : Int × Int) : ∀ p ∈ D, kP p.1 = kP a → p.1 = a := fun p _ h => by
  have := h
  simp only [kP, Value.agg.injEq, Array.mk.injEq, List.cons.injEq, Value.int.injEq, true_and, and_true] at this
  exact Prod.ext this.1 this.2
theorem wf64 {x : Int} (h1 : -9223372036854775808 ≤ x) (h2 : x ≤ 9223372036854775807) : (Lit.int .i64 x).wf = true := by
  simp [Lit.wf, IntKind.min, IntKind.max, IntKind.signed, IntKind.bits]; omega
end Go.Proofs.Yteebkalajidehaa
