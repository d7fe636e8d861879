/- Arguments that hold slices, where all that is read is of bulk at most 1048576: what their reading says of the cells. -/
import Derived.Test.YtpjcfnnnciknmaaGreatDeep
namespace Go.Proofs.YtpjcfnnnciknmaaGreat.Tr
open Go
set_option linter.unusedSimpArgs false
set_option linter.unusedVariables false
open Go.RowKit

/-- As leavesD; a list's number says that it has at most 1048576 elements. -/
def leavesU (P : Program) : Nat → TypeId → Option (List DLeaf)
  | 0, _ => none
  | n + 1, t =>
    match P.underlying t with
    | some (.int k) => some [.flat (.int k)]
    | some .bool => some [.flat .bool]
    | some .string => some [.flat .str]
    | some (.struct fs) => fieldsD P (leavesU P n) fs.toList 0 (P.cellsOf t)
    | some (.array m e) =>
      match leavesU P n e with
      | some l => if P.cellsOf e = l.length ∧ P.cellsOf t = m * l.length then some (List.replicate m l).flatten else none
      | none => none
    | some (.slice e) =>
      match leavesU P n e with
      | some l => if P.cellsOf e = l.length ∧ 0 < l.length then some [.lst l 134217727] else none
      | none => none
    | _ => none

section
variable {H : Type} {enc : TypeId × Value → H} {P : Program} {w : World} {base : Nat} {spare : Nat → Bool} {held : Bool} {B : DataW H → Nat}
  (hB1 : ∀ el sp, el.length ≤ B (.slice el sp)) (hB2 : ∀ el sp d, d ∈ el → B d ≤ B (.slice el sp)) (hB3 : ∀ parts d, d ∈ parts → B d ≤ B (.agg parts))
include hB1 hB2 hB3
theorem leavesU_ok : ∀ (n : Nat) (t : TypeId) (ls : List DLeaf) (fuel : Nat) (cs : List Value) (x : DataW H × List MemPlace), leavesU P n t = some ls → DataW.trod enc P w base spare held fuel t cs = some x → B x.1 ≤ 1048576 → FitsD w ls cs
  | 0, _, _, _, _, _, h, _, _ => by cases h
  | n + 1, t, ls, fuel, cs, x, h, hx, hw => by
    unfold leavesU at h
    split at h
    · rename_i k ht
      cases h
      obtain ⟨m, rfl, _, hw⟩ := DataW.trod_int ht hx
      exact FitsD.one (by simp only [DLeaf.ok]; exact ⟨m, rfl, hw⟩)
    · rename_i ht
      cases h
      obtain ⟨b, rfl, _⟩ := DataW.trod_bool ht hx
      exact FitsD.one (by simp only [DLeaf.ok]; exact ⟨b, rfl⟩)
    · rename_i ht
      cases h
      obtain ⟨s, rfl, _, hs⟩ := DataW.trod_string ht hx
      exact FitsD.one (by simp only [DLeaf.ok]; exact ⟨s, rfl, hs⟩)
    · rename_i fs ht
      obtain ⟨xs, m, _, hx1, hl, hlen, hf⟩ := DataW.trod_struct ht hx
      have := fieldsD_ok (w := w) (P := P) (f := leavesU P n) (cs := cs) (P.cellsOf t) hl fs.toList 0 ls h (fun y hy l hyl => by
        obtain ⟨i, hi, he⟩ := List.getElem_of_mem hy
        have hfi : fs[i]? = some y := by rw [← he]; simp [Array.getElem?_eq_getElem (by simpa using hi)]
        have h1 := hf i y hfi
        have hi' : i < xs.length := by rw [hlen]; simpa using hi
        rw [List.getElem?_eq_getElem hi'] at h1
        refine leavesU_ok n y.type l m _ _ hyl h1 (Nat.le_trans ?_ hw)
        rw [hx1]
        exact hB3 _ _ (List.mem_map_of_mem (List.getElem_mem hi')))
      simpa using this
    · rename_i m e ht
      split at h
      · rename_i l hl
        split at h
        · rename_i hc
          cases h
          obtain ⟨xs, q, _, hx1, hlen, hxl, hf⟩ := DataW.trod_array ht hx
          refine repsD_ok m cs (by rw [hlen, hc.2]) (fun i hi => ?_)
          have h1 := hf i hi
          rw [List.getElem?_eq_getElem (by omega)] at h1
          rw [hc.1] at h1
          refine leavesU_ok n e l q _ _ hl h1 (Nat.le_trans ?_ hw)
          rw [hx1]
          exact hB3 _ _ (List.mem_map_of_mem (List.getElem_mem _))
        · cases h
      · cases h
    · rename_i e ht
      split at h
      · rename_i l hl
        split at h
        · rename_i hc
          cases h
          obtain ⟨o, len, cap, q, rows, el, sp, rfl, h1, h2, h3, h4, h5, h6, h7⟩ := open_rowsD ht (by omega) hx
          refine FitsD.one ?_
          simp only [DLeaf.ok]
          refine ⟨o, len, cap, rows, rfl, h1, h2, ?_, by rw [← hc.1]; exact h4, fun r hr => ?_⟩
          · rcases h6 with h6 | ⟨h6, _⟩
            · have := hB1 el sp
              rw [← h6] at this
              simp only [reachBytes]
              omega
            · rw [h6]; simp
          · obtain ⟨j, hj, he⟩ := List.getElem_of_mem hr
            obtain ⟨hrl, y, hy, hey⟩ := h7 j r (by rw [List.getElem?_eq_getElem hj, he])
            refine leavesU_ok n e l q r y hl hy ?_
            rcases h6 with h6 | ⟨h6, _⟩
            · rw [h6] at hw
              exact Nat.le_trans (hB2 el sp _ (List.mem_of_getElem? hey)) hw
            · omega
        · cases h
      · cases h
    · cases h
end
end Go.Proofs.YtpjcfnnnciknmaaGreat.Tr
