/- A row of bytes made out of a string, and what is appended to it. -/
import Derived.Test.YtihipcofjpnfbaaGreatDoorHex
import Derived.Lib.FrozenHead
set_option linter.unusedVariables false
set_option linter.unusedSimpArgs false
set_option maxRecDepth 100000
set_option maxHeartbeats 2000000
namespace Go.Proofs.YtihipcofjpnfbaaGreatDoor
open Go hiding Expr
open Go.RowKit Tr

theorem storeG (P : Program) (g o : Nat) (t : TypeId) (fz : Nat × Nat) : ∀ (vs : List Value) (i : Nat) (cur : Array Value) (w : World), w.heap[g]? = some (.cells cur t fz) → (fz.2 = 0 ∨ cur.size ≤ fz.1) → o + i + vs.length ≤ cur.size → (∀ v ∈ vs, v.oneCell' = true) →
    (storeCells ⟨g, o, none⟩ vs i).run P w = .ok () (w.setRow g (cur.toList.take (o + i) ++ vs ++ cur.toList.drop (o + i + vs.length)).toArray)
  | [], i, cur, w, hg, _, _, _ => by
    simp only [storeCells, List.append_nil, List.length_nil, Nat.add_zero, List.take_append_drop, Array.toArray_toList]
    rw [setRow_self w g cur t fz hg]
    rfl
  | v :: rest, i, cur, w, hg, hfz, hl, h1 => by
    have hi : o + i < cur.size := by simp at hl; omega
    have hadd : (⟨g, o, none⟩ : Addr).add i = ⟨g, o + i, none⟩ := by unfold Addr.add; split <;> simp_all
    have hcell : w.cell? ⟨g, o + i, none⟩ = some cur[o + i] := by simp [World.cell?, hg, hi]
    have hfro : w.frozen? ⟨g, o + i, none⟩ = false := by
      obtain ⟨lo, hi'⟩ := fz
      simp only [World.frozen?, hg, Bool.and_eq_false_iff, decide_eq_false_iff_not]
      simp only at hfz
      rcases hfz with h | h
      · right; omega
      · left; omega
    have hst : (store ((⟨g, o, none⟩ : Addr).add i) v).run P w = .ok () (w.setRow g (cur.setIfInBounds (o + i) v)) := by
      rw [hadd, run_store P w _ v _ (h1 v (by simp)), hcell]
      simp [hfro, setCell_eq_setRow w g (o + i) cur t fz v hg]
    have ih := storeG P g o t fz rest (i + 1) (cur.setIfInBounds (o + i) v) (w.setRow g (cur.setIfInBounds (o + i) v)) (setRow_heap w g cur _ t _ hg) (by rw [Array.size_setIfInBounds]; exact hfz) (by simp at hl ⊢; omega) (fun x hx => h1 x (by simp [hx]))
    simp only [storeCells, Sem.run_bind, hst, Result.andThen_ok, ih, setRow_setRow]
    congr 3
    have e := list_seg_step cur.toList (o + i) v rest (by simp at hl ⊢; omega)
    simpa [Array.toList_setIfInBounds, Nat.add_assoc] using e

structure BO (B : Nat) (w : World) (o : Option Addr) (n cap : Nat) (l : List UInt8) : Prop where
  len : n = l.length
  ex : ∃ g cur fz, o = some ⟨g, 0, none⟩ ∧ B ≤ g ∧ w.heap[g]? = some (.cells cur 5 fz) ∧ (fz.2 = 0 ∨ cur.size ≤ fz.1) ∧ n ≤ cap ∧ cap ≤ maxLen ∧ cur.size = cap ∧ cur.toList.take n = Lib.byteCells l

section
variable {Q : Ending → World → Prop} {ρ : Lv} {B : Nat} {w w' : World} {o : Option Addr} {n cap : Nat} {l s : List UInt8} {k : Value → T}
theorem BO.fr (h : BO B w o n cap l) (hf : Fr [] w w') : BO B w' o n cap l := by
  obtain ⟨h1, g, cur, fz, h2, h3, h4, h5⟩ := h
  exact ⟨h1, g, cur, fz, h2, h3, (hf.block g (Array.getElem?_eq_some_iff.1 h4).1 (by simp)).trans h4, h5⟩
theorem BO.at (h : BO B w o n cap l) : BytAt w o (u8 l) := by
  obtain ⟨h1, g, cur, fz, rfl, h3, h4, h5, h6, h7, h8, h9⟩ := h
  refine .inr ⟨g, 0, rfl, (Array.getElem?_eq_some_iff.1 h4).1, fun j r hr i v hv => ?_⟩
  rw [List.getElem?_map] at hr
  obtain ⟨x, hx, rfl⟩ := Option.map_eq_some_iff.1 hr
  have hi : i = 0 := by
    have := (List.getElem?_eq_some_iff.1 hv).1
    simp [br] at this
    exact this
  subst hi
  have hv' : v = .int .u8 x := by simpa [br] using hv.symm
  subst hv'
  have hj : j < l.length := by
    have := (List.getElem?_eq_some_iff.1 hx).1
    rwa [u8_len] at this
  have hg : (cur.toList.take n)[j]? = some (.int .u8 x) := by
    rw [h9, ← byts_u8, byts_eq, List.getElem?_map, hx]
    rfl
  rw [List.getElem?_take, if_pos (by omega)] at hg
  have e : 0 + j * 1 + 0 = j := by omega
  rw [e]
  simp only [World.cell?, h4]
  simpa using hg

theorem setRow_below {w : World} {g : Nat} {row : Array Value} (hB : B ≤ g) : Below B w (w.setRow g row) :=
  ⟨rfl, rfl, rfl, by simp, fun k hk => setRow_other w g k _ (by omega)⟩

theorem bo_room {g : Nat} {cur : Array Value} {fz : Nat × Nat} (h1 : n = l.length) (h3 : B ≤ g) (h4 : w.heap[g]? = some (.cells cur 5 fz)) (h5 : fz.2 = 0 ∨ cur.size ≤ fz.1) (h7 : cap ≤ maxLen) (h8 : cur.size = cap) (h9 : cur.toList.take n = Lib.byteCells l) (hroom : n + s.length ≤ cap) :
    BO B (w.setRow g (cur.toList.take n ++ Lib.byteCells s ++ cur.toList.drop (n + s.length)).toArray) (some ⟨g, 0, none⟩) (n + s.length) cap (l ++ s) := by
  have hsz : ((cur.toList.take n ++ Lib.byteCells s ++ cur.toList.drop (n + s.length)).toArray).size = cap := by
    simp only [List.size_toArray, List.length_append, List.length_take, List.length_drop, Array.length_toList, Lib.byteCells_length]
    omega
  refine ⟨by rw [List.length_append, h1], g, _, fz, rfl, h3, setRow_heap w g cur _ _ _ h4, ?_, hroom, h7, hsz, ?_⟩
  · rw [hsz, ← h8]; exact h5
  · rw [byteCells_append, h9]
    have e : (Lib.byteCells l ++ Lib.byteCells s).length = n + s.length := by rw [List.length_append, Lib.byteCells_length, Lib.byteCells_length, h1]
    rw [← e]
    exact List.take_left

theorem s_toBytes (hB : B ≤ w.heap.size) (hl : l.length ≤ 140737488355328) (hk : ∀ o n cap w', BO B w' o n cap l → Fr [] w w' → (k (.slice o n cap)).sem Tryz.prog Q ρ w') : (T.run (convert 9 35 (.string (S l))) k).sem Tryz.prog Q ρ w := by
  have hml : l.length ≤ maxLen := by simp only [maxLen]; omega
  have hge := grownCap_ge w (S l).size 0 5
  have hcm := grownCap_le_maxLen w (S l).size 0 5 (by rw [S_size]; exact hml)
  have hsz : (bytesRow (S l) (grownCap w (S l).size 0 5)).size = grownCap w (S l).size 0 5 := by
    unfold bytesRow
    rw [Array.size_append, Array.size_map, Array.size_replicate]
    have : (S l).data.size = (S l).size := rfl
    omega
  refine ⟨_, _, run_bytes_of_string w 9 35 5 (S l) strT bytesT byteT, ?_⟩
  refine hk _ _ _ _ ⟨S_size l, w.heap.size, _, _, rfl, hB, heap_alloc_new w.drew _, .inr (by simp), by exact hge, hcm, hsz, ?_⟩ ⟨rfl, rfl, rfl, by simp, fun k hk _ => heap_alloc_old w.drew _ k hk⟩
  unfold bytesRow
  rw [Array.toList_append, List.take_left' (by simp [S_size])]
  simp [Lib.byteCells]

theorem s_boStr {ty : TypeId} (h : BO B w o n cap l) (hB : B ≤ w.heap.size) (hl : n + s.length ≤ 140737488355328) (hk : ∀ o' cap' w', BO B w' o' (n + s.length) cap' (l ++ s) → Below B w w' → (k (.slice o' (n + s.length) cap')).sem Tryz.prog Q ρ w') :
    (T.run (biV .append #[35, 9] ty #[.slice o n cap, .string (S s)]) k).sem Tryz.prog Q ρ w := by
  obtain ⟨h1, g, cur, fz, rfl, h3, h4, h5, h6, h7, h8, h9⟩ := h
  have hinfo := elemB.info
  cases hi : Tryz.prog.info? 5 with
  | none => rw [hi] at hinfo; simp at hinfo
  | some i =>
    rw [hi] at hinfo
    simp only [Option.map_some, Option.some.injEq, Prod.mk.injEq] at hinfo
    obtain ⟨hz, hs, hby⟩ := hinfo
    have hss : (S s).size = s.length := S_size s
    by_cases hroom : n + s.length ≤ cap
    · have hf : (Builtin.firstCells 1 s.length (.string (S s))).run Tryz.prog w = .ok (Lib.byteCells s).toArray w := hss ▸ Lib.run_firstCells_string (P := Tryz.prog) w 1 (S s)
      have hst := storeG Tryz.prog g n 5 fz (Lib.strCells (S s)) 0 cur w h4 h5 (by rw [Lib.strCells_length, hss]; omega) (Lib.strCells_oneCell (S s))
      simp only [Nat.add_zero, Lib.strCells_length] at hst
      rw [hss] at hst
      refine ⟨_, _, ?_, hk _ cap _ (bo_room (s := s) h1 h3 h4 h5 h7 h8 h9 hroom) (setRow_below h3)⟩
      simp only [biV]
      rw [show (Lib.strCells (S s)) = Lib.byteCells s from rfl] at hst
      simp [Builtin.append_, run_underlying bytesT, run_underlying strT, sizeOf, typeInfo, hi, hs, Builtin.lenOf, hss, hroom, hf, Addr.add_lit, hst]
    · have holds : ∀ j v, (Lib.byteCells l)[j]? = some v → w.cell? ((⟨g, 0, none⟩ : Addr).add j) = some v := by
        intro j v hv
        have hadd : (⟨g, 0, none⟩ : Addr).add j = ⟨g, j, none⟩ := by unfold Addr.add; split <;> simp_all
        rw [hadd]
        have hj : j < l.length := by have := (List.getElem?_eq_some_iff.1 hv).1; rwa [Lib.byteCells_length] at this
        rw [← h9, List.getElem?_take, if_pos (by omega)] at hv
        simp only [World.cell?, h4]
        simpa using hv
      have hml : n + s.length ≤ maxLen := by simp only [maxLen]; omega
      have hr := Lib.run_append_grow_string (P := Tryz.prog) w 35 9 ty 5 i (.int .u8 0) bytesT strT hi hz ⟨g, 0, none⟩ n cap (Lib.byteCells l) (by rw [hs, Lib.byteCells_length]; omega) holds (S s) (by omega) (by omega) (by rw [hby]; exact growslice_fits (by omega) (by omega))
      have hge := grownCap_ge w (n + (S s).size) cap 5
      have hcm := grownCap_le_maxLen w (n + (S s).size) cap 5 (by omega)
      refine ⟨_, _, hr, ?_⟩
      rw [hss] at hge hcm ⊢
      refine hk _ _ _ ⟨by rw [List.length_append, h1], w.heap.size, _, (0, 0), rfl, hB, heap_alloc_new w.drew _, .inl rfl, hge, hcm, ?_, ?_⟩ ⟨rfl, rfl, rfl, by simp, fun k hk => heap_alloc_old w.drew _ k (show k < w.heap.size by omega)⟩
      · have hz1 : (Value.int IntKind.u8 0).cells.size = 1 := rfl
        simp only [Array.size_append, List.size_toArray, size_zeroCells, hz1, Lib.byteCells_length, Lib.strCells_length]
        omega
      · simp only [Array.toList_append, List.append_assoc]
        rw [show (Lib.strCells (S s)) = Lib.byteCells s from rfl, byteCells_append, ← List.append_assoc]
        have e : (Lib.byteCells l ++ Lib.byteCells s).length = n + s.length := by rw [List.length_append, Lib.byteCells_length, Lib.byteCells_length, h1]
        rw [← e]
        exact List.take_left

theorem s_boCells {ty : TypeId} {a : Addr} {c m : Nat} (h : BO B w o n cap l) (hB : B ≤ w.heap.size) (hm : m = s.length) (hnews : Reads w a (Lib.byteCells s)) (hl : n + s.length ≤ 140737488355328) (hk : ∀ o' cap' w', BO B w' o' (n + s.length) cap' (l ++ s) → Below B w w' → (k (.slice o' (n + s.length) cap')).sem Tryz.prog Q ρ w') :
    (T.run (biV .append #[35, 35] ty #[.slice o n cap, .slice (some a) m c]) k).sem Tryz.prog Q ρ w := by
  subst hm
  obtain ⟨h1, g, cur, fz, rfl, h3, h4, h5, h6, h7, h8, h9⟩ := h
  have hinfo := elemB.info
  cases hi : Tryz.prog.info? 5 with
  | none => rw [hi] at hinfo; simp at hinfo
  | some i =>
    rw [hi] at hinfo
    simp only [Option.map_some, Option.some.injEq, Prod.mk.injEq] at hinfo
    obtain ⟨hz, hs, hby⟩ := hinfo
    have hone : ∀ v ∈ Lib.byteCells s, v.oneCell' = true := by
      intro v hv
      obtain ⟨b, _, rfl⟩ := List.mem_map.1 hv
      rfl
    by_cases hroom : n + s.length ≤ cap
    · have hf := run_firstCells_some (P := Tryz.prog) w i.size s.length a s.length c (Lib.byteCells s) (by rw [hs, Lib.byteCells_length]; omega) hnews
      have hst := storeG Tryz.prog g n 5 fz (Lib.byteCells s) 0 cur w h4 h5 (by rw [Lib.byteCells_length]; omega) hone
      simp only [Nat.add_zero, Lib.byteCells_length] at hst
      rw [hs] at hf
      refine ⟨_, _, ?_, hk _ cap _ (bo_room (s := s) h1 h3 h4 h5 h7 h8 h9 hroom) (setRow_below h3)⟩
      simp only [biV]
      simp [Builtin.append_, run_underlying bytesT, sizeOf, typeInfo, hi, hs, Builtin.lenOf, hroom, hf, Addr.add_lit, hst]
    · have holds : ∀ j v, (Lib.byteCells l)[j]? = some v → w.cell? ((⟨g, 0, none⟩ : Addr).add j) = some v := by
        intro j v hv
        have hadd : (⟨g, 0, none⟩ : Addr).add j = ⟨g, j, none⟩ := by unfold Addr.add; split <;> simp_all
        rw [hadd]
        have hj : j < l.length := by have := (List.getElem?_eq_some_iff.1 hv).1; rwa [Lib.byteCells_length] at this
        rw [← h9, List.getElem?_take, if_pos (by omega)] at hv
        simp only [World.cell?, h4]
        simpa using hv
      have hml : n + s.length ≤ maxLen := by simp only [maxLen]; omega
      have hr := run_append_grow (P := Tryz.prog) w 35 ty 5 i (.int .u8 0) bytesT hi hz ⟨g, 0, none⟩ n cap (Lib.byteCells l) (by rw [hs, Lib.byteCells_length]; omega) holds a s.length c (Lib.byteCells s) (by rw [hs, Lib.byteCells_length]; omega) hnews (by omega) (by omega) (by rw [hby]; exact growslice_fits (by omega) (by omega))
      have hge := grownCap_ge w (n + s.length) cap 5
      have hcm := grownCap_le_maxLen w (n + s.length) cap 5 (by omega)
      refine ⟨_, _, hr, ?_⟩
      refine hk _ _ _ ⟨by rw [List.length_append, h1], w.heap.size, _, (0, 0), rfl, hB, heap_alloc_new w.drew _, .inl rfl, hge, hcm, ?_, ?_⟩ ⟨rfl, rfl, rfl, by simp, fun k hk => heap_alloc_old w.drew _ k (show k < w.heap.size by omega)⟩
      · have hz1 : (Value.int IntKind.u8 0).cells.size = 1 := rfl
        simp only [Array.size_append, List.size_toArray, size_zeroCells, hz1, Lib.byteCells_length]
        omega
      · simp only [Array.toList_append, List.append_assoc]
        rw [byteCells_append, ← List.append_assoc]
        have e : (Lib.byteCells l ++ Lib.byteCells s).length = n + s.length := by rw [List.length_append, Lib.byteCells_length, Lib.byteCells_length, h1]
        rw [← e]
        exact List.take_left
end
end Go.Proofs.YtihipcofjpnfbaaGreatDoor
