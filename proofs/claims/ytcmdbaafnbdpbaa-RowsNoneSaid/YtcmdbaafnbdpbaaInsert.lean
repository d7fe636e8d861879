/- slices.Insert of one number. -/
import Derived.Test.YtcmdbaafnbdpbaaRowsM
set_option linter.unusedVariables false
set_option linter.unusedSimpArgs false
set_option maxRecDepth 100000
set_option maxHeartbeats 1000000
namespace Go.Proofs.Ytcmdbaafnbdpbaa
open Go hiding Expr
open Go.RowKit Tr

theorem sb_pos {g i cap : Nat} (h : i < cap) : sliceBase (some ⟨g, 0, none⟩) i cap 1 = some ⟨g, i, none⟩ := by
  unfold sliceBase
  rw [if_neg (by omega)]
  simp [add_plain]

theorem ins_room (A sp : List Value) (i : Nat) (x : Value) (hi : i ≤ A.length) (hsp : 1 ≤ sp.length) : setL (setL (A ++ sp) (i + 1) (A.drop i)) i [x] = A.take i ++ [x] ++ A.drop i ++ sp.drop 1 := by
  apply List.ext_getElem?
  intro k
  have h1 : (A.drop i).length = A.length - i := List.length_drop
  rw [setL_get _ _ _ (by rw [setL_len, List.length_append, List.length_singleton]; omega), setL_get _ _ _ (by rw [List.length_append]; omega), h1]
  simp only [List.length_singleton]
  have h2 : (A.take i).length = i := by rw [List.length_take]; omega
  rw [show A.take i ++ [x] ++ A.drop i ++ sp.drop 1 = A.take i ++ ([x] ++ (A.drop i ++ sp.drop 1)) by simp]
  rcases Nat.lt_or_ge k i with hk | hk
  · rw [if_neg (by omega), if_neg (by omega), List.getElem?_append_left (l₁ := A) (by omega), List.getElem?_append_left (l₁ := A.take i) (by omega), List.getElem?_take, if_pos hk]
  · rw [List.getElem?_append_right (l₁ := A.take i) (by omega), h2]
    rcases Nat.eq_or_lt_of_le hk with rfl | hk
    · rw [if_pos ⟨Nat.le_refl _, by omega⟩, Nat.sub_self]
      rfl
    · rw [if_neg (by omega), show k - i = (k - (i + 1)) + 1 by omega, List.cons_append, List.nil_append, List.getElem?_cons_succ]
      rcases Nat.lt_or_ge k (A.length + 1) with h | h
      · rw [if_pos ⟨by omega, by omega⟩, List.getElem?_append_left (by omega)]
      · rw [if_neg (by omega), List.getElem?_append_right (l₁ := A) (by omega), List.getElem?_append_right (l₁ := A.drop i) (by omega), List.getElem?_drop, h1]
        congr 1
        omega
theorem ins_grow (A Z sp : List Value) (i : Nat) (x : Value) (hi : i ≤ A.length) (hZ : Z.length = A.length + 1 - i) : setL (setL (A.take i ++ Z ++ sp) i [x]) (i + 1) (A.drop i) = A.take i ++ [x] ++ A.drop i ++ sp := by
  apply List.ext_getElem?
  intro k
  have h1 : (A.drop i).length = A.length - i := List.length_drop
  have h2 : (A.take i).length = i := by rw [List.length_take]; omega
  have h3 : (A.take i ++ Z ++ sp).length = i + Z.length + sp.length := by rw [List.length_append, List.length_append, h2]
  rw [setL_get _ _ _ (by rw [setL_len, h3, h1]; omega), setL_get _ _ _ (by rw [h3, List.length_singleton]; omega), h1]
  simp only [List.length_singleton]
  rw [show A.take i ++ [x] ++ A.drop i ++ sp = A.take i ++ ([x] ++ (A.drop i ++ sp)) by simp, show A.take i ++ Z ++ sp = A.take i ++ (Z ++ sp) by simp]
  rcases Nat.lt_or_ge k i with hk | hk
  · rw [if_neg (by omega), if_neg (by omega), List.getElem?_append_left (l₁ := A.take i) (by omega), List.getElem?_append_left (l₁ := A.take i) (by omega)]
  · rw [List.getElem?_append_right (l₁ := A.take i) (l₂ := [x] ++ (A.drop i ++ sp)) (by omega), List.getElem?_append_right (l₁ := A.take i) (l₂ := Z ++ sp) (by omega), h2]
    rcases Nat.eq_or_lt_of_le hk with rfl | hk
    · rw [if_neg (by omega), if_pos ⟨Nat.le_refl _, by omega⟩, Nat.sub_self]
      rfl
    · have hr : ([x] ++ (A.drop i ++ sp))[k - i]? = (A.drop i ++ sp)[k - (i + 1)]? := by
        rw [show k - i = (k - (i + 1)) + 1 by omega, List.cons_append, List.nil_append, List.getElem?_cons_succ]
      rw [hr]
      rcases Nat.lt_or_ge k (A.length + 1) with h | h
      · rw [if_pos ⟨by omega, by omega⟩, List.getElem?_append_left (l₁ := A.drop i) (by omega)]
      · rw [if_neg (by omega), if_neg (by omega), List.getElem?_append_right (l₁ := Z) (by omega), List.getElem?_append_right (l₁ := A.drop i) (by omega), h1]
        congr 1
        omega

theorem extOvl : extE Try.prog 45 = some (Extern.SlicesOverlaps.overlaps #[28, 28] #[4]) := by kernel_rfl
theorem size2 : (Try.prog.info? 2).map (·.size) = some 1 := by kernel_rfl
theorem sizeRun2 (w : World) : (Go.sizeOf 2).run Try.prog w = .ok 1 w := by rfl

section
variable {w w' w0 : World} {l : List Int} {m c : Hp} {n cap r : Nat} {o : Option Addr}
theorem ints_take (l : List Int) (i : Nat) : (ints l).take i = ints (l.take i) := by rw [ints_eq, ints_eq, List.map_take]
theorem ints_drop (l : List Int) (i : Nat) : (ints l).drop i = ints (l.drop i) := by rw [ints_eq, ints_eq, List.map_drop]
theorem Tr.Cells.shape {b : Nat} {ty : TypeId} {l : List Value} (h : Cells w b ty l) : w.shape? b = some (ty, l.length) := by
  unfold Cells at h
  unfold World.shape?
  rw [h]
  simp

theorem insert_c {i : Nat} {x : Int} (H : Has w0 w (c ++ cl r 2 [.int .i64 x] :: m)) (ho : OwnC 2 1 (.slice o n cap) n (ints l) c) (hn : n = l.length) (hi : i ≤ n) (hmax : (n + 1) * 8 ≤ 140737488355328) :
    Calls Try.prog 38 #[.slice o n cap, .int .i64 (i : Int), .slice (some ⟨r, 0, none⟩) 1 1] w fun e w' =>
      ∃ v c', e = .returned v ∧ OwnC 2 1 v (n + 1) (ints (l.take i ++ [x] ++ l.drop i)) c' ∧ Has w0 w' (c' ++ cl r 2 [.int .i64 x] :: m) := by
  apply c38
  have hil : (ints l).length = n := by rw [ints_len, hn]
  have hdl : ((ints l).drop i).length = n - i := by rw [List.length_drop, hil]
  have hone := fun u hu => ints_one l u (List.mem_of_mem_drop (i := i) hu)
  have hvx : ∀ u ∈ [Value.int .i64 x], u.oneCell' = true := by intro u hu; simp at hu; subst hu; rfl
  refine s_req ⟨by omega, by omega⟩ (s_ite (fun g => by simp at g) (fun _ => s_ite (fun g1 => ?_) (fun g1 => ?_)))
  · simp only [beq_iff_eq] at g1
    obtain rfl : i = n := by omega
    refine h_app1 elemI H cut_head ho (pick_app pick_head) rfl hvx (by omega) (by omega) ?_
    intro v' c' u ho' H
    obtain ⟨o', n', rfl⟩ := ho'.slice
    refine s_asS (s_ret ⟨_, c', rfl, ?_, H⟩)
    rw [hn, List.take_length, List.drop_length, List.append_nil, ints_append, ← hn]
    exact ho'
  · simp only [beq_eq_false_iff_ne, ne_eq] at g1
    have hlt : i < n := by omega
    obtain ⟨g, cap', sp, hv, rfl, hnc, hcm, hcl⟩ := ho.pos (by omega)
    cases hv
    rw [List.length_append, hil, Nat.mul_one] at hcl
    rw [w_add (i := n) (j := 1) (by omega), w_add (i := i) (j := 1) (by omega)]
    have hsrc : Reads w ⟨g, i, none⟩ ((ints l).drop i) := by
      intro k u hu
      rw [List.getElem?_drop] at hu
      have := (H.cells pick_head).cell (i := i + k) (v := u) (by rw [List.getElem?_append_left (by exact (List.getElem?_eq_some_iff.1 hu).1)]; exact hu)
      rw [add_plain]
      exact this
    refine s_ite (fun g2 => ?_) (fun g2 => ?_)
    · simp only [decide_eq_true_eq] at g2
      have hcn : cap = n := by omega
      refine s_req ⟨by omega, by omega⟩ ?_
      rw [sb_zero, Int.toNat_natCast]
      rw [w_sub (i := n + 1) (j := i) (by omega) (by omega)]
      refine h_appGrowZeros elemI (tn := 3) (kn := .i64) (by kernel_rfl) H pick_head rfl (by omega) (by omega) (by rw [List.length_append]; omega) (by omega) (by omega) ?_
      intro r2 cap2 sp2 u h1 h2 h3 H
      rw [Nat.mul_one] at h3
      have htk : (ints l ++ sp).take (i * 1) = (ints l).take i := by rw [Nat.mul_one, List.take_append_of_le_length (by omega)]
      rw [htk] at H
      refine s_asS (s_req ⟨by omega, by omega⟩ ?_)
      have hZ : (Builtin.zeroCells (Value.int .i64 0).cells (n + 1 - i)).toList.length = (ints l).length + 1 - i := by
        rw [Array.length_toList, size_zeroCells, hil]
        have : (Value.int .i64 0).cells.size = 1 := rfl
        rw [this, Nat.mul_one]
      rw [sb_pos (by omega)]
      refine h_copy (by kernel_rfl) size2 H pick_head (news := [.int .i64 x]) (H.cells (pick_tail (pick_app pick_head))).reads ?_ ?_ hvx fun u H => ?_
      · rw [List.length_singleton, Nat.min_def]; split <;> omega
      · rw [List.length_append, List.length_append, hZ, List.length_take, hil, List.length_singleton]
        omega
      refine s_asI (h_drew H fun u H => s_req ⟨by omega, by omega⟩ (s_req ⟨by omega, by omega⟩ ?_))
      simp only [Int.toNat_natCast]
      rw [sb_pos (show i + 1 < cap2 by omega), sb_pos (show i < cap by omega)]
      have hsrc2 : Reads u ⟨g, i, none⟩ ((ints l).drop i) := by
        intro k u2 hu
        rw [List.getElem?_drop] at hu
        have := (H.cells (pick_tail pick_head)).cell (i := i + k) (v := u2) (by rw [List.getElem?_append_left (by exact (List.getElem?_eq_some_iff.1 hu).1)]; exact hu)
        rw [add_plain]
        exact this
      refine h_copy (by kernel_rfl) size2 H pick_head hsrc2 ?_ ?_ hone fun u H => ?_
      · rw [hdl, Nat.min_def]; split <;> omega
      · rw [setL_len, List.length_append, List.length_append, hZ, List.length_take, hil, hdl]
        omega
      rw [ins_grow _ _ _ _ _ (by omega) hZ] at H
      refine s_asI (s_chk c_nil (s_ret ⟨_, [cl r2 2 (ints (l.take i ++ [x] ++ l.drop i) ++ sp2)], rfl, ⟨?_, .inr ⟨r2, cap2, sp2, ?_, rfl, by omega, h2, ?_⟩⟩, ?_⟩))
      · rw [ints_len]
        simp only [List.length_append, List.length_take, List.length_drop, List.length_singleton]
        omega
      · congr 1
        omega
      · rw [List.length_append, ints_len, h3]
        simp only [List.length_append, List.length_take, List.length_drop, List.length_singleton]
        omega
      · have e1 : ints (l.take i ++ [x] ++ l.drop i) = (ints l).take i ++ [.int .i64 x] ++ (ints l).drop i := by
          rw [ints_append, ints_append, ints_take, ints_drop]; rfl
        rw [e1]
        exact H.sub (by repeat (first | exact sb_refl | exact sb_nil | refine sb_cons (by repeat (first | exact pick_head | apply pick_tail | apply pick_app)) ?_ | refine sb_app (by repeat (first | exact cut_head | exact cut_all | apply cut_tail | apply cut_app)) ?_ | exact sb_one (by repeat (first | exact cut_head | exact cut_all | apply cut_tail | apply cut_app))))
    · simp only [decide_eq_false_iff_not] at g2
      refine s_req ⟨by omega, by omega⟩ (s_req ⟨by omega, by simp only [Int.toNat_natCast]; omega⟩ ?_)
      simp only [Int.toNat_natCast]
      rw [sb_zero, sb_pos (show i + 1 < cap by omega), sb_pos (show i < cap by omega)]
      have hcr := H.cells (pick_app pick_head)
      have hcg := H.cells (pick_app (c := []) pick_head)
      have hov := Go.Lib.run_overlaps_apart (P := Try.prog) w 28 4 2 (by kernel_rfl) 1 sizeRun2 ⟨r, 0, none⟩ ⟨g, i + 1, none⟩ 1 1 (n + 1 - (i + 1)) (cap - (i + 1))
        (by
          have hn := H.nodup
          simp only [List.map_append, List.map_cons, List.map_nil, List.singleton_append, List.nodup_cons, List.mem_cons, not_or] at hn
          exact fun e => hn.1.1 e.symm) 2 2 1 _ hcr.shape (H.cells pick_head).shape (by rw [List.length_append]; omega) (hcr.frozen _) (hcr.frozen _)
      refine s_run (v := .bool false) (w' := w) (by rw [run_extV extOvl]; exact hov) ?_
      refine s_asB (s_true rfl (h_drew H fun u H => s_req ⟨by omega, by omega⟩ (s_req ⟨by omega, by omega⟩ ?_)))
      have hsrc2 : Reads u ⟨g, i, none⟩ ((ints l).drop i) := by
        intro k u2 hu
        rw [List.getElem?_drop] at hu
        have := (H.cells pick_head).cell (i := i + k) (v := u2) (by rw [List.getElem?_append_left (by exact (List.getElem?_eq_some_iff.1 hu).1)]; exact hu)
        rw [add_plain]
        exact this
      refine h_copy (by kernel_rfl) size2 H pick_head hsrc2 ?_ ?_ hone fun u H => ?_
      · rw [hdl, Nat.min_def]; split <;> omega
      · rw [List.length_append, hdl, hil]; omega
      refine s_asI (s_chk c_nil (s_req ⟨by omega, by omega⟩ ?_))
      refine h_copy (by kernel_rfl) size2 H pick_head (news := [.int .i64 x]) (H.cells (pick_tail pick_head)).reads ?_ ?_ hvx fun u H => ?_
      · rw [List.length_singleton, Nat.min_def]; split <;> omega
      · rw [setL_len, List.length_append, List.length_singleton]; omega
      rw [ins_room _ _ _ _ (by omega) (by omega)] at H
      refine s_asI (s_ret ⟨_, [cl g 2 (ints (l.take i ++ [x] ++ l.drop i) ++ sp.drop 1)], rfl, ⟨?_, .inr ⟨g, cap, sp.drop 1, rfl, rfl, by omega, hcm, ?_⟩⟩, ?_⟩)
      · rw [ints_len]
        simp only [List.length_append, List.length_take, List.length_drop, List.length_singleton]
        omega
      · rw [List.length_append, ints_len]
        simp only [List.length_append, List.length_take, List.length_drop, List.length_singleton]
        omega
      · have e1 : ints (l.take i ++ [x] ++ l.drop i) = (ints l).take i ++ [.int .i64 x] ++ (ints l).drop i := by
          rw [ints_append, ints_append, ints_take, ints_drop]; rfl
        rw [e1]
        exact H.sub (by repeat (first | exact sb_refl | exact sb_nil | refine sb_cons (by repeat (first | exact pick_head | apply pick_tail | apply pick_app)) ?_ | refine sb_app (by repeat (first | exact cut_head | exact cut_all | apply cut_tail | apply cut_app)) ?_ | exact sb_one (by repeat (first | exact cut_head | exact cut_all | apply cut_tail | apply cut_app))))
end
end Go.Proofs.Ytcmdbaafnbdpbaa
