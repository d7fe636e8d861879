/- Strings: numbers as words, words joined, bytes as words: the library's contracts in the words of this walk. -/
import Derived.Test.YtihipcofjpnfbaaGreatDoorByt
import Derived.Test.YtihipcofjpnfbaaGreatDoorTreesA
import Derived.Test.YtihipcofjpnfbaaGreatDoorShelf
import Derived.Lib.AppendIntMem
import Derived.Lib.ItoaLen
set_option linter.unusedVariables false
set_option linter.unusedSimpArgs false
set_option maxRecDepth 100000
set_option maxHeartbeats 1000000
namespace Go.Proofs.YtihipcofjpnfbaaGreatDoor
open Go hiding Expr
open Go.RowKit Tr

/-! ### Strings by their bytes -/
theorem wrapI {n : Int} (h1 : -9223372036854775808 ≤ n) (h2 : n ≤ 9223372036854775807) : IntKind.wrap .i64 n = n := by
  rw [IntKind.wrap_i64]; omega
theorem w_add {i j : Nat} (h : i + j < 9223372036854775807) : IntKind.wrap .i64 ((i : Int) + (j : Int)) = ((i + j : Nat) : Int) := by rw [wrapI (by omega) (by omega)]; rfl
theorem w_succ {i : Nat} (h : i < 9223372036854775807) : IntKind.wrap .i64 ((i : Int) + 1) = ((i + 1 : Nat) : Int) := by rw [wrapI (by omega) (by omega)]; rfl
abbrev S (l : List UInt8) : ByteArray := ⟨l.toArray⟩
theorem S_app (a b : List UInt8) : S a ++ S b = S (a ++ b) := by
  apply ByteArray.ext
  show (S a ++ S b).data = _
  rw [ByteArray.data_append]
  simp [S]
theorem S_size (a : List UInt8) : (S a).size = a.length := by simp [S, ByteArray.size]
theorem S_list (a : List UInt8) : (S a).data.toList = a := by simp [S]
theorem S_inj {a b : List UInt8} (h : S a = S b) : a = b := by
  have := congrArg (fun x : ByteArray => x.data.toList) h
  simpa using this
theorem S_eq (s : ByteArray) : s = S s.data.toList := by cases s; simp [S]

theorem Tr.Fr.of_below {w w' : World} (h : Below w.heap.size w w') : Fr [] w w' := ⟨h.os, h.tape, h.output, h.size, fun k hk _ => h.block k hk⟩
theorem Tr.Fr.below {w w' : World} {B : Nat} (h : Fr [] w w') (hB : B ≤ w.heap.size) : Below B w w' := ⟨h.os, h.tape, h.output, h.size, fun k hk => h.block k (Nat.lt_of_lt_of_le hk hB) (by simp)⟩

/-- The library's table of powers of ten. -/
abbrev Tab (w : World) : Prop := Lib.TabIs Tryz.prog w "internal/strconv.uint64pow10" .u64 Lib.pow10Tab
theorem Tab.fr {w w' : World} (h : Tab w) (hf : Fr [] w w') : Tab w' := Lib.tabBelow_of_tabIs h w' (hf.below (Nat.le_refl _))

abbrev dI (n : Int) : List UInt8 := Lib.itoa n
abbrev dU (n : Nat) : List UInt8 := Lib.decDigits n
def In64 (n : Int) : Prop := -9223372036854775808 ≤ n ∧ n ≤ 9223372036854775807
theorem dI_len {n : Int} (h : In64 n) : (dI n).length ≤ 21 := Lib.itoa_length_le n h.1 h.2
theorem dU_len {n : Nat} (h : n < 18446744073709551616) : (dU n).length ≤ 20 := by
  rw [Lib.decDigits_length]
  rcases Nat.eq_zero_or_pos n with rfl | hn
  · show Lib.nDigits 0 ≤ 20
    simp [Lib.nDigits]
  · have := Lib.numDigits_eq n hn h
    split at this <;> omega

section
variable {w : World} {n : Int}
theorem fint_c (hT : Tab w) (h : In64 n) : Calls Tryz.prog 50 #[.int .i64 n, .int .i64 10] w fun e w' => e = .returned (.string (S (dI n))) ∧ Fr [] w w' := by
  refine (Tryz.strconv_FormatInt_10 n h.1 h.2 w hT).mono ?_
  rintro e w' ⟨rfl, k, os, rfl⟩
  refine ⟨rfl, rfl, rfl, rfl, ?_, fun k hk _ => ?_⟩
  · simp [Sort.grow, World.drewN]
  · simp [Sort.grow, World.drewN, Array.getElem?_append, hk]
theorem numI_c (hT : Tab w) (h : In64 n) : Calls Tryz.prog 24 #[.int .i64 n] w fun e w' => e = .returned (.string (S (dI n))) ∧ Fr [] w w' := by
  apply c24
  refine s_call (fint_c hT h) ?_
  rintro _ u ⟨rfl, f⟩
  exact ⟨_, rfl, s_asT (s_ret ⟨rfl, f⟩)⟩
theorem num64_c (hT : Tab w) (h : In64 n) : Calls Tryz.prog 99 #[.int .i64 n] w fun e w' => e = .returned (.string (S (dI n))) ∧ Fr [] w w' := by
  apply c99
  refine s_call (fint_c hT h) ?_
  rintro _ u ⟨rfl, f⟩
  exact ⟨_, rfl, s_asT (s_ret ⟨rfl, f⟩)⟩
theorem num32_c (hT : Tab w) (h0 : -2147483648 ≤ n) (h1 : n ≤ 2147483647) : Calls Tryz.prog 110 #[.int .i32 n] w fun e w' => e = .returned (.string (S (dI n))) ∧ Fr [] w w' := by
  apply c110
  unfold t110
  rw [wrapI (by omega) (by omega)]
  refine s_call (fint_c hT ⟨by omega, by omega⟩) ?_
  rintro _ u ⟨rfl, f⟩
  exact ⟨_, rfl, s_asT (s_ret ⟨rfl, f⟩)⟩
theorem rnum_c (hT : Tab w) (h : In64 n) : Calls Tryz.prog 82 #[.int .i64 n] w fun e w' => e = .returned (.string (S (dI n))) ∧ Fr [] w w' := by
  apply c82
  refine s_call (fint_c hT h) ?_
  rintro _ u ⟨rfl, f⟩
  exact ⟨_, rfl, s_asT (s_ret ⟨rfl, f⟩)⟩
theorem itoa_c (hT : Tab w) (h : In64 n) : Calls Tryz.prog 54 #[.int .i64 n] w fun e w' => e = .returned (.string (S (dI n))) ∧ Fr [] w w' := by
  apply c54
  unfold t54
  try rw [wrapI (by have := h.1; omega) (by have := h.2; omega)]
  refine s_call (rnum_c hT h) ?_
  rintro _ u ⟨rfl, f⟩
  exact ⟨_, rfl, s_asT (s_ret ⟨rfl, f⟩)⟩
end

/-! ### Words joined -/
def sr (l : List UInt8) : List Value := [.string (S l)]
theorem sr1 (l : List (List UInt8)) : ∀ r ∈ l.map sr, r.length = 1 := by
  intro r hr
  obtain ⟨x, _, rfl⟩ := List.mem_map.1 hr
  rfl
theorem sr_one (l : List (List UInt8)) : ∀ r ∈ l.map sr, ∀ u ∈ r, u.oneCell' = true := by
  intro r hr u hu
  obtain ⟨x, _, rfl⟩ := List.mem_map.1 hr
  simp [sr] at hu
  subst hu
  rfl
def strs (l : List (List UInt8)) : List Value := (l.map sr).flatten
theorem strs_len (l : List (List UInt8)) : (strs l).length = l.length := by unfold strs; rw [flat_len (sr1 l), List.length_map]; omega
theorem strs_append (a b : List (List UInt8)) : strs (a ++ b) = strs a ++ strs b := by simp [strs]
def StrsAt (w : World) (o : Option Addr) (l : List (List UInt8)) : Prop := RowsAt w o 1 (l.map sr)
theorem strsAt_own {w w0 : World} {o : Option Addr} {n cap : Nat} {l : List (List UInt8)} {c m m' : Hp} {e : TypeId} (ho : OwnC e 1 (.slice o n cap) n (strs l) c) (H : Has w0 w m) (hp : Cut c m m') : StrsAt w o l := rowsAt_own (sr1 l) (by decide) ho H hp

abbrev joinL (l : List (List UInt8)) : List UInt8 := Lib.join l [32]
theorem join_c {w : World} {o : Option Addr} {n cap : Nat} {l : List (List UInt8)} (h : StrsAt w o l) (hn : n = l.length) (hcap : n ≤ cap) (hne : l ≠ []) (h1 : l.length ≤ 140737488355328) (h2 : (joinL l).length ≤ 140737488355328) :
    Calls Tryz.prog 23 #[.slice o n cap] w fun e w' => e = .returned (.string (S (joinL l))) ∧ Fr [] w w' := by
  subst hn
  obtain ⟨x0, r0, hl⟩ : ∃ x r, l = x :: r := by cases l with | nil => exact absurd rfl hne | cons x r => exact ⟨x, r, rfl⟩
  obtain ⟨g, off, rfl, hg, _⟩ := RowsAt.at h (j := 0) (r := sr x0) (by rw [hl]; rfl)
  have hcells : ∀ (j : Nat) x, (l.map S)[j]? = some x → w.cell? ⟨g, off + j, none⟩ = some (.string x) := by
    intro j x hx
    rw [List.getElem?_map] at hx
    obtain ⟨y, hy, rfl⟩ := Option.map_eq_some_iff.1 hx
    obtain ⟨g', off', he, _, hc⟩ := RowsAt.at h (j := j) (r := sr y) (by rw [List.getElem?_map, hy]; rfl)
    simp only [Option.some.injEq, Addr.mk.injEq] at he
    obtain ⟨rfl, rfl, _⟩ := he
    have := hc 0 _ rfl
    rwa [Nat.mul_one, Nat.add_zero] at this
  have hm : (l.map S).map (·.data.toList) = l := by
    rw [List.map_map]
    exact List.map_id' l
  have hs : (⟨#[32]⟩ : ByteArray).data.toList = [32] := rfl
  apply c23
  unfold t23
  refine s_call2 (R := fun e w' => e = .returned (.string (S (joinL l))) ∧ Fr [] w w') ?_ ?_
  · have hj := Tryz.strings_Join g off cap (l.map S) ⟨#[32]⟩ w hcells hg (by simpa using h1) (by simpa using hcap) (by rw [hm, hs]; exact h2)
    rw [hm, hs, List.length_map] at hj
    exact hj.mono fun e w' ⟨he, hb⟩ => ⟨he, Fr.of_below hb⟩
  · rintro _ u ⟨rfl, f⟩
    exact ⟨_, rfl, s_asT (s_ret ⟨rfl, f⟩)⟩

/-- Lengths of what is joined. -/
theorem joinL_le {l : List (List UInt8)} {b : Nat} (h : ∀ x ∈ l, x.length ≤ b) : (joinL l).length ≤ l.length * (b + 1) := by
  cases l with
  | nil => simp [Lib.join_nil]
  | cons x r =>
    show (Lib.join (x :: r) [32]).length ≤ _
    rw [Lib.join_cons, List.length_append, List.length_cons, Nat.add_mul]
    have h1 : (Lib.joinTail [32] r).length ≤ r.length * (b + 1) := by
      have h' : ∀ y ∈ r, y.length ≤ b := fun y hy => h y (List.mem_cons_of_mem _ hy)
      clear h
      induction r with
      | nil => simp [Lib.joinTail]
      | cons y r ih =>
        have h2 := h' y (List.mem_cons_self ..)
        have h3 := ih fun z hz => h' z (List.mem_cons_of_mem _ hz)
        have h4 : Lib.joinTail [32] (y :: r) = ([32] ++ y) ++ Lib.joinTail [32] r := by simp [Lib.joinTail]
        rw [h4, List.length_append, List.length_cons, Nat.add_mul]
        simp
        omega
    have := h x (List.mem_cons_self ..)
    omega
theorem joinL_cons {x y : List UInt8} {r : List (List UInt8)} : joinL (x :: y :: r) = x ++ 32 :: joinL (y :: r) := by
  show Lib.join (x :: y :: r) [32] = x ++ 32 :: Lib.join (y :: r) [32]
  rw [Lib.join_cons, Lib.join_cons]
  simp [Lib.joinTail]
theorem joinL_one {x : List UInt8} : joinL [x] = x := Lib.join_one x [32]
theorem joinL_append {a b : List (List UInt8)} (ha : a ≠ []) (hb : b ≠ []) : joinL (a ++ b) = joinL a ++ 32 :: joinL b := by
  induction a with
  | nil => exact absurd rfl ha
  | cons x a ih =>
    cases a with
    | nil =>
      cases b with
      | nil => exact absurd rfl hb
      | cons y b => rw [List.singleton_append, joinL_cons, joinL_one]
    | cons y a =>
      have h := ih (by simp)
      rw [List.cons_append] at h
      rw [List.cons_append, List.cons_append, joinL_cons, h, joinL_cons]
      simp
end Go.Proofs.YtihipcofjpnfbaaGreatDoor
