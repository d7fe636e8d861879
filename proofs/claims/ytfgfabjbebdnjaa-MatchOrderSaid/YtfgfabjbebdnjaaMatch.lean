/- Contracts of the package match, each over its tree. -/
import Derived.Test.YtfgfabjbebdnjaaTrees
import Derived.Test.YtfgfabjbebdnjaaMap
set_option linter.unusedVariables false
set_option linter.unusedSimpArgs false
set_option maxRecDepth 100000

namespace Go.Proofs.Ytfgfabjbebdnjaa
open Go hiding Expr
open Go.RowKit Tr

structure MS where
  n : Int
  self : Int
  len : Int
  l : List (Int × Int)
def maxT : Int := 1099511627776
structure MS.Ok (s : MS) : Prop where
  n1 : 1 ≤ s.n
  n5 : s.n ≤ 5
  self0 : 0 ≤ s.self
  self1 : s.self < s.n
  len0 : 0 ≤ s.len
  len1 : s.len ≤ maxT
  five : s.l.length = 5
  mine : s.l[s.self.toNat]? = some (s.len, s.len)
  each : ∀ p ∈ s.l, 0 ≤ p.2 ∧ p.2 ≤ p.1 ∧ p.1 ≤ s.len

def pairs : List (Int × Int) → List Value
  | [] => []
  | p :: r => .int .i64 p.1 :: .int .i64 p.2 :: pairs r
def pm (s : MS) : List Value := .int .i64 s.n :: .int .i64 s.self :: .int .i64 s.len :: pairs s.l

theorem pairs_get : ∀ (l : List (Int × Int)) (i : Nat) (p : Int × Int), l[i]? = some p → (pairs l)[i * 2]? = some (.int .i64 p.1) ∧ (pairs l)[i * 2 + 1]? = some (.int .i64 p.2)
  | [], i, p, h => by simp at h
  | q :: r, 0, p, h => by simp at h; subst h; exact ⟨rfl, rfl⟩
  | q :: r, i + 1, p, h => by
    have := pairs_get r i p (by simpa using h)
    rw [Nat.succ_mul]
    simpa [pairs] using this
theorem pm_get {s : MS} {i : Nat} {p : Int × Int} (h : s.l[i]? = some p) : (pm s)[3 + i * 2]? = some (.int .i64 p.1) ∧ (pm s)[3 + i * 2 + 1]? = some (.int .i64 p.2) := by
  have := pairs_get s.l i p h
  rw [Nat.add_comm 3, show i * 2 + 3 + 1 = i * 2 + 1 + 3 by omega]
  simpa [pm] using this

theorem wrap64 {n : Int} (h1 : -9223372036854775808 ≤ n) (h2 : n ≤ 9223372036854775807) : IntKind.wrap .i64 n = n := by
  simp only [IntKind.wrap, IntKind.min, IntKind.max, IntKind.signed, IntKind.bits]
  simp
  omega

def MS.at (s : MS) (i : Int) : Int × Int := if i < 0 ∨ i ≥ s.n then (0, 0) else (s.l[i.toNat]?).getD (0, 0)
def MS.who (s : MS) (i : Int) : Bool := decide (0 ≤ i) && decide (i < s.n) && (i != s.self)

section
variable {w w' : World} {b : Nat} {s : MS}

theorem none_c (h : Cells w b 46 (pm s)) (hs : s.Ok) : Calls Try.prog 22 #[.pointer (some ⟨b, 0, none⟩)] w fun e w' => e = .returned (.bool false) ∧ w = w' := by
  apply c22
  refine s_ldI h rfl (s_ret ⟨?_, rfl⟩)
  have := hs.n1
  have : (s.n == 0) = false := by simp; omega
  rw [this]
theorem may_c (x : Int) : Calls Try.prog 19 #[.int .i64 x] w fun e w' => e = .returned (.bool (decide (0 ≤ x) && decide (x ≤ maxT))) ∧ w = w' := by
  apply c19
  refine s_ite (fun g => s_ret ⟨?_, rfl⟩) (fun g => s_ret ⟨?_, rfl⟩)
  · have : decide (0 ≤ x) = true := by simpa using g
    rw [this]; rfl
  · have : decide (0 ≤ x) = false := by simpa using g
    rw [this]; rfl
theorem other_c (h : Cells w b 46 (pm s)) (hs : s.Ok) (i : Int) : Calls Try.prog 20 #[.pointer (some ⟨b, 0, none⟩), .int .i64 i] w fun e w' =>
    w = w' ∧ ((s.who i = false ∧ e = .returned (.tuple #[.pointer none, .int .i64 80])) ∨ (s.who i = true ∧ e = .returned (.tuple #[.pointer (some ⟨b, 3 + i.toNat * 2, none⟩), .int .i64 0]))) := by
  apply c20
  have hn5 := hs.n5
  refine s_call (none_c h hs) ?_
  rintro _ _ ⟨rfl, rfl⟩
  refine ⟨_, rfl, s_asB (s_false rfl (s_ite (fun g1 => s_ret ⟨rfl, .inl ⟨?_, rfl⟩⟩) (fun g1 => s_ldI h rfl (s_ite (fun g2 => s_ret ⟨rfl, .inl ⟨?_, rfl⟩⟩) (fun g2 => s_ldI h rfl (s_ite (fun g3 => s_ret ⟨rfl, .inl ⟨?_, rfl⟩⟩) (fun g3 => s_req ?_ (s_ret ⟨rfl, .inr ⟨?_, ?_⟩⟩))))))))⟩
  all_goals simp only [decide_eq_true_eq, decide_eq_false_iff_not, beq_iff_eq, beq_eq_false_iff_ne] at *
  · simp [MS.who]; omega
  · simp [MS.who]; omega
  · simp [MS.who]; omega
  · omega
  · simp [MS.who]; omega
theorem of_c (h : Cells w b 46 (pm s)) (hs : s.Ok) (i : Int) : Calls Try.prog 21 #[.pointer (some ⟨b, 0, none⟩), .int .i64 i] w fun e w' =>
    e = .returned (.agg #[.int .i64 (s.at i).1, .int .i64 (s.at i).2]) ∧ Fr [] w w' := by
  apply c21
  have hn5 := hs.n5
  refine s_new fun r w1 hr hz f1 hc => ?_
  have h := f1.cells h (by simp)
  refine s_call (none_c h hs) ?_
  rintro _ _ ⟨rfl, rfl⟩
  have out : (i < 0 ∨ i ≥ s.n) → s.at i = (0, 0) := fun g => by unfold MS.at; rw [if_pos g]
  have new : ∀ {w2 : World}, Fr [r] w1 w2 → Fr [] w w2 := fun f => f1.trans' f (fun x hx => by simp at hx; exact .inr (by omega))
  refine ⟨_, rfl, s_asB (s_false rfl (s_ite (fun g1 => ?_) (fun g1 => s_ldI h rfl (s_ite (fun g2 => ?_) (fun g2 => s_req ?_ ?_)))))⟩
  · refine s_st hc (by simp) rfl fun w2 z2 f2 hc => s_st hc (by simp) rfl fun w3 z3 f3 hc => s_ldI hc rfl (s_ldI hc rfl (s_ret ⟨?_, new (f2.trans f3)⟩))
    rw [out (.inl (by simpa using g1))]
  · refine s_st hc (by simp) rfl fun w2 z2 f2 hc => s_st hc (by simp) rfl fun w3 z3 f3 hc => s_ldI hc rfl (s_ldI hc rfl (s_ret ⟨?_, new (f2.trans f3)⟩))
    rw [out (.inr (by simpa using g2))]
  · simp only [decide_eq_false_iff_not] at g1 g2; omega
  · simp only [decide_eq_false_iff_not] at g1 g2
    have hlt : i.toNat < s.l.length := by rw [hs.five]; omega
    obtain ⟨p1, p2⟩ := pm_get (s := s) (List.getElem?_eq_getElem hlt)
    refine s_ldI h (n := s.l[i.toNat].1) (by simpa using p1) (s_ldI h (n := s.l[i.toNat].2) (by simpa using p2) ?_)
    refine s_st hc (by simp) rfl fun w2 z2 f2 hc => s_st hc (by simp) rfl fun w3 z3 f3 hc => s_ldI hc rfl (s_ldI hc rfl (s_ret ⟨?_, new (f2.trans f3)⟩))
    have : s.at i = s.l[i.toNat] := by unfold MS.at; rw [if_neg (by omega)]; simp [hlt]
    rw [this]
theorem next_c (h : Cells w b 46 (pm s)) (hs : s.Ok) (i : Int) : Calls Try.prog 15 #[.pointer (some ⟨b, 0, none⟩), .int .i64 i] w fun e w' => e = .returned (.int .i64 (s.at i).1) ∧ Fr [] w w' := by
  apply c15
  refine s_call (of_c h hs i) ?_
  rintro _ w1 ⟨rfl, f1⟩
  exact ⟨_, rfl, s_asA (s_req rfl (s_asI (s_asI (s_ret ⟨rfl, f1⟩))))⟩
theorem like_c (h : Cells w b 46 (pm s)) (hs : s.Ok) (i : Int) : Calls Try.prog 10 #[.pointer (some ⟨b, 0, none⟩), .int .i64 i] w fun e w' => e = .returned (.int .i64 (s.at i).2) ∧ Fr [] w w' := by
  apply c10
  refine s_call (of_c h hs i) ?_
  rintro _ w1 ⟨rfl, f1⟩
  exact ⟨_, rfl, s_asA (s_req rfl (s_asI (s_asI (s_ret ⟨rfl, f1⟩))))⟩
theorem length_c (h : Cells w b 46 (pm s)) (hs : s.Ok) : Calls Try.prog 12 #[.pointer (some ⟨b, 0, none⟩)] w fun e w' => e = .returned (.int .i64 s.len) ∧ w = w' := by
  apply c12
  refine s_call (none_c h hs) ?_
  rintro _ _ ⟨rfl, rfl⟩
  exact ⟨_, rfl, s_asB (s_false rfl (s_ldI h rfl (s_ret ⟨rfl, rfl⟩)))⟩
end
end Go.Proofs.Ytfgfabjbebdnjaa
