/- Bounds, and the script that is handed in. -/
import Derived.Test.YtdepohepogocgaaLkB
import Derived.Test.YtdepohepogocgaaLkQ
import Derived.Test.YtdepohepogocgaaLkK
import Derived.Test.YtdepohepogocgaaDeepU
set_option linter.unusedVariables false
set_option linter.unusedSimpArgs false
set_option maxRecDepth 100000
set_option maxHeartbeats 4000000
namespace Go.Proofs.Ytdepohepogocgaa
open Go hiding Expr
open Go.RowKit Tr

theorem keysA_len (A : St) : (keysA A).length ≤ total A := by
  have := KS_len (flatK A)
  rw [flat_total] at this
  exact this
theorem keysA_in {A : St} (hi : InA A) : ∀ k ∈ keysA A, InK k := by
  intro k hk
  have hk : k ∈ flatK A := (KS_mem _ k).1 hk
  unfold flatK at hk
  obtain ⟨r, hr, hk⟩ := List.mem_flatMap.1 hk
  obtain ⟨y, hy, rfl⟩ := List.mem_map.1 hk
  exact (hi r hr).2 y hy
theorem allA_len (A : St) : (allA A).length ≤ A.length := by
  have h1 : (allA A).length ≤ (ids A).length := List.length_filter_le ..
  simpa [ids] using h1
theorem queueA_len (A : St) (k : K) : (queueA A k).length ≤ A.length := by
  unfold queueA
  rw [heldGo_len]
  exact len_queue
theorem waitsA_le {A : St} {t : Ix} (hz : Sz A) : (waitsA A t).length ≤ 5864062014805 := by
  have h1 := want_le (t := t) hz
  unfold waitsA waitsL
  rw [List.length_map]
  exact Nat.le_trans (List.length_filter_le ..) h1
def Lim (n : Nat) (A : St) : Prop := A.length ≤ n ∧ (∀ r ∈ A, r.2.length ≤ 1048576) ∧ total A ≤ n * 1048576
theorem Lim.sz {n : Nat} {A : St} (h : Lim n A) (hn : n ≤ 1099511627776) : Sz A := ⟨Nat.le_trans h.1 hn, fun r hr => Nat.le_trans (h.2.1 r hr) (by decide)⟩
theorem Lim.mono {n n' : Nat} {A : St} (h : Lim n A) (hn : n ≤ n') : Lim n' A := ⟨Nat.le_trans h.1 hn, h.2.1, Nat.le_trans h.2.2 (Nat.mul_le_mul_right _ hn)⟩
theorem Lim.req {n : Nat} {A : St} {t : Ix} {l : List Lk} (h : Lim n A) (hl : l.length ≤ 1048576) : Lim (n + 1) (reqS A t l) := by
  unfold reqS
  split
  · refine ⟨by rw [List.length_append]; have := h.1; simp; omega, fun r hr => ?_, ?_⟩
    · rcases List.mem_append.1 hr with hr | hr
      · exact h.2.1 r hr
      · rw [List.mem_singleton] at hr; subst hr; exact hl
    · rw [total_append, Nat.succ_mul]
      have := h.2.2
      have e : total [(t, l)] = l.length := by simp [total]
      omega
  · exact h.mono (by omega)
theorem Lim.rel {n : Nat} {A : St} {t : Ix} (h : Lim n A) : Lim n (relA A t) :=
  ⟨Nat.le_trans rel_len h.1, fun r hr => h.2.1 r (List.mem_filter.1 hr).1, Nat.le_trans rel_total h.2.2⟩
theorem Lim.nil : Lim 0 [] := ⟨by simp, by simp, by simp [total]⟩
theorem relL_len (A : St) (t : Ix) : (relL A t).length ≤ A.length := by
  unfold relL
  split
  · unfold relOut
    exact Nat.le_trans (List.length_filter_le ..) (Nat.le_trans (allA_len _) rel_len)
  · simp
structure OP where
  d : Int
  t : Ix
  o : Option Addr
  cap : Nat
  l : List Lk
def opr (x : OP) : List Value := [.int .i64 x.d, .int .i64 x.t.s, .int .i64 x.t.p, .slice x.o x.l.length x.cap]
def OpOk (x : OP) : Prop := InI x.t ∧ (∀ y ∈ x.l, InK y.k) ∧ x.l.length ≤ 1048576
theorem cut_snd {a b m : Hp} : Cut b (a ++ (b ++ m)) (a ++ m) := cut_app cut_head
/-! ### The script that is handed in -/
abbrev lfLkU : List DLeaf := [.flat (.int .i32), .flat (.int .i64), .flat .bool]
abbrev lfOpU : List DLeaf := [.flat (.int .i64), .flat (.int .i64), .flat (.int .i64), .lst lfLkU 134217727]
theorem locksU_of {w : World} (rows : List (List Value)) (h : ∀ r ∈ rows, FitsD w lfLkU r) : ∃ l : List Lk, rows = l.map lr ∧ ∀ y ∈ l, InK y.k := by
  induction rows with
  | nil => exact ⟨[], rfl, by simp⟩
  | cons r rows ih =>
    obtain ⟨l, rfl, hl⟩ := ih (fun r hr => h r (by simp [hr]))
    obtain ⟨a, _, rfl, w1, h1⟩ := (h r (by simp)).int
    obtain ⟨b, _, rfl, w2, h2⟩ := h1.int
    obtain ⟨x, _, rfl, h3⟩ := h2.bool
    obtain rfl := h3.nil
    refine ⟨⟨⟨a, b⟩, x⟩ :: l, rfl, fun y hy => ?_⟩
    rcases List.mem_cons.1 hy with rfl | hy
    · simp [Lit.wf, IntKind.min, IntKind.max, IntKind.signed, IntKind.bits] at w1 w2
      unfold InK
      simp only
      omega
    · exact hl y hy
theorem opU_of {w : World} {vs : List Value} (h : FitsD w lfOpU vs) : ∃ x : OP, vs = opr x ∧ RowsAt w x.o 3 (x.l.map lr) ∧ OpOk x := by
  obtain ⟨d, _, rfl, _, h1⟩ := h.int
  obtain ⟨a, _, rfl, w1, h2⟩ := h1.int
  obtain ⟨b, _, rfl, w2, h3⟩ := h2.int
  obtain ⟨o, len, cap, rows, _, rfl, hl, hc, hb, ha, hr, h4⟩ := h3.lst
  obtain rfl := h4.nil
  obtain ⟨l, rfl, hk⟩ := locksU_of rows hr
  rw [List.length_map] at hl
  subst hl
  refine ⟨⟨d, ⟨a, b⟩, o, cap, l⟩, rfl, ha, ?_, hk, ?_⟩
  · simp [Lit.wf, IntKind.min, IntKind.max, IntKind.signed, IntKind.bits] at w1 w2
    unfold InI
    simp only
    omega
  · simp only [reachBytes] at hb
    simp only
    omega
theorem opsU_of {w : World} (rows : List (List Value)) (h : ∀ r ∈ rows, FitsD w lfOpU r) : ∃ X : List OP, rows = X.map opr ∧ (∀ x ∈ X, RowsAt w x.o 3 (x.l.map lr)) ∧ ∀ x ∈ X, OpOk x := by
  induction rows with
  | nil => exact ⟨[], rfl, by simp, by simp⟩
  | cons r rows ih =>
    obtain ⟨X, rfl, h1, h2⟩ := ih (fun r hr => h r (by simp [hr]))
    obtain ⟨x, rfl, h3, h4⟩ := opU_of (h r (by simp))
    refine ⟨x :: X, rfl, fun y hy => ?_, fun y hy => ?_⟩
    · rcases List.mem_cons.1 hy with rfl | hy
      · exact h3
      · exact h1 y hy
    · rcases List.mem_cons.1 hy with rfl | hy
      · exact h4
      · exact h2 y hy
end Go.Proofs.Ytdepohepogocgaa
