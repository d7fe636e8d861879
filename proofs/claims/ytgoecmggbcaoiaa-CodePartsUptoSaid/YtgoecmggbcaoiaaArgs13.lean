/- Instructions and bytes that are handed in. -/
import Derived.Test.YtgoecmggbcaoiaaLiveM
import Derived.Test.YtgoecmggbcaoiaaDeep
set_option linter.unusedVariables false
set_option linter.unusedSimpArgs false
set_option maxRecDepth 100000
namespace Go.Proofs.Ytgoecmggbcaoiaa
open Go hiding Expr
open Go.RowKit Tr

abbrev lfI : DLeaf := .flat (.int .i64)
abbrev lfIns : List DLeaf := [lfI, lfI, lfI, lfI, lfI]
abbrev lfB : List DLeaf := [.flat (.int .u8)]
theorem inI_of {n : Int} (h : (Lit.int .i64 n).wf = true) : inI n := by
  simp [Lit.wf, IntKind.min, IntKind.max, IntKind.signed, IntKind.bits] at h
  exact ⟨by omega, by omega⟩
section
variable {w : World} {a : Option Addr} {len cap : Nat} {vs : List Value} {ls : List DLeaf}
theorem ins_of (rows : List (List Value)) (h : ∀ r ∈ rows, FitsD w lfIns r) : ∃ l : List Ins, rows = l.map insR := by
  induction rows with
  | nil => exact ⟨[], rfl⟩
  | cons r rows ih =>
    obtain ⟨l, rfl⟩ := ih (fun r hr => h r (by simp [hr]))
    obtain ⟨n1, r1, rfl, _, h1⟩ := (h r (by simp)).int
    obtain ⟨n2, r2, rfl, _, h2⟩ := h1.int
    obtain ⟨n3, r3, rfl, _, h3⟩ := h2.int
    obtain ⟨n4, r4, rfl, _, h4⟩ := h3.int
    obtain ⟨n5, r5, rfl, _, h5⟩ := h4.int
    obtain rfl := h5.nil
    exact ⟨⟨n1, n2, n3, n4, n5⟩ :: l, rfl⟩
theorem byts_of (rows : List (List Value)) (h : ∀ r ∈ rows, FitsD w lfB r) : ∃ l : List Int, rows = l.map br ∧ ∀ x ∈ l, 0 ≤ x ∧ x ≤ 255 := by
  induction rows with
  | nil => exact ⟨[], rfl, by simp⟩
  | cons r rows ih =>
    obtain ⟨l, rfl, hl⟩ := ih (fun r hr => h r (by simp [hr]))
    obtain ⟨n1, r1, rfl, hw, h1⟩ := (h r (by simp)).int
    obtain rfl := h1.nil
    refine ⟨n1 :: l, rfl, fun x hx => ?_⟩
    rcases List.mem_cons.1 hx with rfl | hx
    · simp [Lit.wf, IntKind.min, IntKind.max, IntKind.signed, IntKind.bits] at hw
      omega
    · exact hl x hx
theorem open_ins (h : FitsD w (.lst lfIns 40 :: ls) vs) : ∃ (o : Option Addr) (l : List Ins) (cap : Nat) (r : List Value), vs = .slice o l.length cap :: r ∧ l.length ≤ cap ∧ l.length * 40 ≤ 140737488355328 ∧ InsAt w o l ∧ FitsD w ls r := by
  obtain ⟨o, len, cap, rows, r, rfl, hl, hc, hb, ha, hr, h2⟩ := h.lst
  obtain ⟨l, rfl⟩ := ins_of rows hr
  rw [List.length_map] at hl
  subst hl
  exact ⟨o, l, cap, r, rfl, hc, by simp only [reachBytes] at hb; omega, ha, h2⟩
theorem open_byts (h : FitsD w (.lst lfB 1 :: ls) vs) : ∃ (o : Option Addr) (l : List Int) (cap : Nat) (r : List Value), vs = .slice o l.length cap :: r ∧ l.length ≤ cap ∧ l.length ≤ 140737488355328 ∧ (∀ x ∈ l, 0 ≤ x ∧ x ≤ 255) ∧ BytAt w o l ∧ FitsD w ls r := by
  obtain ⟨o, len, cap, rows, r, rfl, hl, hc, hb, ha, hr, h2⟩ := h.lst
  obtain ⟨l, rfl, hu⟩ := byts_of rows hr
  rw [List.length_map] at hl
  subst hl
  exact ⟨o, l, cap, r, rfl, hc, by simp only [reachBytes] at hb; omega, hu, ha, h2⟩
end
end Go.Proofs.Ytgoecmggbcaoiaa
