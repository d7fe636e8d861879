/- Transactions that are handed in. -/
import Derived.Test.YtgoecmggbcaoiaaRChecksM
set_option linter.unusedVariables false
set_option linter.unusedSimpArgs false
set_option maxRecDepth 100000
namespace Go.Proofs.Ytgoecmggbcaoiaa
open Go hiding Expr
open Go.RowKit Tr

abbrev lfK : List DLeaf := [.flat (.int .i32), lfI]
abbrev lfTx : List DLeaf := [lfI, lfI, .lst lfB 1, .lst [lfI] 8, .lst lfK 16, .lst lfK 16]
section
variable {w : World} {vs : List Value} {ls : List DLeaf}
theorem keys_of (rows : List (List Value)) (h : ∀ r ∈ rows, FitsD w lfK r) : ∃ l : List Ky, rows = l.map kr := by
  induction rows with
  | nil => exact ⟨[], rfl⟩
  | cons r rows ih =>
    obtain ⟨l, rfl⟩ := ih (fun r hr => h r (by simp [hr]))
    obtain ⟨n1, r1, rfl, _, h1⟩ := (h r (by simp)).int
    obtain ⟨n2, r2, rfl, _, h2⟩ := h1.int
    obtain rfl := h2.nil
    exact ⟨(n1, n2) :: l, rfl⟩
theorem open_keys (h : FitsD w (.lst lfK 16 :: ls) vs) : ∃ (o : Option Addr) (l : List Ky) (cap : Nat) (r : List Value), vs = .slice o l.length cap :: r ∧ l.length ≤ cap ∧ l.length ≤ 140737488355328 ∧ KeyAt w o l ∧ FitsD w ls r := by
  obtain ⟨o, len, cap, rows, r, rfl, hl, hc, hb, ha, hr, h2⟩ := h.lst
  obtain ⟨l, rfl⟩ := keys_of rows hr
  rw [List.length_map] at hl
  subst hl
  exact ⟨o, l, cap, r, rfl, hc, by simp only [reachBytes] at hb; omega, ha, h2⟩
theorem open_tx (h : FitsD w lfTx vs) : ∃ (t : Tx) (o1 o2 o3 o4 : Option Addr) (c1 c2 c3 c4 : Nat), vs = txR t o1 o2 o3 o4 c1 c2 c3 c4 ∧ TxOk t ∧ t.code.length ≤ c1 ∧ BytAt w o1 t.code ∧ KeyAt w o3 t.rd ∧ KeyAt w o4 t.wr := by
  obtain ⟨s, _, rfl, _, h1⟩ := h.int
  obtain ⟨r, _, rfl, _, h2⟩ := h1.int
  obtain ⟨o1, code, c1, _, rfl, hc, hl, hu, hv, h3⟩ := open_byts h2
  obtain ⟨o2, len, c2, rows, _, rfl, _, _, _, _, _, h4⟩ := h3.lst
  obtain ⟨o3, rd, c3, _, rfl, _, hl3, hv3, h5⟩ := open_keys h4
  obtain ⟨o4, wr, c4, _, rfl, _, hl4, hv4, h6⟩ := open_keys h5
  obtain rfl := h6.nil
  exact ⟨⟨s, r, code, len, rd, wr⟩, o1, o2, o3, o4, c1, c2, c3, c4, by simp [txR], ⟨by simp, hu, hl, hl3, hl4⟩, hc, hv, hv3, hv4⟩
end
end Go.Proofs.Ytgoecmggbcaoiaa
