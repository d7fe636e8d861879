/- Twelve bytes that were handed in. -/
import Derived.Test.YteimilnigiagjaaSBytes
import Derived.Test.YteimilnigiagjaaArgs
set_option linter.unusedVariables false
namespace Go.Proofs.Yteimilnigiagjaa
open Go hiding Expr
open Go.RowKit Tr
theorem byte_nat {n : Int} (h : (Lit.int .u8 n).wf = true) : ((n.toNat % 256 : Nat) : Int) = n := by
  simp [Lit.wf, IntKind.min, IntKind.max, IntKind.signed, IntKind.bits] at h
  omega
theorem bytes_fits {cs : List Value} (h : Fits (List.replicate 12 (.int .u8)) cs) : ∃ f : Nat → Nat, (∀ j, f j < 256) ∧ cs = byteL (fun j => (f j : Int)) := by
  have h : Fits [.int .u8, .int .u8, .int .u8, .int .u8, .int .u8, .int .u8, .int .u8, .int .u8, .int .u8, .int .u8, .int .u8, .int .u8] cs := h
  obtain ⟨n0, r0, rfl, w0, h⟩ := h.int
  obtain ⟨n1, r1, rfl, w1, h⟩ := h.int
  obtain ⟨n2, r2, rfl, w2, h⟩ := h.int
  obtain ⟨n3, r3, rfl, w3, h⟩ := h.int
  obtain ⟨n4, r4, rfl, w4, h⟩ := h.int
  obtain ⟨n5, r5, rfl, w5, h⟩ := h.int
  obtain ⟨n6, r6, rfl, w6, h⟩ := h.int
  obtain ⟨n7, r7, rfl, w7, h⟩ := h.int
  obtain ⟨n8, r8, rfl, w8, h⟩ := h.int
  obtain ⟨n9, r9, rfl, w9, h⟩ := h.int
  obtain ⟨n10, r10, rfl, w10, h⟩ := h.int
  obtain ⟨n11, r11, rfl, w11, h⟩ := h.int
  obtain rfl := h.nil
  refine ⟨fun j => (([n0, n1, n2, n3, n4, n5, n6, n7, n8, n9, n10, n11] : List Int).getD j 0).toNat % 256, fun j => Nat.mod_lt _ (by omega), ?_⟩
  show _ = ([.int .u8 (((([n0, n1, n2, n3, n4, n5, n6, n7, n8, n9, n10, n11] : List Int).getD 0 0).toNat % 256 : Nat) : Int), .int .u8 (((([n0, n1, n2, n3, n4, n5, n6, n7, n8, n9, n10, n11] : List Int).getD 1 0).toNat % 256 : Nat) : Int), .int .u8 (((([n0, n1, n2, n3, n4, n5, n6, n7, n8, n9, n10, n11] : List Int).getD 2 0).toNat % 256 : Nat) : Int), .int .u8 (((([n0, n1, n2, n3, n4, n5, n6, n7, n8, n9, n10, n11] : List Int).getD 3 0).toNat % 256 : Nat) : Int), .int .u8 (((([n0, n1, n2, n3, n4, n5, n6, n7, n8, n9, n10, n11] : List Int).getD 4 0).toNat % 256 : Nat) : Int), .int .u8 (((([n0, n1, n2, n3, n4, n5, n6, n7, n8, n9, n10, n11] : List Int).getD 5 0).toNat % 256 : Nat) : Int), .int .u8 (((([n0, n1, n2, n3, n4, n5, n6, n7, n8, n9, n10, n11] : List Int).getD 6 0).toNat % 256 : Nat) : Int), .int .u8 (((([n0, n1, n2, n3, n4, n5, n6, n7, n8, n9, n10, n11] : List Int).getD 7 0).toNat % 256 : Nat) : Int), .int .u8 (((([n0, n1, n2, n3, n4, n5, n6, n7, n8, n9, n10, n11] : List Int).getD 8 0).toNat % 256 : Nat) : Int), .int .u8 (((([n0, n1, n2, n3, n4, n5, n6, n7, n8, n9, n10, n11] : List Int).getD 9 0).toNat % 256 : Nat) : Int), .int .u8 (((([n0, n1, n2, n3, n4, n5, n6, n7, n8, n9, n10, n11] : List Int).getD 10 0).toNat % 256 : Nat) : Int), .int .u8 (((([n0, n1, n2, n3, n4, n5, n6, n7, n8, n9, n10, n11] : List Int).getD 11 0).toNat % 256 : Nat) : Int)] : List Value)
  simp only [List.getD_cons_zero, List.getD_cons_succ]
  rw [byte_nat w0, byte_nat w1, byte_nat w2, byte_nat w3, byte_nat w4, byte_nat w5, byte_nat w6, byte_nat w7, byte_nat w8, byte_nat w9, byte_nat w10, byte_nat w11]
end Go.Proofs.Yteimilnigiagjaa
