/- The bytes of a word, by the program and by the reference. -/
import Derived.Test.YtihipcofjpnfbaaGreatDoorSame27
import Derived.Test.YtihipcofjpnfbaaGreatDoorBO
import Derived.Test.YtihipcofjpnfbaaGreatDoorTreesW
import Derived.Test.YtihipcofjpnfbaaGreatDoorShelfW
set_option linter.unusedVariables false
set_option linter.unusedSimpArgs false
set_option maxRecDepth 100000
set_option maxHeartbeats 8000000
namespace Go.Proofs.YtihipcofjpnfbaaGreatDoor
open Go hiding Expr
open Go.RowKit Tr

/-! ### Digits -/
def lo (x : Int) : Int := bitsI .or .u8 x 32
def hv (x : Int) : Int := if 48 ≤ x ∧ x ≤ 57 then x - 48 else if 97 ≤ lo x ∧ lo x ≤ 122 then lo x - 87 else 99
def dgt (x : Int) : Int := if 48 ≤ x ∧ x ≤ 57 then x - 48 else if 97 ≤ x ∧ x ≤ 102 then x - 87 else 16
theorem lo_byte {x : Int} (h : IsByte x) : IsByte (lo x) := byte_fin (p := fun x => 0 ≤ lo x ∧ lo x < 256) (by decide) h
theorem hv_dgt {x : Int} (h : IsByte x) : (0 ≤ hv x ∧ hv x < 256) ∧ (0 ≤ dgt x ∧ dgt x ≤ 16) ∧ ((hv x < 16 ∧ ((dg (hv x).toNat).toNat : Int) = x) ↔ dgt x < 16) ∧ (dgt x < 16 → hv x = dgt x) :=
  byte_fin (p := fun x => (0 ≤ hv x ∧ hv x < 256) ∧ (0 ≤ dgt x ∧ dgt x ≤ 16) ∧ ((hv x < 16 ∧ ((dg (hv x).toNat).toNat : Int) = x) ↔ dgt x < 16) ∧ (dgt x < 16 → hv x = dgt x)) (by decide) h
theorem u8_byte (b : UInt8) : IsByte (b.toNat : Int) := ⟨by omega, by have := b.toNat_lt; omega⟩
theorem wrapU8 {n : Int} (h : IsByte n) : IntKind.wrap .u8 n = n := byte_fin (p := fun n => IntKind.wrap .u8 n = n) (by decide) h
theorem wrapU64 {n : Int} (h0 : 0 ≤ n) (h1 : n < 18446744073709551616) : IntKind.wrap .u64 n = n := by rw [IntKind.wrap_u64]; omega

section
variable {w : World}
theorem lower_c {x : Int} : Calls Tryz.prog 85 #[.int .u8 x] w fun e w' => e = .returned (.int .u8 (lo x)) ∧ Fr [] w w' := by
  apply c85
  exact s_ret ⟨rfl, Fr.refl _ _⟩
theorem S_size' (l : List UInt8) : (S l).size = l.length := S_size l
/-- The reading of at most two digits of base 16, into eight bits. -/
def pval (l : List UInt8) : Int := l.foldl (fun n c => 16 * n + hv c.toNat) 0
def allHex (l : List UInt8) : Prop := ∀ c ∈ l, hv c.toNat < 16
theorem pval_snoc (l : List UInt8) (c : UInt8) : pval (l ++ [c]) = 16 * pval l + hv c.toNat := by simp [pval]
theorem pval_bound : ∀ {l : List UInt8}, allHex l → l.length ≤ 1 → 0 ≤ pval l ∧ pval l < 16
  | [], _, _ => by simp [pval]
  | [c], h, _ => by
    have h1 := h c (by simp)
    have h2 := (hv_dgt (u8_byte c)).1.1
    simp [pval]
    omega
  | _ :: _ :: _, _, h => by simp at h
theorem ipu_c {l : List UInt8} (h1 : l ≠ []) (h2 : l.length ≤ 2) : Calls Tryz.prog 58 #[.string (S l), .int .i64 16, .int .i64 8] w fun e w' =>
    ((allHex l ∧ e = .returned (.tuple #[.int .u64 (pval l), .nilIface])) ∨ (¬ allHex l ∧ e = .returned (.tuple #[.int .u64 0, .iface 132 (.int .i64 2)]))) ∧ Fr [] w w' := by
  apply c58
  refine s_false ?_ ?_
  · rw [show (ByteArray.mk (Array.mk [])) = S [] from rfl, S_toList, S_toList]
    cases l with
    | nil => exact absurd rfl h1
    | cons a r => rfl
  refine s_blk (fun vs W => vs = [.string (S l), .int .i64 16] ∧ Fr [] w W) ?_ ?_
  · rintro _ j W ⟨rfl, f0⟩
    refine s_asT (s_asI (s_blk (fun vs W' => vs = [.int .i64 8] ∧ W' = W) ?_ ?_))
    · rintro _ j W' ⟨rfl, rfl⟩
      refine s_asI (s_blk (fun vs W2 => vs = [.int .u64 1152921504606846976] ∧ W2 = W') ?_ ?_)
      · rintro _ j W2 ⟨rfl, rfl⟩
        refine s_asI (s_req (by decide) ?_)
        refine s_toBytes (B := w.heap.size) f0.size (by omega) fun o n cap W3 hb f3 => s_asS ?_
        have f03 := f0.trans f3
        refine s_loop (fun vs W => ∃ i : Nat, vs = [.bool false, .int .u64 (pval (l.take i)), .int .i64 i] ∧ i ≤ l.length ∧ allHex (l.take i) ∧ Fr [] w W ∧ BO w.heap.size W o n cap l) (fun vs _ => l.length - (intOf (vs.getD 2 undef)).toNat)
          ⟨0, rfl, by omega, by intro c hc; simp at hc, f03, hb⟩ ?_
        clear hb f3 f03 f0
        rintro _ j W ⟨i, rfl, hi, hall, hF, hb⟩
        have hn := hb.len
        refine s_asB (s_asI (s_asI (s_ite (fun g1 => ?_) (fun g1 => ?_))))
        · simp only [decide_eq_true_eq] at g1
          have hlt : i < l.length := by omega
          obtain ⟨c, hc⟩ : ∃ c, l[i]? = some c := ⟨_, List.getElem?_eq_getElem hlt⟩
          have hcu : (u8 l)[i]? = some (c.toNat : Int) := by unfold u8; rw [List.getElem?_map, hc]; rfl
          obtain ⟨g2, off, rfl, p1⟩ := hb.at.get hcu
          have hB := u8_byte c
          obtain ⟨⟨d1, d2⟩, _⟩ := hv_dgt hB
          obtain ⟨v1, v2⟩ := pval_bound hall (by rw [List.length_take]; omega)
          refine s_req ⟨by omega, by omega⟩ (s_sm (s_loadI p1 ?_))
          refine s_blk (fun vs W' => vs = [.bool false, .int .u8 (hv c.toNat)] ∧ Fr [] W W') ?_ ?_
          · rintro _ j W' ⟨rfl, f⟩
            refine s_asB (s_asI ?_)
            rw [wrapU8 (n := 16) ⟨by decide, by decide⟩, wrapU64 (n := 16) (by decide) (by decide), wrapU64 (n := hv c.toNat) (by omega) (by omega)]
            refine s_ite (fun g => ?_) (fun g => ?_)
            · simp only [decide_eq_true_eq] at g
              refine s_ret ⟨.inr ⟨fun h => ?_, rfl⟩, hF.trans f⟩
              have := h c (List.mem_of_getElem? hc)
              omega
            · simp only [decide_eq_false_iff_not] at g
              have hh : hv c.toNat < 16 := by omega
              rw [wrapU64 (n := pval (l.take i) * 16) (by omega) (by omega), wrapU64 (n := pval (l.take i) * 16 + hv c.toNat) (by omega) (by omega)]
              refine s_false (by simp; omega) (s_false (by simp; omega) (s_false ?_ ?_))
              · have : IntKind.u64.wrap (shlI .u64 1 (IntKind.u64.wrap 8) - 1) = 255 := by decide
                rw [this]
                simp
                omega
              · refine s_next (by first | exact ⟨rfl, rfl⟩ | trivial) ?_
                simp (config := { decide := true }) only [if_true, if_false]
                refine ⟨⟨i + 1, ?_, by omega, ?_, hF.trans f, hb.fr f⟩, by rw [w_succ (by omega)]; simp [intOf] <;> omega⟩
                · rw [w_succ (by omega), List.take_add_one, hc, Option.toList_some, pval_snoc]
                  congr 3
                  omega
                · intro y hy
                  rw [List.take_add_one, hc, Option.toList_some] at hy
                  rcases List.mem_append.1 hy with hy | hy
                  · exact hall y hy
                  · simp at hy
                    subst hy
                    exact hh
          · have b1 := hB.1
            have b2 := hB.2
            obtain ⟨l1, l2⟩ := lo_byte hB
            refine s_blk (fun vs W' => vs = [.bool false] ∧ W' = W) ?_ ?_
            · rintro _ j W' ⟨rfl, rfl⟩
              refine s_asB (s_false rfl (s_blk (fun vs W2 => vs = [.bool (decide (48 ≤ (c.toNat : Int) ∧ (c.toNat : Int) ≤ 57))] ∧ W2 = W') ?_ ?_))
              · rintro _ j W2 ⟨rfl, rfl⟩
                refine s_asB (s_ite (fun g => ?_) (fun g => ?_))
                · simp only [decide_eq_true_eq] at g
                  refine s_next ⟨rfl, rfl⟩ ⟨?_, Fr.refl _ _⟩
                  rw [hv, if_pos g, wrapU8 (n := (c.toNat : Int) - 48) ⟨by omega, by omega⟩]
                · simp only [decide_eq_false_iff_not] at g
                  refine s_blk (fun vs W3 => vs = [.bool (decide (97 ≤ lo c.toNat ∧ lo c.toNat ≤ 122))] ∧ Fr [] W2 W3) ?_ ?_
                  · rintro _ j W3 ⟨rfl, f⟩
                    refine s_asB (s_ite (fun g2 => ?_) (fun g2 => ?_))
                    · simp only [decide_eq_true_eq] at g2
                      refine s_call lower_c ?_
                      rintro _ u ⟨rfl, f2⟩
                      refine ⟨_, rfl, s_asI (s_next ⟨rfl, rfl⟩ ⟨?_, f.trans f2⟩)⟩
                      rw [hv, if_neg g, if_pos g2, wrapU8 (n := lo c.toNat - 97) ⟨by omega, by omega⟩, wrapU8 (n := lo c.toNat - 97 + 10) ⟨by omega, by omega⟩]
                      congr 3
                      omega
                    · simp only [decide_eq_false_iff_not] at g2
                      refine s_ret ⟨.inr ⟨fun h => ?_, rfl⟩, hF.trans f⟩
                      have h3 := h c (List.mem_of_getElem? hc)
                      rw [hv, if_neg g, if_neg g2] at h3
                      omega
                  · refine s_call lower_c ?_
                    rintro _ u ⟨rfl, f⟩
                    refine ⟨_, rfl, s_asI (s_ite (fun g2 => ?_) (fun g2 => ?_))⟩
                    · simp only [decide_eq_true_eq] at g2
                      refine s_call lower_c ?_
                      rintro _ u2 ⟨rfl, f2⟩
                      exact ⟨_, rfl, s_asI (s_next ⟨rfl, rfl⟩ ⟨by simp [g2], f.trans f2⟩)⟩
                    · simp only [decide_eq_false_iff_not] at g2
                      exact s_next ⟨rfl, rfl⟩ ⟨by simp [g2], f⟩
              · refine s_ite (fun g => ?_) (fun g => ?_)
                · simp only [decide_eq_true_eq] at g
                  exact s_next ⟨rfl, rfl⟩ ⟨by simp [g], rfl⟩
                · simp only [decide_eq_false_iff_not] at g
                  exact s_next ⟨rfl, rfl⟩ ⟨by simp [g], rfl⟩
            · refine s_ite (fun g => s_next ⟨rfl, rfl⟩ ⟨rfl, rfl⟩) (fun g => s_next ⟨rfl, rfl⟩ ⟨rfl, rfl⟩)
        · simp only [decide_eq_false_iff_not] at g1
          rw [List.take_of_length_le (by omega)] at hall
          rw [List.take_of_length_le (by omega)]
          exact s_false rfl (s_ret ⟨.inl ⟨hall, rfl⟩, hF⟩)
      · exact s_false rfl (s_true rfl (s_next ⟨rfl, rfl⟩ ⟨rfl, rfl⟩))
    · exact s_false rfl (s_false rfl (s_false rfl (s_next ⟨rfl, rfl⟩ ⟨rfl, rfl⟩)))
  · refine s_blk (fun vs W => vs = [.bool true] ∧ W = w) ?_ ?_
    · rintro _ j W ⟨rfl, rfl⟩
      exact s_asB (s_true rfl (s_next ⟨rfl, rfl⟩ ⟨rfl, Fr.refl _ _⟩))
    · exact s_true rfl (s_next ⟨rfl, rfl⟩ ⟨rfl, rfl⟩)

/-- The library's error of a word that is none. -/
structure ErrAt (w : World) : Prop where
  syn : ∃ te pe, w.cell? ⟨2, 0, none⟩ = some (.iface te pe)
  rng : ∃ te pe, w.cell? ⟨3, 0, none⟩ = some (.iface te pe)
  maxLen : ∃ m, w.cell? ⟨0, 0, none⟩ = some (.int .i64 m)
theorem cellFr {w w' : World} {a : Addr} {v : Value} (h : w.cell? a = some v) (hf : Fr [] w w') : w'.cell? a = some v := by
  have hlt : a.block < w.heap.size := World.block_lt_of_cell? _ _ h
  rw [World.cell?_of_block (w := w) (hf.block _ hlt (by simp))]
  exact h
theorem errFr {w w' : World} (h : ErrAt w) (hf : Fr [] w w') : ErrAt w' := by
  obtain ⟨⟨a, b, h1⟩, ⟨c, d, h2⟩, ⟨m, h3⟩⟩ := h
  exact ⟨⟨a, b, cellFr h1 hf⟩, ⟨c, d, cellFr h2 hf⟩, ⟨m, cellFr h3 hf⟩⟩
theorem pu_c {l : List UInt8} (hE : ErrAt w) (h1 : l ≠ []) (h2 : l.length ≤ 2) : Calls Tryz.prog 30 #[.string (S l), .int .i64 16, .int .i64 8] w fun e w' =>
    ((allHex l ∧ e = .returned (.tuple #[.int .u64 (pval l), .nilIface])) ∨ (¬ allHex l ∧ ∃ t p, e = .returned (.tuple #[.int .u64 0, .iface t p]))) ∧ Fr [] w w' := by
  apply c30
  refine s_call (ipu_c h1 h2) ?_
  rintro e u ⟨⟨ha, rfl⟩ | ⟨ha, rfl⟩, f⟩
  · exact ⟨_, rfl, s_asU (s_req rfl (s_asI (s_req (.inl rfl) (s_false rfl (s_ret ⟨.inl ⟨ha, rfl⟩, f⟩)))))⟩
  · refine ⟨_, rfl, s_asU (s_req rfl (s_asI (s_req (.inr ⟨_, _, rfl⟩) (s_true rfl ?_))))⟩
    obtain ⟨te, pe, hc⟩ := (errFr hE f).syn
    refine s_call (Tryz.strconv_toError_syntax _ (S l) 16 8 _ u (by rw [S_size]; omega) hc (.inr ⟨te, pe, rfl⟩)) ?_
    rintro _ u2 ⟨N, rfl, _, _, hb⟩
    exact ⟨_, rfl, s_ret ⟨.inr ⟨ha, _, _, rfl⟩, f.trans (Fr.of_below hb)⟩⟩
end
end Go.Proofs.YtihipcofjpnfbaaGreatDoor
