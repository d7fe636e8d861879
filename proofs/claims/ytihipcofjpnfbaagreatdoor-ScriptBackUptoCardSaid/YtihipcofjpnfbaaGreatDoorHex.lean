/- The seed's word; bytes as a word, by the program and by the reference; builders. -/
import Derived.Test.YtihipcofjpnfbaaGreatDoorStrM
set_option linter.unusedVariables false
set_option linter.unusedSimpArgs false
set_option maxRecDepth 100000
set_option maxHeartbeats 1000000
namespace Go.Proofs.YtihipcofjpnfbaaGreatDoor
open Go hiding Expr
open Go.RowKit Tr

/-! ### Bytes as numbers -/
def u8 (l : List UInt8) : List Int := l.map (fun b => (b.toNat : Int))
theorem byts_u8 (l : List UInt8) : byts (u8 l) = Lib.byteCells l := by rw [byts_eq, u8, List.map_map]; rfl
theorem u8_len (l : List UInt8) : (u8 l).length = l.length := List.length_map _
theorem str_u8 (l : List UInt8) : strOfNums (u8 l) = S l := by
  unfold strOfNums u8
  rw [List.map_map]
  congr 2
  conv => rhs; rw [← List.map_id l]
  refine List.map_congr_left fun b _ => ?_
  simp
theorem byteCells_append (a b : List UInt8) : Lib.byteCells (a ++ b) = Lib.byteCells a ++ Lib.byteCells b := by simp [Lib.byteCells]
theorem elemB : Elem Tryz.prog 35 5 (.int .u8 0) 1 1 := ⟨by kernel_rfl, by kernel_rfl, rfl, by decide⟩
theorem bytesT : Tryz.prog.underlying 35 = some (.slice 5) := by kernel_rfl
theorem byteT : Tryz.prog.underlying 5 = some (.int .u8) := by kernel_rfl
theorem strT : Tryz.prog.underlying 9 = some .string := by kernel_rfl

/-! ### The seed -/
theorem fuint_c {w : World} {u : Nat} (hT : Tab w) (hu : u < 18446744073709551616) : Calls Tryz.prog 25 #[.int .u64 u, .int .i64 10] w fun e w' => e = .returned (.string (S (dU u))) ∧ Fr [] w w' := by
  apply c25
  refine s_call (R := fun e w' => e = .returned (.string (S (dU u))) ∧ Fr [] w w') ?_ ?_
  · apply c51
    refine s_true rfl (s_ite (fun g => ?_) (fun g => ?_))
    · simp only [decide_eq_true_eq] at g
      rw [wrapI (by omega) (by omega)]
      refine s_call (Tryz.internal_strconv_small u (by omega) w) ?_
      rintro _ W ⟨rfl, rfl⟩
      exact ⟨_, rfl, s_asT (s_ret ⟨rfl, Fr.refl _ _⟩)⟩
    · simp only [decide_eq_false_iff_not] at g
      have hu1 : 1 ≤ u := by omega
      have hnd : Lib.nDigits u ≤ 20 := by have := dU_len hu; rwa [Lib.decDigits_length] at this
      refine s_new fun r W hr hz hf hc => ?_
      subst hr
      refine s_call (Tryz.internal_strconv_numDigits u hu1 hu W (hT.fr hf)) ?_
      rintro _ W2 ⟨rfl, e⟩
      rw [e]
      clear e
      refine ⟨_, rfl, s_asI (s_req ⟨by omega, by omega⟩ ?_)⟩
      rw [Int.toNat_natCast]
      have hH : Sort.Holds (fun (b : UInt8) => Value.int .u8 (b.toNat : Int)) W w.heap.size 0 (Array.replicate (Lib.nDigits u) (0 : UInt8)) := by
        intro j hj
        have hj' : j < Lib.nDigits u := by simpa using hj
        refine ⟨?_, hc.frozen (0 + j)⟩
        refine (hc.cell (i := 0 + j) (v := .int .u8 0) ?_).trans ?_
        · show (List.replicate 24 (Value.int .u8 0))[0 + j]? = _
          rw [List.getElem?_replicate, if_pos (by omega)]
        · rw [getElem!_pos _ j hj]
          simp
      have hfb := Tryz.internal_strconv_formatBase10 w.heap.size 0 24 u (Array.replicate (Lib.nDigits u) 0) W hH (by rw [Array.size_replicate]; exact Lib.lt_pow_nDigits u) hu (by rw [Array.size_replicate]; omega)
      rw [Array.size_replicate] at hfb
      refine s_call hfb ?_
      rintro _ _ ⟨rfl, k, v', dk, rfl, hF⟩
      refine ⟨_, rfl, s_req ⟨by omega, by omega⟩ ?_⟩
      have hlen : (u8 (dU u)).length = Lib.nDigits u := by rw [u8_len, Lib.decDigits_length]
      refine s_str bytesT byteT strT (l := u8 (dU u)) (n := Lib.nDigits u) ?_ hlen.symm ?_
      · refine .inr ⟨w.heap.size, 0, rfl, ?_, fun j r hr i v hv => ?_⟩
        · simp [World.drewN, Sort.putRow, Sort.mapBlock]
          omega
        · rw [List.getElem?_map] at hr
          obtain ⟨x, hx, rfl⟩ := Option.map_eq_some_iff.1 hr
          have hi : i = 0 := by
            have := (List.getElem?_eq_some_iff.1 hv).1
            simp [br] at this
            exact this
          subst hi
          have hv' : v = .int .u8 x := by simpa [br] using hv.symm
          subst hv'
          unfold u8 at hx
          rw [List.getElem?_map] at hx
          obtain ⟨b, hb, rfl⟩ := Option.map_eq_some_iff.1 hx
          obtain ⟨hj, hb'⟩ := List.getElem?_eq_some_iff.1 hb
          rw [← hb', Lib.row_is_numeral hF j hj, World.cell?_drewN, show 0 + j * 1 + 0 = 0 + j by omega]
          exact Sort.cell?_putRow (fun (b : UInt8) => Value.int .u8 (b.toNat : Int)) _ w.heap.size 0 _ dk hH (by rw [hF.size, Array.size_replicate]) j (by rw [hF.size]; rw [Lib.decDigits_length] at hj; exact hj)
      · rw [str_u8]
        refine s_asT (s_ret ⟨rfl, ?_⟩)
        refine hf.trans' (F := []) (G := [w.heap.size]) ⟨rfl, rfl, rfl, ?_, fun k hk hn => ?_⟩ (fun x hx => by simp at hx; right; omega)
        · simp [World.drewN, Sort.putRow, Sort.mapBlock]
        · simp at hn
          simp [World.drewN, Sort.putRow, Sort.mapBlock, Array.getElem?_modify]
          exact fun e => absurd e.symm hn
  · rintro _ W ⟨rfl, f⟩
    exact ⟨_, rfl, s_asT (s_ret ⟨rfl, f⟩)⟩

/-! ### Builders -/
section
variable {w w' : World} {B b : Nat} {bs : List Value}
abbrev Bld (B b : Nat) (bs : List Value) (w : World) : Prop := Lib.IsBuilder 67 5 B b bs w
theorem bld_new (h : Cells w b 67 [.pointer none, .slice none 0 0]) : Bld b b [] w :=
  .inl ⟨Nat.le_refl _, _, h, World.ownsRow_nil _ _ _ _, by simp [Value.ownBlock]⟩
theorem bldAt_fr {p : Value} (h : Lib.BuilderAt 67 5 B b p bs w) (hf : Fr [] w w') : Lib.BuilderAt 67 5 B b p bs w' := by
  obtain ⟨h1, v, h2, h3, h4⟩ := h
  have hlt : b < w.heap.size := (Array.getElem?_eq_some_iff.1 h2).1
  have hg : w.grownBy w' none := ⟨hf.os, hf.tape, hf.output, hf.size, fun k hk _ => hf.block k hk (by simp)⟩
  refine ⟨h1, v, (hf.block b hlt (by simp)).trans h2, ?_, h4⟩
  refine h3.kept hg ?_
  cases v.ownBlock with
  | none => exact .inl rfl
  | some k => exact .inr (by simp)
theorem bld_fr (h : Bld B b bs w) (hf : Fr [] w w') : Bld B b bs w' := h.imp (fun h => bldAt_fr h hf) (fun h => bldAt_fr h hf)
theorem wbyte_c {c : Int} (h : Bld B b bs w) (hlen : bs.length + 1 ≤ 140737488355328) (hB : B ≤ w.heap.size) : Calls Tryz.prog 31 #[.pointer (some ⟨b, 0, none⟩), .int .u8 c] w fun e w' =>
    e = .returned .nilIface ∧ Bld B b (bs ++ [.int .u8 c]) w' ∧ Below B w w' :=
  (Any.Builder_WriteByte Tryz.laysW167 Tryz.Builder_Extra_W B b bs c w h hlen hB).mono fun e w' ⟨h1, h2, h3⟩ => ⟨h1, .inr h2, h3⟩
theorem wstr_c {s : List UInt8} (h : Bld B b bs w) (hlen : bs.length + s.length ≤ 140737488355328) (hB : B ≤ w.heap.size) : Calls Tryz.prog 22 #[.pointer (some ⟨b, 0, none⟩), .string (S s)] w fun e w' =>
    e = .returned (.tuple #[.int .i64 s.length, .nilIface]) ∧ Bld B b (bs ++ Lib.byteCells s) w' ∧ Below B w w' :=
  (Any.Builder_WriteString Tryz.laysW166 Tryz.Builder_Extra_W B b bs (S s) w h (by rw [S_size]; exact hlen) hB).mono fun e w' ⟨h1, h2, h3⟩ => ⟨by rw [h1, S_size], .inr h2, h3⟩
theorem string_c {l : List UInt8} (h : Bld B b (Lib.byteCells l) w) (hB : B ≤ w.heap.size) : Calls Tryz.prog 27 #[.pointer (some ⟨b, 0, none⟩)] w fun e w' => e = .returned (.string (S l)) ∧ Below B w w' :=
  Tryz.Builder_String_any B b l w h hB
end

/-! ### Bytes as a word -/
def dg (k : Nat) : UInt8 := (#[48, 49, 50, 51, 52, 53, 54, 55, 56, 57, 97, 98, 99, 100, 101, 102] : Array UInt8).getD k 0
def hexW (c : Int) : List UInt8 := [dg (c / 16).toNat, dg (c % 16).toNat]
def hexs (l : List Int) : List UInt8 := l.flatMap hexW
def hexL (l : List Int) : List UInt8 := if l = [] then [45] else hexs l
def IsByte (c : Int) : Prop := 0 ≤ c ∧ c < 256
theorem hexs_len (l : List Int) : (hexs l).length = 2 * l.length := by
  induction l with
  | nil => rfl
  | cons a l ih => rw [hexs, List.flatMap_cons, List.length_append, ← hexs, ih, List.length_cons]; simp [hexW]; omega
theorem hexL_len (l : List Int) : (hexL l).length ≤ 2 * l.length + 1 := by
  unfold hexL
  split
  · simp
  · rw [hexs_len]; omega
theorem hexs_snoc (l : List Int) (c : Int) : hexs (l ++ [c]) = hexs l ++ hexW c := by simp [hexs]
theorem byte_fin {p : Int → Prop} (h : ∀ k : Fin 256, p (k.val : Int)) {c : Int} (hc : IsByte c) : p c := by
  have := h ⟨c.toNat, by have := hc.1; have := hc.2; omega⟩
  have e : ((c.toNat : Nat) : Int) = c := Int.toNat_of_nonneg hc.1
  rwa [e] at this
theorem shr4 {c : Int} (hc : IsByte c) : shrI .u8 c 4 = c / 16 := byte_fin (p := fun c => shrI .u8 c 4 = c / 16) (by decide) hc
theorem and15 {c : Int} (hc : IsByte c) : bitsI .and .u8 c 15 = c % 16 := byte_fin (p := fun c => bitsI .and .u8 c 15 = c % 16) (by decide) hc
theorem tdiv16 {c : Int} (hc : IsByte c) : IntKind.wrap .u8 (Int.tdiv c 16) = c / 16 := byte_fin (p := fun c => IntKind.wrap .u8 (Int.tdiv c 16) = c / 16) (by decide) hc
theorem tmod16 {c : Int} (hc : IsByte c) : Int.tmod c 16 = c % 16 := byte_fin (p := fun c => Int.tmod c 16 = c % 16) (by decide) hc

section
variable {w : World} {o : Option Addr} {l : List Int} {n cap : Nat}
theorem hex_c (h : BytAt w o l) (hn : n = l.length) (hb : ∀ c ∈ l, IsByte c) (hsz : l.length ≤ 1048576) : Calls Tryz.prog 12 #[.slice o n cap] w fun e w' => e = .returned (.string (S (hexL l))) ∧ Fr [] w w' := by
  subst hn
  apply c12
  refine s_ite (fun g => ?_) (fun g => ?_)
  · have : l = [] := by
      simp only [beq_iff_eq] at g
      exact List.eq_nil_of_length_eq_zero (by omega)
    subst this
    exact s_ret ⟨rfl, Fr.refl _ _⟩
  · have hne : l ≠ [] := by
      rintro rfl
      simp at g
    refine s_new fun r W hr hz hf hc => ?_
    subst hr
    refine s_loop (fun vs W => ∃ i : Nat, vs = [.int .i64 i] ∧ i ≤ l.length ∧ Below w.heap.size w W ∧ Bld w.heap.size w.heap.size (Lib.byteCells (hexs (l.take i))) W) (fun vs _ => l.length - (intOf (vs.getD 0 undef)).toNat)
      ⟨0, rfl, by omega, hf.below (Nat.le_refl _), bld_new hc⟩ ?_
    clear hf hc
    rintro _ j W ⟨i, rfl, hi, hB, hb1⟩
    refine s_asI (s_ite (fun g1 => ?_) (fun g1 => ?_))
    · simp only [decide_eq_true_eq] at g1
      have hlt : i < l.length := by omega
      obtain ⟨c, hx⟩ : ∃ c, l[i]? = some c := ⟨_, List.getElem?_eq_getElem hlt⟩
      have hcb := hb c (List.mem_of_getElem? hx)
      have h0 := hcb.1
      have h1 := hcb.2
      obtain ⟨g2, off, rfl, p1⟩ := (h.fr0 (Fr.of_below hB)).get hx
      have hl1 : (hexs (l.take i)).length ≤ 2 * 1048576 := by rw [hexs_len, List.length_take]; omega
      refine s_req ⟨by omega, by omega⟩ (s_sm (s_loadI p1 (s_req (by decide) ?_)))
      rw [shr4 hcb, and15 hcb]
      refine s_req ⟨by omega, by omega⟩ (s_call (wbyte_c (c := ((dg (c / 16).toNat).toNat : Int)) hb1 (by rw [Lib.byteCells_length]; omega) hB.size) ?_)
      rintro _ W1 ⟨rfl, hb2, f1⟩
      refine ⟨_, rfl, s_req ⟨by omega, by omega⟩ (s_call (wbyte_c (c := ((dg (c % 16).toNat).toNat : Int)) hb2 (by rw [List.length_append, Lib.byteCells_length]; simp; omega) (Nat.le_trans hB.size f1.size)) ?_)⟩
      rintro _ W2 ⟨rfl, hb3, f2⟩
      refine ⟨_, rfl, s_next (by first | exact ⟨rfl, rfl⟩ | trivial) ?_⟩
      simp (config := { decide := true }) only [if_true, if_false]
      refine ⟨⟨i + 1, by rw [w_succ (by omega)], by omega, (hB.trans f1).trans f2, ?_⟩, by rw [w_succ (by omega)]; simp [intOf] <;> omega⟩
      rw [List.take_add_one, hx, Option.toList_some, hexs_snoc, byteCells_append]
      rw [List.append_assoc] at hb3
      exact hb3
    · simp only [decide_eq_false_iff_not] at g1
      rw [List.take_of_length_le (by omega)] at hb1
      refine s_call (string_c hb1 hB.size) ?_
      rintro _ W1 ⟨rfl, f1⟩
      refine ⟨_, rfl, s_asT (s_ret ⟨?_, Fr.of_below (hB.trans f1)⟩)⟩
      rw [hexL, if_neg hne]

theorem rhex_c (h : BytAt w o l) (hn : n = l.length) (hb : ∀ c ∈ l, IsByte c) (hsz : l.length ≤ 1048576) : Calls Tryz.prog 84 #[.slice o n cap] w fun e w' => e = .returned (.string (S (hexL l))) ∧ Fr [] w w' := by
  subst hn
  apply c84
  refine s_ite (fun g => ?_) (fun g => ?_)
  · have : l = [] := by
      simp only [beq_iff_eq] at g
      exact List.eq_nil_of_length_eq_zero (by omega)
    subst this
    exact s_ret ⟨rfl, Fr.refl _ _⟩
  · have hne : l ≠ [] := by
      rintro rfl
      simp at g
    refine s_loop (fun vs W => ∃ (i : Nat) (v : Value) (c : Hp), vs = [v, .int .i64 i] ∧ i ≤ l.length ∧ OwnC 5 1 v (2 * i) (Lib.byteCells (hexs (l.take i))) c ∧ Has w W c) (fun vs _ => l.length - (intOf (vs.getD 1 undef)).toNat)
      ⟨0, _, [], rfl, by omega, OwnC.nil, Has.init w⟩ ?_
    rintro _ j W ⟨i, v, c, rfl, hi, ho, H⟩
    obtain ⟨ov, cv, rfl⟩ := ho.slice
    refine s_asS (s_asI (s_ite (fun g1 => ?_) (fun g1 => ?_)))
    · simp only [decide_eq_true_eq] at g1
      have hlt : i < l.length := by omega
      obtain ⟨x, hx⟩ : ∃ c, l[i]? = some c := ⟨_, List.getElem?_eq_getElem hlt⟩
      have hcb := hb x (List.mem_of_getElem? hx)
      have h0 := hcb.1
      have h1 := hcb.2
      refine h_drew H fun u H => ?_
      obtain ⟨g2, off, rfl, p1⟩ := (h.fr0 H.base).get hx
      refine s_req ⟨by omega, by omega⟩ (s_sm (s_loadI p1 (s_req (by decide) ?_)))
      rw [tdiv16 hcb]
      refine s_req ⟨by omega, by omega⟩ (s_req ⟨by omega, by omega⟩ (s_sm (s_loadI p1 (s_req (by decide) ?_))))
      rw [tmod16 hcb]
      refine s_req ⟨by omega, by omega⟩ ?_
      have hf := H.base
      (refine h_new H fun n15 u H => ?_)
      have p2 := (h.fr0 H.base).get hx
      obtain ⟨g3, off3, he3, p3⟩ := p2
      simp only [Option.some.injEq, Addr.mk.injEq] at he3
      obtain ⟨rfl, rfl, _⟩ := he3
      refine s_chk ⟨p3, p3, trivial⟩ ?_
      have hrd : Reads u ⟨n15, 0, none⟩ (Lib.byteCells (hexW x)) := (H.cells (by repeat (first | exact pick_head | apply pick_tail | apply pick_app))).reads
      refine h_app (j := 2) (news := Lib.byteCells (hexW x)) elemB H (by repeat (first | exact cut_head | exact cut_all | apply cut_tail | apply cut_app)) ho rfl hrd (by intro u hu; simp [Lib.byteCells, hexW] at hu; rcases hu with rfl | rfl <;> rfl) (by omega) (by omega) ?_
      intro v' c' u ho' H _
      obtain ⟨o', cap', rfl⟩ := ho'.slice
      obtain ⟨g4, off4, he4, p4⟩ := (h.fr0 H.base).get hx
      simp only [Option.some.injEq, Addr.mk.injEq] at he4
      obtain ⟨rfl, rfl, _⟩ := he4
      refine s_asS (s_chk ⟨p4, p4, trivial⟩ (s_next (by first | exact ⟨rfl, rfl⟩ | trivial) ?_))
      simp (config := { decide := true }) only [if_true, if_false]
      refine ⟨⟨i + 1, _, c', by rw [w_succ (by omega)], by omega, ?_, H.sub (by repeat (first | exact sb_refl | exact sb_nil | refine sb_cons (by repeat (first | exact pick_head | apply pick_tail | apply pick_app)) ?_ | refine sb_app (by repeat (first | exact cut_head | exact cut_all | apply cut_tail | apply cut_app)) ?_ | exact sb_one (by repeat (first | exact cut_head | exact cut_all | apply cut_tail | apply cut_app))))⟩, by rw [w_succ (by omega)]; simp [intOf] <;> omega⟩
      rw [List.take_add_one, hx, Option.toList_some, hexs_snoc, byteCells_append, Nat.mul_add]
      exact ho'
    · simp only [decide_eq_false_iff_not] at g1
      rw [List.take_of_length_le (by omega)] at ho
      have hl : (u8 (hexs l)).length = 2 * i := by rw [u8_len, hexs_len]; omega
      rw [← byts_u8] at ho
      refine s_str bytesT byteT strT (l := u8 (hexs l)) (bytAt_own ho H (by repeat (first | exact cut_head | exact cut_all | apply cut_tail | apply cut_app))) hl.symm ?_
      rw [str_u8]
      refine s_asT (s_ret ⟨?_, H.base⟩)
      rw [hexL, if_neg hne]
end
end Go.Proofs.YtihipcofjpnfbaaGreatDoor
