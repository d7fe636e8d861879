/- Words read back: plain. -/
import Derived.Test.YtihipcofjpnfbaaGreatDoorSplP
import Derived.Test.YtihipcofjpnfbaaGreatDoorUnhW
import Derived.Test.YtihipcofjpnfbaaGreatDoorLiveW
import Derived.Test.YtihipcofjpnfbaaGreatDoorTreesP
import Derived.Lib.ParseIntBCases
import Derived.Lib.ParseIntBTie
set_option linter.unusedVariables false
set_option linter.unusedSimpArgs false
set_option maxRecDepth 100000
set_option maxHeartbeats 4000000
namespace Go.Proofs.YtihipcofjpnfbaaGreatDoor
open Go hiding Expr
open Go.RowKit Tr

/-! ### Bytes as a word, and back -/
theorem dgt_inv : ∀ x : Fin 256, dgt (x.val : Int) < 16 → 0 ≤ dgt (x.val : Int) ∧ ((dg (dgt (x.val : Int)).toNat).toNat : Nat) = x.val := by decide
theorem dg_dgt : ∀ a : Fin 16, dgt ((dg a.val).toNat : Int) = (a.val : Int) := by decide
theorem unhP_hexs : ∀ {b : List Int}, (∀ c ∈ b, IsByte c) → unhP (hexs b) = some b
  | [], _ => rfl
  | c :: r, h => by
    have hc := h c (by simp)
    have ih := unhP_hexs (b := r) (fun x hx => h x (by simp [hx]))
    have e : hexs (c :: r) = dg (c / 16).toNat :: dg (c % 16).toNat :: hexs r := by simp [hexs, hexW]
    have h1 := dg_dgt ⟨(c / 16).toNat, by have := hc.1; have := hc.2; omega⟩
    have h2 := dg_dgt ⟨(c % 16).toNat, by omega⟩
    simp only at h1 h2
    rw [e, unhP, h1, h2, ih]
    have := hc.1
    have := hc.2
    rw [if_pos ⟨by omega, by omega⟩, Option.map_some]
    congr 2
    omega
theorem unhP_some : ∀ {s : List UInt8} {b : List Int}, unhP s = some b → s = hexs b ∧ ∀ c ∈ b, IsByte c
  | [], b, h => by cases h; simp [hexs]
  | [_], b, h => by cases h
  | x :: y :: r, b, h => by
    rw [unhP] at h
    split at h
    · rename_i hd
      cases hr : unhP r with
      | none => rw [hr] at h; cases h
      | some l =>
        rw [hr] at h
        cases h
        obtain ⟨h1, h2⟩ := unhP_some hr
        have hx := dgt_inv ⟨x.toNat, x.toNat_lt⟩ hd.1
        have hy := dgt_inv ⟨y.toNat, y.toNat_lt⟩ hd.2
        simp only at hx hy
        have ex : dg (dgt x.toNat).toNat = x := by apply UInt8.toNat_inj.1; exact hx.2
        have ey : dg (dgt y.toNat).toNat = y := by apply UInt8.toNat_inj.1; exact hy.2
        refine ⟨?_, fun c hc => ?_⟩
        · have e1 : (16 * dgt x.toNat + dgt y.toNat) / 16 = dgt x.toNat := by omega
          have e2 : (16 * dgt x.toNat + dgt y.toNat) % 16 = dgt y.toNat := by omega
          rw [h1]
          simp [hexs, hexW, e1, e2, ex, ey]
        · rcases List.mem_cons.1 hc with rfl | hc
          · exact ⟨by omega, by omega⟩
          · exact h2 c hc
    · cases h
theorem hexs_45 {b : List Int} : hexs b ≠ [45] := fun h => by
  have h1 := hexs_len b
  rw [h] at h1
  simp at h1
  omega
theorem unh_hexL {b : List Int} (h : ∀ c ∈ b, IsByte c) : unhR (hexL b) = (b, true) := by
  unfold hexL
  by_cases hb : b = []
  · rw [if_pos hb, hb]; rfl
  · rw [if_neg hb]
    have hl := hexs_len b
    have h0 : 0 < b.length := List.length_pos_iff.2 hb
    unfold unhR
    rw [if_neg hexs_45, if_neg (by omega), unhP_hexs h]
theorem unh_true {s : List UInt8} (h : (unhR s).2 = true) : s = hexL (unhR s).1 ∧ (∀ c ∈ (unhR s).1, IsByte c) ∧ 2 * (unhR s).1.length ≤ s.length := by
  unfold unhR at h ⊢
  by_cases h1 : s = [45]
  · rw [if_pos h1, h1]
    refine ⟨rfl, by simp, by simp⟩
  · rw [if_neg h1] at h ⊢
    by_cases h2 : s.length = 0 ∨ s.length % 2 ≠ 0
    · rw [if_pos h2] at h; cases h
    · rw [if_neg h2] at h ⊢
      cases hu : unhP s with
      | none => rw [hu] at h; cases h
      | some l =>
        obtain ⟨h3, h4⟩ := unhP_some hu
        have hl := hexs_len l
        rw [← h3] at hl
        refine ⟨?_, h4, by simp only; omega⟩
        simp only
        unfold hexL
        rw [if_neg (fun e => by subst e; simp at hl; exact h2 (.inl (by rw [hl]; rfl)))]
        exact h3

/-! ### Words of a step, field by field -/
theorem kw_app {a b : List K} {r r' : List W} (hl : a.length = b.length) (h : kw a ++ r = kw b ++ r') : a = b ∧ r = r' := by
  obtain ⟨h3, h4⟩ := List.append_inj h (by rw [kw_len, kw_len, hl])
  exact ⟨kw_inj h3, h4⟩
theorem txW_app {a b : TX} {r r' : List W} (ha : TxOk a) (hb : TxOk b) (h : txW a ++ r = txW b ++ r') : (a.code = b.code ∧ a.args = b.args ∧ a.rd = b.rd ∧ a.wr = b.wr) ∧ r = r' := by
  unfold txW at h
  simp only [List.cons_append, List.append_assoc, List.nil_append] at h
  obtain ⟨_, h⟩ := List.cons.inj h
  obtain ⟨h1, h⟩ := List.cons.inj h
  obtain ⟨_, h⟩ := List.cons.inj h
  obtain ⟨h2, h⟩ := List.cons.inj h
  have hl : a.args.length = b.args.length := by have := dI_inj h2; omega
  obtain ⟨h3, h⟩ := List.append_inj h (by rw [List.length_map, List.length_map, hl])
  obtain ⟨_, h⟩ := List.cons.inj h
  obtain ⟨h4, h⟩ := keysW_inj h
  obtain ⟨_, h⟩ := List.cons.inj h
  obtain ⟨h5, h6⟩ := keysW_inj h
  exact ⟨⟨hexL_inj ha.code hb.code h1, map_dI_inj h3, h4, h5⟩, h6⟩
def fieldW (x : ST) (f : Int) : List W :=
  if f = 0 then [dI x.at_] else if f = 1 then [dI x.client] else if f = 2 then txW x.tx else if f = 3 then keysW x.keys else if f = 4 then [dI x.frm, dI x.dst] else if f = 5 then [dI x.place] else if f = 6 then [dI x.wth] else if f = 7 then [dI x.keep] else [dI x.count]
def TxZ (x : ST) : Prop := x.tx.s = 0 ∧ x.tx.q = 0
theorem cons2 {a b c d : W} {r r' : List W} (h : [a, b] ++ r = [c, d] ++ r') : a = c ∧ b = d ∧ r = r' := by
  obtain ⟨h1, h⟩ := List.cons.inj h
  obtain ⟨h2, h⟩ := List.cons.inj h
  exact ⟨h1, h2, h⟩
theorem cons1 {a c : W} {r r' : List W} (h : [a] ++ r = [c] ++ r') : a = c ∧ r = r' := List.cons.inj h
/-- What a field's words say, they say alone. -/
theorem field_eq {f : Int} (hf : IsField f) (z z' : ST) (hz : zf z f = zf z' f) (hw : fieldW z f = fieldW z' f) (o1 : TxOk z.tx) (o2 : TxOk z'.tx) (t1 : TxZ z) (t2 : TxZ z') : z = z' := by
  obtain ⟨k1, a1, c1, ⟨s1, q1, co1, ar1, rd1, wr1⟩, ks1, f1, d1, p1, w1, e1, n1⟩ := z
  obtain ⟨k2, a2, c2, ⟨s2, q2, co2, ar2, rd2, wr2⟩, ks2, f2, d2, p2, w2, e2, n2⟩ := z'
  rcases hf with rfl | rfl | rfl | rfl | rfl | rfl | rfl | rfl | rfl
  · have hw : [dI a1] = [dI a2] := hw
    have e := dI_inj (List.cons.inj hw).1
    simp only [zf, if_true, ST.mk.injEq] at hz ⊢
    simp [hz, e]
  · have hw : [dI c1] = [dI c2] := hw
    have e := dI_inj (List.cons.inj hw).1
    simp [zf] at hz ⊢
    simp [hz, e]
  · have hw : txW ⟨s1, q1, co1, ar1, rd1, wr1⟩ = txW ⟨s2, q2, co2, ar2, rd2, wr2⟩ := hw
    obtain ⟨e3, e4, e5, e6⟩ := txW_inj o1 o2 hw
    simp only at e3 e4 e5 e6
    have t1' : s1 = 0 ∧ q1 = 0 := t1
    have t2' : s2 = 0 ∧ q2 = 0 := t2
    simp [zf] at hz ⊢
    simp [hz, e3, e4, e5, e6, t1', t2']
  · have hw : keysW ks1 = keysW ks2 := hw
    have e : ks1 = ks2 := (keysW_inj (a := ks1) (b := ks2) (r := []) (r' := []) (by rw [List.append_nil, List.append_nil]; exact hw)).1
    simp [zf] at hz ⊢
    simp [hz, e]
  · have hw : [dI f1, dI d1] = [dI f2, dI d2] := hw
    have e := dI_inj (List.cons.inj hw).1
    have e' := dI_inj (List.cons.inj (List.cons.inj hw).2).1
    simp [zf] at hz ⊢
    simp [hz, e, e']
  · have hw : [dI p1] = [dI p2] := hw
    have e := dI_inj (List.cons.inj hw).1
    simp [zf] at hz ⊢
    simp [hz, e]
  · have hw : [dI w1] = [dI w2] := hw
    have e := dI_inj (List.cons.inj hw).1
    simp [zf] at hz ⊢
    simp [hz, e]
  · have hw : [dI e1] = [dI e2] := hw
    have e := dI_inj (List.cons.inj hw).1
    simp [zf] at hz ⊢
    simp [hz, e]
  · have hw : [dI n1] = [dI n2] := hw
    have e := dI_inj (List.cons.inj hw).1
    simp [zf] at hz ⊢
    simp [hz, e]
theorem field_words {x y : ST} {f : Int} {r r' : List W} (hf : IsField f) (ox : TxOk x.tx) (oy : TxOk y.tx) (h : fieldW x f ++ r = fieldW y f ++ r') : fieldW x f = fieldW y f ∧ r = r' := by
  rcases hf with rfl | rfl | rfl | rfl | rfl | rfl | rfl | rfl | rfl
  · obtain ⟨h1, h2⟩ := cons1 (h : [dI x.at_] ++ r = [dI y.at_] ++ r')
    exact ⟨by show [dI x.at_] = [dI y.at_]; rw [h1], h2⟩
  · obtain ⟨h1, h2⟩ := cons1 (h : [dI x.client] ++ r = [dI y.client] ++ r')
    exact ⟨by show [dI x.client] = [dI y.client]; rw [h1], h2⟩
  · obtain ⟨⟨h1, h2, h3, h4⟩, h5⟩ := txW_app ox oy (h : txW x.tx ++ r = txW y.tx ++ r')
    exact ⟨by show txW x.tx = txW y.tx; unfold txW; rw [h1, h2, h3, h4], h5⟩
  · obtain ⟨h1, h2⟩ := keysW_inj (h : keysW x.keys ++ r = keysW y.keys ++ r')
    exact ⟨by show keysW x.keys = keysW y.keys; rw [h1], h2⟩
  · obtain ⟨h1, h2, h3⟩ := cons2 (h : [dI x.frm, dI x.dst] ++ r = [dI y.frm, dI y.dst] ++ r')
    exact ⟨by show [dI x.frm, dI x.dst] = [dI y.frm, dI y.dst]; rw [h1, h2], h3⟩
  · obtain ⟨h1, h2⟩ := cons1 (h : [dI x.place] ++ r = [dI y.place] ++ r')
    exact ⟨by show [dI x.place] = [dI y.place]; rw [h1], h2⟩
  · obtain ⟨h1, h2⟩ := cons1 (h : [dI x.wth] ++ r = [dI y.wth] ++ r')
    exact ⟨by show [dI x.wth] = [dI y.wth]; rw [h1], h2⟩
  · obtain ⟨h1, h2⟩ := cons1 (h : [dI x.keep] ++ r = [dI y.keep] ++ r')
    exact ⟨by show [dI x.keep] = [dI y.keep]; rw [h1], h2⟩
  · obtain ⟨h1, h2⟩ := cons1 (h : [dI x.count] ++ r = [dI y.count] ++ r')
    exact ⟨by show [dI x.count] = [dI y.count]; rw [h1], h2⟩
end Go.Proofs.YtihipcofjpnfbaaGreatDoor

/- The program's reader: words taken one by one, numbers, keys. -/
set_option linter.unusedVariables false
set_option linter.unusedSimpArgs false
set_option maxRecDepth 100000
set_option maxHeartbeats 4000000
namespace Go.Proofs.YtihipcofjpnfbaaGreatDoor
open Go hiding Expr
open Go.RowKit Tr

theorem s_call2p {P : Program} {Q : Ending → World → Prop} {ρ : Lv} {w : World} {f : FuncId} {args : List Value} {k kp : Value → T} {R : Ending → World → Prop} (h : Calls P f ⟨args⟩ w R)
    (hk : ∀ e w', R e w' → (∃ v, e = .returned v ∧ (k v).sem P Q ρ w') ∨ (∃ v, e = .panicked [{ v, recovered := false }] ∧ (kp v).sem P Q ρ w')) : (T.call2 f args k kp).sem P Q ρ w := h.mono hk

theorem s_pan {P : Program} {Q : Ending → World → Prop} {ρ : Lv} {w : World} {v : Value} (h : Q (.panicked [{ v, recovered := false }]) w) : (T.pan v).sem P Q ρ w := h
theorem s_loadT {P : Program} {Q : Ending → World → Prop} {ρ : Lv} {w : World} {b off : Nat} {n : ByteArray} {k : ByteArray → T} (h : w.cell? ⟨b, off, none⟩ = some (.string n)) (hk : (k n).sem P Q ρ w) : (T.ldT b off k).sem P Q ρ w := ⟨n, h, hk⟩
/-! ### Numbers -/
theorem parseM_dU (M : Nat) (hM : M ≤ 18446744073709551615) (u : Nat) : u ≤ M → ∀ r, Lib.parseUintM M 0 (dU u ++ r) = Lib.parseUintM M u r := by
  induction u using Nat.strongRecOn with
  | ind u ih =>
    intro hu r
    show Lib.parseUintM M 0 (Lib.decDigits u ++ r) = _
    rw [Lib.decDigits]
    split
    · rename_i h
      have h1 : (UInt8.ofNat (48 + u)).toNat = 48 + u := by rw [UInt8.toNat_ofNat']; omega
      rw [List.singleton_append, Lib.parseUintM, h1, if_pos ⟨by omega, by omega⟩, if_neg (by omega), if_neg (by omega)]
      congr 1
      omega
    · rename_i h
      have h1 : (UInt8.ofNat (48 + u % 10)).toNat = 48 + u % 10 := by rw [UInt8.toNat_ofNat']; omega
      rw [List.append_assoc, ih (u / 10) (by omega) (by omega), List.singleton_append, Lib.parseUintM, h1, if_pos ⟨by omega, by omega⟩, if_neg (by omega), if_neg (by omega)]
      congr 1
      omega
theorem dU_ne (u : Nat) : dU u ≠ [] := by
  show Lib.decDigits u ≠ []
  rw [Lib.decDigits]
  split <;> simp
theorem parseU_dU {u : Nat} (hu : u < 18446744073709551616) : Lib.parseUintB 64 (dU u) = .ok u := by
  unfold Lib.parseUintB
  rw [if_neg (dU_ne u)]
  have := parseM_dU (2 ^ 64 - 1) (by decide) u (by omega) []
  rw [List.append_nil] at this
  rw [this]
  rfl
theorem parseI_dI {n : Int} (h : In64 n) : Lib.parseIntB 64 (dI n) = .ok n := by
  obtain ⟨h0, h1⟩ := h
  show Lib.parseIntB 64 (Lib.itoa n) = _
  unfold Lib.itoa
  split
  · rename_i hn
    have e := parseU_dU (u := n.natAbs) (by omega)
    rw [Lib.parseIntB_minus]
    show Lib.signedC (2 ^ (64 - 1)) (Lib.parseUintB 64 (dU n.natAbs)) = _
    rw [e]
    unfold Lib.signedC
    simp only
    rw [if_neg (by have : (2 : Nat) ^ (64 - 1) = 9223372036854775808 := by decide
                   omega)]
    congr 1
    omega
  · rename_i hn
    have e := parseU_dU (u := n.toNat) (by omega)
    have hm := dU_mem n.toNat
    cases hd : Lib.decDigits n.toNat with
    | nil => exact absurd hd (dU_ne _)
    | cons c r =>
      have hc := hm c (by show c ∈ Lib.decDigits n.toNat; rw [hd]; simp)
      rw [Lib.parseIntB_plain _ _ _ (by omega) (by omega), ← hd]
      show Lib.signlessC (2 ^ (64 - 1)) (Lib.parseUintB 64 (dU n.toNat)) = _
      rw [e]
      unfold Lib.signlessC
      simp only
      rw [if_neg (by have : (2 : Nat) ^ (64 - 1) = 9223372036854775808 := by decide
                     omega)]
      congr 1
      omega
theorem Tr.Fr.bytes {w w' : World} {e : TypeId} (h : w' = w ∨ ∃ t, w' = Lib.bytesWorld w e t) : Fr [] w w' := by
  rcases h with rfl | ⟨t, rfl⟩
  · exact Fr.refl _ _
  · exact Fr.of_below (Lib.bytesWorld_below w e t)
section
variable {w : World}
theorem pint_c (hE : ErrAt w) {s : List UInt8} (hsz : s.length ≤ 2097152) : Calls Tryz.prog 98 #[.string (S s), .int .i64 10, .int .i64 64] w fun e w' => ∃ n, Fr [] w w' ∧
    ((e = .returned (.tuple #[.int .i64 n, .nilIface]) ∧ In64 n ∧ Lib.parseIntB 64 s = .ok n) ∨ (∃ t p, e = .returned (.tuple #[.int .i64 n, .iface t p]) ∧ ∀ v, Lib.parseIntB 64 s ≠ .ok v)) := by
  have hs : (S s).size = s.length := S_size s
  have hl : (S s).data.toList = s := S_list s
  obtain ⟨⟨te, pe, h1⟩, ⟨te2, pe2, h2⟩, _⟩ := hE
  rcases hp : Lib.parseIntB 64 s with v | _ | _
  · have hb := Lib.parseIntB_bounds hp
    refine (Tryz.strconv_ParseInt_10_at64_ok (S s) (by omega) v (by rw [hl]; exact hp) w).mono ?_
    rintro e u ⟨rfl, hw⟩
    refine ⟨v, Tr.Fr.bytes hw, .inl ⟨rfl, ?_, rfl⟩⟩
    have : ((2 : Nat) ^ (64 - 1) : Nat) = 9223372036854775808 := by decide
    rw [this] at hb
    exact ⟨by omega, by omega⟩
  · refine (Tryz.strconv_ParseInt_10_at64_syntax (S s) (by omega) (by rw [hl, hp]; exact ⟨fun v hv => (by cases hv), fun hv => (by cases hv)⟩) _ w h1 (.inr ⟨te, pe, rfl⟩)).mono ?_
    rintro e u ⟨N, rfl, _, _, hb⟩
    exact ⟨_, Fr.of_below hb, .inr ⟨_, _, rfl, fun v hv => by cases hv⟩⟩
  · refine (Tryz.strconv_ParseInt_10_at64_range (S s) (by omega) (by rw [hl]; exact hp) _ w h2 (.inr ⟨te2, pe2, rfl⟩)).mono ?_
    rintro e u ⟨N, rfl, _, _, hb⟩
    exact ⟨_, Fr.of_below hb, .inr ⟨_, _, rfl, fun v hv => by cases hv⟩⟩
end

/-! ### Words in memory -/
def panW : Ending := .panicked [{ v := .iface 44 (.agg ⟨[]⟩), recovered := false }]
def WB (ws : List W) : Prop := ws.length ≤ 1048577 ∧ ∀ s ∈ ws, s.length ≤ 1048576
theorem WB.tail {s : W} {r : List W} (h : WB (s :: r)) : WB r := ⟨by have := h.1; simp at this; omega, fun x hx => h.2 x (by simp [hx])⟩
theorem WB.app {a r : List W} (h : WB (a ++ r)) : WB r := ⟨by have := h.1; simp at this; omega, fun x hx => h.2 x (by simp [hx])⟩
/-- What the program's reader may have before it. -/
def WC (ws : List W) : Prop := ws.length ≤ 1048577 ∧ ∀ s ∈ ws, s.length ≤ 2097152
theorem WC.tail {s : W} {r : List W} (h : WC (s :: r)) : WC r := ⟨by have := h.1; simp at this; omega, fun x hx => h.2 x (by simp [hx])⟩
theorem WC.app {a r : List W} (h : WC (a ++ r)) : WC r := ⟨by have := h.1; simp at this; omega, fun x hx => h.2 x (by simp [hx])⟩
def WS (w0 : World) (m : Hp) (o : Option Addr) (n cap : Nat) (ws : List W) : Prop := n = ws.length ∧ n ≤ cap ∧ WC ws ∧ ∀ u, Has w0 u m → StrsAt u o ws
/-- A reader at p that has the words ws before it: they lie in b; x is what stands beside. -/
def Wd (w0 w : World) (p : Nat) (ws : List W) (b x : Hp) : Prop := ∃ o n cap, WS w0 b o n cap ws ∧ Has w0 w (cl p 46 [.slice o n cap] :: (x ++ b))
def Wp (w0 w : World) (p : Nat) (b x : Hp) : Prop := ∃ ws, Wd w0 w p ws b x
section
variable {w0 w w' : World} {p : Nat} {ws : List W} {b x x' c : Hp}
theorem Wd.wp (h : Wd w0 w p ws b x) : Wp w0 w p b x := ⟨ws, h⟩
theorem Wd.fr0 (h : Wd w0 w p ws b x) (hf : Fr [] w w') : Wd w0 w' p ws b x := by
  obtain ⟨o, n, cap, h1, h2⟩ := h
  exact ⟨o, n, cap, h1, h2.fr0 hf⟩
theorem Wd.base (h : Wd w0 w p ws b x) : Fr [] w0 w := by
  obtain ⟨o, n, cap, h1, h2⟩ := h
  exact h2.base
theorem Wd.wb (h : Wd w0 w p ws b x) : WC ws := by
  obtain ⟨o, n, cap, h1, h2⟩ := h
  exact h1.2.2.1
theorem Wd.has (h : Wd w0 w p ws b x) : ∃ v, Has w0 w (cl p 46 [v] :: (x ++ b)) := by
  obtain ⟨o, n, cap, h1, h2⟩ := h
  exact ⟨_, h2⟩
/-- What stands beside it may turn. -/
theorem Wd.turn (h : Wd w0 w p ws b x) : ∃ v, Has w0 w (cl p 46 [v] :: (x ++ b)) ∧ ∀ {w' : World} {x' : Hp}, Has w0 w' (cl p 46 [v] :: (x' ++ b)) → Wd w0 w' p ws b x' := by
  obtain ⟨o, n, cap, h1, h2⟩ := h
  exact ⟨_, h2, fun H => ⟨o, n, cap, h1, H⟩⟩
theorem Wd.join (h : Wd w0 w p ws b x) (h2 : Has w w' c) : Wd w0 w' p ws b (c ++ x) := by
  obtain ⟨v, H, hk⟩ := h.turn
  have H := H.join h2
  refine hk ?_
  rw [List.append_assoc]
  exact H.sub (by repeat (first | exact sb_refl | exact sb_nil | refine sb_cons (by repeat (first | exact pick_head | apply pick_tail | apply pick_app)) ?_ | refine sb_app (by repeat (first | exact cut_head | exact cut_all | apply cut_tail | apply cut_app)) ?_ | exact sb_one (by repeat (first | exact cut_head | exact cut_all | apply cut_tail | apply cut_app))))
theorem Wd.sub (h : Wd w0 w p ws b x) (hs : Sb x' x) : Wd w0 w p ws b x' := by
  obtain ⟨v, H, hk⟩ := h.turn
  refine hk ?_
  obtain ⟨y, hy⟩ := hs
  have H1 : Has w0 w (cl p 46 [v] :: ((x' ++ y) ++ b)) := H.perm (List.Perm.cons _ (hy.append_right b))
  rw [List.append_assoc] at H1
  exact H1.sub (by repeat (first | exact sb_refl | exact sb_nil | refine sb_cons (by repeat (first | exact pick_head | apply pick_tail | apply pick_app)) ?_ | refine sb_app (by repeat (first | exact cut_head | exact cut_all | apply cut_tail | apply cut_app)) ?_ | exact sb_one (by repeat (first | exact cut_head | exact cut_all | apply cut_tail | apply cut_app))))

theorem next_c (h : Wd w0 w p ws b x) : Calls Tryz.prog 36 #[.pointer (some ⟨p, 0, none⟩)] w fun e w' =>
    (ws = [] ∧ e = panW ∧ Wp w0 w' p b x) ∨ (∃ s r, ws = s :: r ∧ e = .returned (.string (S s)) ∧ Wd w0 w' p r b x) := by
  have hh := h
  obtain ⟨o, n, cap, ⟨h1, h3, h4, h5⟩, H⟩ := h
  subst h1
  apply c36
  cases ws with
  | nil =>
    refine s_blk (fun vs W => False) ?_ ?_
    · rintro vs j W hf
      exact absurd hf id
    · exact h_ldS H pick_head rfl (s_true rfl (s_pan (.inl ⟨rfl, rfl, hh.wp⟩)))
  | cons s r =>
    refine s_blk (fun vs W => vs = [] ∧ W = w) ?_ ?_
    · rintro _ j W ⟨rfl, rfl⟩
      obtain ⟨g, off, rfl, _, hc⟩ := RowsAt.at (h5 W H.drop.right) (j := 0) (r := sr s) rfl
      simp only [List.length_cons] at h3
      refine h_ldS H pick_head rfl (s_req ⟨by decide, by simp <;> omega⟩ (s_sm (s_loadT (hc 0 _ rfl) (h_ldS H pick_head rfl (s_req ⟨by decide, by simp <;> omega⟩ ?_)))))
      refine h_st H pick_head (by simp) rfl fun u H => s_ret (.inr ⟨s, r, rfl, rfl, sliceBase (some ⟨g, off, none⟩) 1 cap 1, (s :: r).length - 1, cap - 1, ⟨by simp, by simp; omega, h4.tail, fun u' hu => ?_⟩, H⟩)
      have := RowsAt.sub (k := 1) (cap := cap) (h5 u' hu) (by simp; omega)
      exact this
    · refine h_ldS H pick_head rfl (s_false ?_ (s_next ⟨rfl, rfl⟩ ⟨rfl, rfl⟩))
      simp
      omega
theorem is_c (h : Wd w0 w p ws b x) {t : W} : Calls Tryz.prog 34 #[.pointer (some ⟨p, 0, none⟩), .string (S t)] w fun e w' =>
    (∃ r, ws = t :: r ∧ e = .returned (.tuple #[]) ∧ Wd w0 w' p r b x) ∨ ((∀ r, ws ≠ t :: r) ∧ e = panW ∧ Wp w0 w' p b x) := by
  apply c34
  refine s_call2p (next_c h) ?_
  rintro e u (⟨rfl, rfl, hp⟩ | ⟨s, r, rfl, rfl, h⟩)
  · exact .inr ⟨_, rfl, s_pan (.inr ⟨(fun r hr => by cases hr), rfl, hp⟩)⟩
  · refine .inl ⟨_, rfl, s_asT (s_ite (fun g => s_pan (.inr ⟨fun r' hr => ?_, rfl, h.wp⟩)) (fun g => s_ret (.inl ⟨r, ?_, rfl, h⟩)))⟩
    · rw [S_toList, S_toList] at g
      have := (List.cons.inj hr).1
      subst this
      simp at g
    · rw [S_toList, S_toList] at g
      have : s = t := by simpa using g
      rw [this]
section
variable (hT : Tab w0) (hE : ErrAt w0)
include hT hE
theorem long_c (h : Wd w0 w p ws b x) : Calls Tryz.prog 64 #[.pointer (some ⟨p, 0, none⟩)] w fun e w' =>
    (∃ n r, ws = dI n :: r ∧ In64 n ∧ e = .returned (.int .i64 n) ∧ Wd w0 w' p r b x) ∨ ((∀ n r, In64 n → ws ≠ dI n :: r) ∧ e = panW ∧ Wp w0 w' p b x) := by
  have hwb := h.wb
  apply c64
  refine s_call2p (next_c h) ?_
  rintro e u (⟨rfl, rfl, hp⟩ | ⟨s, r, rfl, rfl, h⟩)
  · exact .inr ⟨_, rfl, s_pan (.inr ⟨(fun n r _ hr => by cases hr), rfl, hp⟩)⟩
  · refine .inl ⟨_, rfl, s_asT (s_call (pint_c (errFr hE h.base) (hwb.2 s (by simp))) ?_)⟩
    rintro e u ⟨n, f, (⟨rfl, hn, hok⟩ | ⟨t, p2, rfl, hno⟩)⟩
    · have h := h.fr0 f
      refine ⟨_, rfl, s_asU (s_req rfl (s_asI (s_blk (fun vs W => vs = [] ∧ s = dI n ∧ Wd w0 W p r b x) ?_ ?_)))⟩
      · clear h
        rintro _ j W ⟨rfl, rfl, h'⟩
        exact s_ret (.inl ⟨n, r, rfl, hn, rfl, h'⟩)
      · refine s_req (.inl rfl) (s_false rfl (s_call (num64_c (hT.fr h.base) hn) ?_))
        rintro _ u ⟨rfl, f⟩
        have h := h.fr0 f
        refine ⟨_, rfl, s_asT (s_ite (fun g => s_pan (.inr ⟨fun n' r' hn' hr => ?_, rfl, h.wp⟩)) (fun g => s_next ⟨rfl, rfl⟩ ?_))⟩
        · have e1 : s = dI n' := (List.cons.inj hr).1
          rw [e1, parseI_dI hn'] at hok
          cases hok
          rw [S_toList, S_toList, e1] at g
          simp at g
        · rw [S_toList, S_toList] at g
          have : dI n = s := by simpa using g
          simp only [if_true]
          exact ⟨trivial, this.symm, h⟩
    · have h := h.fr0 f
      refine ⟨_, rfl, s_asU (s_req rfl (s_asI (s_blk (fun vs W => False) (fun vs j W hf => absurd hf id) ?_)))⟩
      refine s_req (.inr ⟨_, _, rfl⟩) (s_true rfl (s_pan (.inr ⟨fun n' r' hn' hr => ?_, rfl, h.wp⟩)))
      have e1 : s = dI n' := (List.cons.inj hr).1
      exact hno n' (by rw [e1]; exact parseI_dI hn')
theorem int_c (h : Wd w0 w p ws b x) : Calls Tryz.prog 35 #[.pointer (some ⟨p, 0, none⟩)] w fun e w' =>
    (∃ n r, ws = dI n :: r ∧ In64 n ∧ e = .returned (.int .i64 n) ∧ Wd w0 w' p r b x) ∨ ((∀ n r, In64 n → ws ≠ dI n :: r) ∧ e = panW ∧ Wp w0 w' p b x) := by
  apply c35
  refine s_call2p (long_c hT hE h) ?_
  rintro e u (⟨n, r, rfl, hn, rfl, h⟩ | ⟨hno, rfl, h⟩)
  · exact .inl ⟨_, rfl, s_asI (s_ret (.inl ⟨n, r, rfl, hn, rfl, h⟩))⟩
  · exact .inr ⟨_, rfl, s_pan (.inr ⟨hno, rfl, h⟩)⟩
theorem many_c (h : Wd w0 w p ws b x) : Calls Tryz.prog 100 #[.pointer (some ⟨p, 0, none⟩)] w fun e w' =>
    (∃ (n : Nat) (r : List W), ws = dI n :: r ∧ n ≤ r.length ∧ e = .returned (.int .i64 n) ∧ Wd w0 w' p r b x) ∨ ((∀ (n : Nat) r, n ≤ r.length → ws ≠ dI n :: r) ∧ e = panW ∧ Wp w0 w' p b x) := by
  have hwb := h.wb
  apply c100
  refine s_call2p (long_c hT hE h) ?_
  rintro e u (⟨n, r, rfl, hn, rfl, h⟩ | ⟨hno, rfl, h⟩)
  · refine .inl ⟨_, rfl, s_asI (s_blk (fun vs W => vs = [] ∧ (∃ k : Nat, n = k ∧ k ≤ r.length) ∧ Wd w0 W p r b x) ?_ ?_)⟩
    · clear h
      rintro _ j W ⟨rfl, ⟨k, rfl, hk⟩, h'⟩
      exact s_ret (.inl ⟨k, r, rfl, hk, rfl, h'⟩)
    · refine s_ite (fun g => s_pan (.inr ⟨fun k r' hk hr => ?_, rfl, h.wp⟩)) (fun g => ?_)
      · have g : n < 0 := by simpa using g
        have := dI_inj (List.cons.inj hr).1
        omega
      · have g : 0 ≤ n := by simpa using g
        have hh := h
        obtain ⟨o, k, cap, h1, H⟩ := h
        have h1' := h1.1
        refine h_ldS H pick_head rfl (s_ite (fun g2 => s_pan (.inr ⟨fun k' r' hk hr => ?_, rfl, hh.wp⟩)) (fun g2 => s_next ⟨rfl, rfl⟩ ?_))
        · have g2 : (k : Int) < n := by simpa using g2
          have e1 := dI_inj (List.cons.inj hr).1
          have e2 := (List.cons.inj hr).2
          subst e2
          omega
        · have g2 : n ≤ (k : Int) := by simpa using g2
          simp only [if_true]
          exact ⟨trivial, ⟨n.toNat, by omega, by omega⟩, hh⟩
  · exact .inr ⟨_, rfl, s_pan (.inr ⟨fun n r _ hr => hno n r ⟨by omega, by
      have h1 := hwb.1
      rw [hr] at h1
      simp at h1
      omega⟩ hr, rfl, h⟩)⟩
end
end
end Go.Proofs.YtihipcofjpnfbaaGreatDoor

/- The program's reader: keys. -/
set_option linter.unusedVariables false
set_option linter.unusedSimpArgs false
set_option maxRecDepth 100000
set_option maxHeartbeats 4000000
namespace Go.Proofs.YtihipcofjpnfbaaGreatDoor
open Go hiding Expr
open Go.RowKit Tr

def encK (l : List K) : List Value := (l.map kr).flatten
theorem encK_app (a b : List K) : encK (a ++ b) = encK a ++ encK b := by simp [encK]
theorem kr_one' (k : K) : ∀ u ∈ kr k, u.oneCell' = true := by
  intro u hu
  simp [kr] at hu
  rcases hu with rfl | rfl <;> rfl
theorem elemKW : Elem Tryz.prog 50 63 (.agg ⟨[.int .i32 0, .int .i64 0]⟩) 2 16 := ⟨by kernel_rfl, by kernel_rfl, rfl, by decide⟩
theorem w32 {n : Int} (h : n = IntKind.wrap .i64 (IntKind.wrap .i32 n)) : -2147483648 ≤ n ∧ n ≤ 2147483647 ∧ IntKind.wrap .i32 n = n := by
  have e : IntKind.wrap .i32 n = (n + 2147483648) % 4294967296 - 2147483648 := by
    simp [IntKind.wrap, IntKind.bits, IntKind.signed]
    omega
  have h1 : -2147483648 ≤ IntKind.wrap .i32 n ∧ IntKind.wrap .i32 n ≤ 2147483647 := by rw [e]; omega
  rw [wrapI (by omega) (by omega)] at h
  refine ⟨by omega, by omega, h.symm⟩
theorem w32' {n : Int} (h0 : -2147483648 ≤ n) (h1 : n ≤ 2147483647) : IntKind.wrap .i64 (IntKind.wrap .i32 n) = n := by
  have e : IntKind.wrap .i32 n = (n + 2147483648) % 4294967296 - 2147483648 := by
    simp [IntKind.wrap, IntKind.bits, IntKind.signed]
    omega
  have e2 : IntKind.wrap .i32 n = n := by rw [e]; omega
  rw [e2, wrapI (by omega) (by omega)]
theorem kw_next {l done : List K} {r rest : List W} (h : kw l ++ r = kw done ++ rest) (hi : done.length < l.length) : ∃ k r', k ∈ l ∧ rest = dI k.t :: dI k.r :: r' := by
  have hd : l.drop done.length = l[done.length] :: l.drop (done.length + 1) := List.drop_eq_getElem_cons hi
  have e : l = l.take done.length ++ (l[done.length] :: l.drop (done.length + 1)) := by rw [← hd, List.take_append_drop]
  have e2 : kw l = kw (l.take done.length) ++ (dI l[done.length].t :: dI l[done.length].r :: kw (l.drop (done.length + 1))) := by
    have e3 : ∀ (a b : List K) (k : K), kw (a ++ k :: b) = kw a ++ (dI k.t :: dI k.r :: kw b) := fun a b k => by simp [kw]
    rw [← e3, ← e]
  rw [e2, List.append_assoc] at h
  obtain ⟨_, h⟩ := kw_app (by rw [List.length_take]; omega) h
  exact ⟨_, _, List.getElem_mem hi, h.symm⟩
section
variable {w0 w w' : World} {p : Nat} {ws : List W} {b x : Hp}
variable (hT : Tab w0) (hE : ErrAt w0)
include hT hE
theorem keysW_c (h : Wd w0 w p ws b x) : Calls Tryz.prog 66 #[.pointer (some ⟨p, 0, none⟩)] w fun e w' =>
    (∃ (l : List K) (r : List W) (v : Value) (c y : Hp), ws = keysW l ++ r ∧ (∀ k ∈ l, InK k) ∧ l.length ≤ 1048576 ∧ e = .returned v ∧ OwnC 63 2 v l.length (encK l) c ∧ Wd w0 w' p r b (c ++ (y ++ x))) ∨
    ((∀ (l : List K) r, (∀ k ∈ l, InK k) → ws ≠ keysW l ++ r) ∧ e = panW ∧ ∃ y, Wp w0 w' p b (y ++ x)) := by
  have hwb := h.wb
  apply c66
  refine s_call2p (many_c hT hE h) ?_
  rintro e u (⟨n, ws1, rfl, hn, rfl, h⟩ | ⟨hno, rfl, h⟩)
  · have hn1 : n ≤ 1048576 := by have := hwb.1; simp at this; omega
    refine .inl ⟨_, rfl, s_asI ?_⟩
    refine s_loop (fun vs U => ∃ (v : Value) (l : List K) (rest : List W) (c y : Hp), vs = [v, .int .i64 l.length] ∧ l.length ≤ n ∧ ws1 = kw l ++ rest ∧ (∀ k ∈ l, InK k) ∧ OwnC 63 2 v l.length (encK l) c ∧ Wd w0 U p rest b (c ++ (y ++ x)))
      (fun vs _ => n - (intOf (vs.getD 1 undef)).toNat) ⟨_, [], ws1, [], [], rfl, by simp, rfl, by simp, OwnC.nil, h⟩ ?_
    clear h
    rintro _ j W ⟨v, l, rest, c, y, rfl, hln, he, hin, ho, h⟩
    obtain ⟨o2, cap2, rfl⟩ := ho.slice
    have hnotl : ∀ (l' : List K) r', (∀ k ∈ l', InK k) → l.length < n → dI n :: ws1 = keysW l' ++ r' → ∃ k r'', InK k ∧ rest = dI k.t :: dI k.r :: r'' := by
      intro l' r' hin' hlt hw
      unfold keysW at hw
      rw [List.cons_append] at hw
      obtain ⟨h1, h2⟩ := List.cons.inj hw
      have := dI_inj h1
      rw [he] at h2
      obtain ⟨k, r'', hk, h3⟩ := kw_next h2.symm (by omega)
      exact ⟨k, r'', hin' k hk, h3⟩
    refine s_asS (s_asI (s_ite (fun g1 => ?_) (fun g1 => ?_)))
    · simp only [decide_eq_true_eq] at g1
      have hlt : l.length < n := by omega
      refine s_call2p (long_c hT hE h) ?_
      rintro e u (⟨n1, r1, rfl, hn1', rfl, h⟩ | ⟨hno, rfl, h⟩)
      · refine .inl ⟨_, rfl, s_asI (s_blk (fun vs W => vs = [] ∧ (-2147483648 ≤ n1 ∧ n1 ≤ 2147483647 ∧ IntKind.wrap .i32 n1 = n1) ∧ Wd w0 W p r1 b (c ++ (y ++ x))) ?_ ?_)⟩
        · clear h
          rintro _ j W ⟨rfl, ⟨h0, h1, h2⟩, h⟩
          refine s_call2p (long_c hT hE h) ?_
          rintro e u (⟨n2, r2, rfl, hn2, rfl, h⟩ | ⟨hno, rfl, h⟩)
          · refine .inl ⟨_, rfl, s_asI ?_⟩
            rw [h2]
            obtain ⟨vw, H, hk⟩ := h.turn
            refine h_new H fun n16 u H => ?_
            have H : Has w0 u (c ++ (cl n16 63 (kr ⟨n1, n2⟩) :: cl p 46 [vw] :: (y ++ (x ++ b)))) := by
              simp only [List.append_assoc] at H
              exact H.sub (by repeat (first | exact sb_refl | exact sb_nil | refine sb_cons (by repeat (first | exact pick_head | apply pick_tail | apply pick_app)) ?_ | refine sb_app (by repeat (first | exact cut_head | exact cut_all | apply cut_tail | apply cut_app)) ?_ | exact sb_one (by repeat (first | exact cut_head | exact cut_all | apply cut_tail | apply cut_app))))
            refine h_app1 elemKW H cut_head ho (r := n16) (l := kr ⟨n1, n2⟩) (pick_app pick_head) rfl (kr_one' _) (by omega) (by omega) ?_
            intro v' c' u ho' H
            obtain ⟨o3, cap3, rfl⟩ := ho'.slice
            refine s_asS (s_next ⟨rfl, rfl⟩ ?_)
            simp (config := { decide := true }) only [if_true, if_false]
            refine ⟨⟨.slice o3 (l.length + 1) cap3, l ++ [⟨n1, n2⟩], r2, c', cl n16 63 (kr ⟨n1, n2⟩) :: y, ?_, by simp; omega, ?_, ?_, ?_, hk ?_⟩, by rw [w_succ (by omega)]; simp [intOf] <;> omega⟩
            · rw [w_succ (by omega)]
              simp
            · rw [he, kw_snoc]
              simp
            · intro k hk'
              rcases List.mem_append.1 hk' with hk' | hk'
              · exact hin k hk'
              · rw [List.mem_singleton] at hk'
                subst hk'
                exact ⟨h0, h1, hn2⟩
            · rw [encK_app, List.length_append]
              simpa [encK] using ho'
            · simp only [List.append_assoc, List.cons_append]
              exact H.sub (by repeat (first | exact sb_refl | exact sb_nil | refine sb_cons (by repeat (first | exact pick_head | apply pick_tail | apply pick_app)) ?_ | refine sb_app (by repeat (first | exact cut_head | exact cut_all | apply cut_tail | apply cut_app)) ?_ | exact sb_one (by repeat (first | exact cut_head | exact cut_all | apply cut_tail | apply cut_app))))
          · refine .inr ⟨_, rfl, s_pan (.inr ⟨fun l' r' hin' hw => ?_, rfl, c ++ y, by rw [List.append_assoc]; exact h⟩)⟩
            obtain ⟨k, r'', hk, h3⟩ := hnotl l' r' hin' hlt hw
            exact hno _ _ hk.r (List.cons.inj h3).2
        · refine s_ite (fun g => s_pan (.inr ⟨fun l' r' hin' hw => ?_, rfl, c ++ y, by rw [List.append_assoc]; exact h.wp⟩)) (fun g => s_next ⟨rfl, rfl⟩ ?_)
          · obtain ⟨k, r'', hk, h3⟩ := hnotl l' r' hin' hlt hw
            have e1 := dI_inj (List.cons.inj h3).1
            rw [e1, w32' hk.t0 hk.t1] at g
            simp at g
          · simp only [if_true]
            have g : n1 = IntKind.wrap .i64 (IntKind.wrap .i32 n1) := by simpa using g
            exact ⟨trivial, w32 g, h⟩
      · refine .inr ⟨_, rfl, s_pan (.inr ⟨fun l' r' hin' hw => ?_, rfl, c ++ y, by rw [List.append_assoc]; exact h⟩)⟩
        obtain ⟨k, r'', hk, h3⟩ := hnotl l' r' hin' hlt hw
        exact hno _ _ hk.in64 h3
    · simp only [decide_eq_false_iff_not] at g1
      have e : l.length = n := by omega
      refine s_ret (.inl ⟨l, rest, _, c, y, ?_, hin, by omega, rfl, ho, h⟩)
      unfold keysW
      rw [he, e]
      rfl
  · refine .inr ⟨_, rfl, s_pan (.inr ⟨fun l r hin hw => hno l.length (kw l ++ r) (by rw [List.length_append, kw_len]; omega) hw, rfl, [], h⟩)⟩
end
end Go.Proofs.YtihipcofjpnfbaaGreatDoor
