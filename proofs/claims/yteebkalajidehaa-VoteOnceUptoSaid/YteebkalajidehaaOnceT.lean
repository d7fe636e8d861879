/- VoteOnce: what is done behind each act. -/
import Derived.Test.YteebkalajidehaaOnceM
set_option linter.unusedVariables false
set_option linter.unusedSimpArgs false
set_option maxRecDepth 100000

namespace Go.Proofs.Yteebkalajidehaa
open Go hiding Expr
open Go.RowKit Tr

theorem arr36 : WideMaps.ArrKey Try.prog 36 2 2 := ⟨Try.underlying36, by kernel_rfl, by kernel_rfl, by kernel_rfl⟩
theorem keyed36 : Maps.Keyed Try.prog 36 := Maps.Keyed.of_law arr36.law
theorem keyed2 : Maps.Keyed Try.prog 2 := Maps.int_keyed Try.underlying2
theorem zero3 (w : World) : (zeroValue 3).run Try.prog w = .ok (.int .i64 0) w := by rfl
theorem types_pos : ∃ m, Try.prog.types.size = m + 1 := ⟨Try.prog.types.size - 1, by have : 0 < Try.prog.types.size := of_decide_eq_true (by kernel_rfl); omega⟩
theorem keyP {a b : Int} (ha : (Lit.int .i64 a).wf = true) (hb : (Lit.int .i64 b).wf = true) : ∃ l, keyOf Try.prog 36 (kP (a, b)) = some l :=
  ⟨_, WideMaps.keyOf_pair arr36 Try.underlying2 types_pos ha hb⟩
theorem keyI {a : Int} (ha : (Lit.int .i64 a).wf = true) : ∃ l, keyOf Try.prog 2 (kI a) = some l := ⟨_, Maps.keyOf_int_mk Try.underlying2 ha⟩

abbrev Leads (w : World) (b : Nat) (D : List (Int × Int)) : Prop := MapAt Try.prog 2 kI kI w b D
abbrev Gave (w : World) (b : Nat) (D : List ((Int × Int) × Int)) : Prop := MapAt Try.prog 36 kP kI w b D

theorem Leads.ne {w : World} {m : Nat} {D : List (Int × Int)} (h : Leads w m D) {lo : Nat} {bs : List Nat} {vs : List VS} (g : Grp w lo bs vs) : ∀ b ∈ bs, b ≠ m := by
  obtain ⟨es, c, hm, _⟩ := h.at_
  exact g.mapNe hm
theorem Gave.ne {w : World} {m : Nat} {D : List ((Int × Int) × Int)} (h : Gave w m D) {lo : Nat} {bs : List Nat} {vs : List VS} (g : Grp w lo bs vs) : ∀ b ∈ bs, b ≠ m := by
  obtain ⟨es, c, hm, _⟩ := h.at_
  exact g.mapNe hm

theorem tail_sem {Q : Ending → World → Prop} {ρ : Lv} {nx : T} {n : Int} {m : Nat} {S : St} {W : World} {lo lm i k bi bk : Nat} {bs : List Nat} {s wv : VS} {was : Int}
    (I : Inv n m S) (h0 : 0 ≤ n) (G : Grp W lo bs S.vs) (L : Leads W lm S.leads) (hbi : bs[i]? = some bi) (hsi : S.vs[i]? = some s) (hbk : bs[k]? = some bk) (hsk : S.vs[k]? = some wv) (hwas : was ≤ wv.term)
    (hnx : ∀ W' leads, Fr [lm] W W' → Leads W' lm leads → Inv n m { S with leads := leads } → nx.sem Try.prog Q ρ W') :
    T.sem Try.prog Q (T.call 7 [Value.pointer (some ⟨bk, 0, none⟩)] fun v => T.asI .i64 v fun a => T.ite (decide (a < was)) (T.ret (.bool false)) (T.call 13 [Value.pointer (some ⟨bi, 0, none⟩)] fun v => T.asB v fun c => T.ite c
      (T.call 7 [Value.pointer (some ⟨bi, 0, none⟩)] fun v => T.asI .i64 v fun t => T.run (Instr.lookup 30 (.map (some lm)) (.int .i64 t) true) fun v => T.asU v fun l => T.req (l.length = 2) (T.asI .i64 (List.headD l (Value.tuple (Array.mk []))) fun x => T.asB (List.headD (List.tail l) (Value.tuple (Array.mk []))) fun y =>
        T.ite y (T.ite (x != (i : Int)) (T.ret (.bool false)) (T.call 7 [Value.pointer (some ⟨bi, 0, none⟩)] fun v => T.asI .i64 v fun t => T.run (muV 30 (.map (some lm)) (.int .i64 t) (.int .i64 (i : Int))) fun _ => nx))
          (T.call 7 [Value.pointer (some ⟨bi, 0, none⟩)] fun v => T.asI .i64 v fun t => T.run (muV 30 (.map (some lm)) (.int .i64 t) (.int .i64 (i : Int))) fun _ => nx))) nx)) ρ W := by
  obtain ⟨hok, _, _, hterm⟩ := I.ok i s hsi
  obtain ⟨hokk, _, _, _⟩ := I.ok k wv hsk
  have hci := G.cells i bi s hbi hsi
  have hck := G.cells k bk wv hbk hsk
  have hwf : (Lit.int .i64 s.term).wf = true := wf64 (by have := hok.term0; omega) (by have := hok.term1; simp only [maxT] at this; omega)
  obtain ⟨kl, hkl⟩ := keyI hwf
  refine s_call (term_c hck hokk) ?_
  rintro _ _ ⟨rfl, rfl⟩
  refine ⟨_, rfl, s_asI (s_false (by simp; omega) (s_call (won_c hci hok) ?_))⟩
  rintro _ W1 ⟨rfl, f1⟩
  have hci := f1.cells hci (by simp)
  have L := L.fr f1 (by simp)
  refine ⟨_, rfl, s_asB (s_ite (fun hw => ?_) (fun hw => hnx W1 S.leads f1.nil L I))⟩
  refine s_call (term_c hci hok) ?_
  rintro _ _ ⟨rfl, rfl⟩
  refine ⟨_, rfl, s_asI (s_look2 (a := s.term) L keyed2 Try.underlying30 (zero3 _) (kI_inj _ _) hkl ?_)⟩
  have done : ∀ (P : Prop), True := fun _ => trivial
  cases hl : getAt S.leads s.term with
  | none =>
    refine s_asU (s_req rfl (s_asI (n := 0) (s_asB (s_false rfl (s_call (term_c hci hok) ?_)))))
    rintro _ _ ⟨rfl, rfl⟩
    refine ⟨_, rfl, s_asI (s_put (a := s.term) (v := (i : Int)) L keyed2 Try.underlying30 (kI_inj _ _) hkl fun W2 z2 f2 L2 => ?_)⟩
    exact hnx W2 _ (f1.nil.trans f2) L2 (lead_put I hsi hw)
  | some who =>
    have := lead_one I h0 hsi hw hl
    subst this
    refine s_asU (s_req rfl (s_asI (n := (i : Int)) (s_asB (s_true rfl (s_false (by simp) (s_call (term_c hci hok) ?_))))))
    rintro _ _ ⟨rfl, rfl⟩
    refine ⟨_, rfl, s_asI (s_put (a := s.term) (v := (i : Int)) L keyed2 Try.underlying30 (kI_inj _ _) hkl fun W2 z2 f2 L2 => ?_)⟩
    exact hnx W2 _ (f1.nil.trans f2) L2 (lead_put I hsi hw)
end Go.Proofs.Yteebkalajidehaa
