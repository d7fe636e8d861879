/- The law VoteOnce, walked: where there are no more acts than terms. -/
import Derived.Test.YteebkalajidehaaOnceT
import Derived.Test.YteebkalajidehaaTreesO
import Derived.Test.YteebkalajidehaaArgs
set_option linter.unusedVariables false
set_option linter.unusedSimpArgs false
set_option maxRecDepth 100000

namespace Go.Proofs.Yteebkalajidehaa
open Go hiding Expr
open Go.RowKit Tr

structure ActV where
  who : Int
  to : Int
  len : Int
  last : Int
def ActV.cells (a : ActV) : List Value := [.int .i64 a.who, .int .i64 a.to, .int .i64 a.len, .int .i64 a.last]
def actLeaves : List Leaf := [.int .i64, .int .i64, .int .i64, .int .i64]
theorem acts_of : ∀ (rows : List (List Value)), (∀ r ∈ rows, Fits actLeaves r) → ∃ acts : List ActV, rows = acts.map ActV.cells
  | [], _ => ⟨[], rfl⟩
  | r :: rest, h => by
    obtain ⟨acts, rfl⟩ := acts_of rest (fun x hx => h x (by simp [hx]))
    have hr := h r (by simp)
    obtain ⟨m0, _, rfl, _, hr⟩ := hr.int
    obtain ⟨m1, _, rfl, _, hr⟩ := hr.int
    obtain ⟨m2, _, rfl, _, hr⟩ := hr.int
    obtain ⟨m3, _, rfl, _, hr'⟩ := hr.int
    obtain rfl := hr'.nil
    exact ⟨⟨m0, m1, m2, m3⟩ :: acts, rfl⟩

def firstV (n : Int) (i : Nat) : List VS := (List.range i).map fun (j : Nat) => mkV n (j : Int) 0 (-1)

theorem firstV_succ (n : Int) (i : Nat) : firstV n (i + 1) = firstV n i ++ [mkV n (i : Int) 0 (-1)] := by
  simp [firstV, List.range_succ]

theorem cells_ne {w : World} {b b' : Nat} {t t' : TypeId} {l l' : List Value} (h : Cells w b t l) (h' : Cells w b' t' l') (ht : t ≠ t') : b ≠ b' := by
  rintro rfl
  unfold Cells at h h'
  rw [h] at h'
  simp only [Option.some.injEq, Obj.cells.injEq] at h'
  exact ht h'.2.1

/-- What a round finds. -/
structure Hold (w W : World) (lm gm : Nat) (so : Option Addr) (sc : Nat) (bs : List Nat) (nn : Nat) (S : St) : Prop where
  G : Grp W w.heap.size bs S.vs
  L : Leads W lm S.leads
  V : Gave W gm S.gave
  O : Tr.Own W 24 1 (.slice so nn sc) nn (ptrs bs)
  f : Fr [] w W
  lml : w.heap.size ≤ lm
  gml : w.heap.size ≤ gm
  ol : ∀ k, (Value.slice so nn sc).ownBlock = some k → w.heap.size ≤ k
  ne : lm ≠ gm

section
variable {w W W' : World} {lm gm : Nat} {so : Option Addr} {sc nn : Nat} {bs : List Nat} {S : St}
theorem own_map_ne {e : TypeId} {sz n : Nat} {v : Value} {xs : List Value} {m : Nat} {es : Array MapEntry} {c : Nat} (ho : Tr.Own W e sz v n xs) (hm : W.heap[m]? = some (.map es c)) : v.ownBlock ≠ some m := by
  intro h
  rcases ho.2 with ⟨rfl, _⟩ | ⟨g, cap, cur, rfl, _, hg, _⟩
  · cases h
  · cases h
    rw [show W.heap[g]? = _ from hg] at hm
    cases hm
theorem Hold.quiet (h : Hold w W lm gm so sc bs nn S) (hf : Fr [] W W') : Hold w W' lm gm so sc bs nn S :=
  ⟨h.G.fr hf (by simp), h.L.fr hf (by simp), h.V.fr hf (by simp), h.O.fr hf (by simp), h.f.trans hf, h.lml, h.gml, h.ol, h.ne⟩
theorem Hold.vote (h : Hold w W lm gm so sc bs nn S) {i b : Nat} {s' : VS} (hb : bs[i]? = some b) (hf : Fr [b] W W') (hc : Cells W' b 57 (pv s')) : Hold w W' lm gm so sc bs nn { S with vs := S.vs.set i s' } := by
  have hm := List.mem_of_getElem? hb
  refine ⟨h.G.upd hb hf hc, h.L.fr hf (fun hx => ?_), h.V.fr hf (fun hx => ?_), h.O.fr hf (fun k hk hx => ?_), h.f.trans' hf (fun x hx => ?_), h.lml, h.gml, h.ol, h.ne⟩
  · simp at hx; exact h.L.ne h.G b hm hx.symm
  · simp at hx; exact h.V.ne h.G b hm hx.symm
  · simp at hx
    subst hx
    exact h.G.ownNe h.O (by decide) _ hm hk
  · simp at hx
    subst hx
    exact .inr (h.G.low _ hm)
theorem Hold.lead (h : Hold w W lm gm so sc bs nn S) {D : List (Int × Int)} (hf : Fr [lm] W W') (hc : Leads W' lm D) : Hold w W' lm gm so sc bs nn { S with leads := D } := by
  obtain ⟨es, c, hm, _⟩ := h.L.at_
  refine ⟨h.G.fr hf (fun b hb hx => ?_), hc, h.V.fr hf (fun hx => ?_), h.O.fr hf (fun k hk hx => ?_), h.f.trans' hf (fun x hx => ?_), h.lml, h.gml, h.ol, h.ne⟩
  · simp at hx; exact h.L.ne h.G b hb hx
  · simp at hx; exact h.ne hx.symm
  · simp at hx; subst hx; exact own_map_ne h.O hm hk
  · simp at hx; subst hx; exact .inr h.lml
theorem Hold.gave (h : Hold w W lm gm so sc bs nn S) {D : List ((Int × Int) × Int)} (hf : Fr [gm] W W') (hc : Gave W' gm D) : Hold w W' lm gm so sc bs nn { S with gave := D } := by
  obtain ⟨es, c, hm, _⟩ := h.V.at_
  refine ⟨h.G.fr hf (fun b hb hx => ?_), h.L.fr hf (fun hx => ?_), hc, h.O.fr hf (fun k hk hx => ?_), h.f.trans' hf (fun x hx => ?_), h.lml, h.gml, h.ol, h.ne⟩
  · simp at hx; exact h.V.ne h.G b hb hx
  · simp at hx; exact h.ne hx
  · simp at hx; subst hx; exact own_map_ne h.O hm hk
  · simp at hx; subst hx; exact .inr h.gml
end

section
variable {w : World}
set_option maxHeartbeats 8000000 in
theorem voteOnce_c (x : Int) (o : Option Addr) (c : Nat) (acts : List ActV) (hmax : acts.length ≤ 1048576) (hrows : RowsAt w o 4 (acts.map ActV.cells)) :
    Calls Try.prog 3 #[.int .i64 x, .slice o acts.length c] w fun e w' => e = .returned (.bool true) ∧ Fr [] w w' := by
  apply c3
  obtain ⟨hn1, hn5⟩ := size_n x
  generalize hn : IntKind.wrap .i64 (1 + Int.tmod (bitsI .and .i64 x 15) 5) = n at hn1 hn5
  unfold t3
  rw [hn]
  refine s_blk (fun vs W => w = W ∧ vs = [.int .i64 n]) ?_ (s_req (by decide) (s_next ⟨rfl, rfl⟩ (by simp only [if_true]; exact ⟨trivial, trivial⟩)))
  rintro _ _ _ ⟨rfl, rfl⟩
  refine s_asI ?_
  refine s_loop (fun vs W => ∃ (i : Nat) (v : Value) (bs : List Nat), vs = [v, .int .i64 i] ∧ (i : Int) ≤ n ∧ bs.length = i ∧ Grp W w.heap.size bs (firstV n i) ∧ Tr.Own W 24 1 v i (ptrs bs) ∧ Fr [] w W ∧ ∀ k, v.ownBlock = some k → w.heap.size ≤ k)
    (fun vs _ => n.toNat - (intOf (vs.getD 1 undef)).toNat) ⟨0, _, [], rfl, by omega, rfl, ⟨by simp [firstV], fun j b s h => by simp at h, by simp, fun i j b h => by simp at h⟩, Tr.Own.nil w 24 1, Fr.refl _ _, fun k hk => by cases hk⟩ ?_
  rintro _ j W ⟨i, v, bs, rfl, hi, hbs, G, hown, hfr, hnew⟩
  obtain ⟨so, sc, rfl⟩ := hown.slice
  have hlt : ∀ k, (Value.slice so i sc).ownBlock = some k → k < W.heap.size := fun k hk => by
    rcases hown.shape with ⟨hv, _⟩ | ⟨g, cap, hv, hg, _⟩
    · rw [hv] at hk; cases hk
    · rw [hv] at hk; cases hk; exact hg
  have hGlt : ∀ (j b : Nat), bs[j]? = some b → j < i ∧ b < W.heap.size := fun j b hj => by
    have hj' : j < i := by rw [← hbs]; exact (List.getElem?_eq_some_iff.1 hj).1
    have hv : (firstV n i)[j]? = some (mkV n (j : Int) 0 (-1)) := by simp [firstV, hj']
    exact ⟨hj', (G.cells j b _ hj hv).lt⟩
  refine s_asS (s_asI (s_ite (fun g1 => ?_) (fun g1 => ?_)))
  · simp only [decide_eq_true_eq] at g1
    have hw : IntKind.wrap .i64 ((i : Int) + 1) = ((i + 1 : Nat) : Int) := by rw [wrap64 (by omega) (by omega)]; rfl
    refine s_call (new_c n i 0 (-1)) ?_
    rintro e W1 ⟨f1, ⟨h, _⟩ | ⟨hok, b, rfl, hb, hcb⟩⟩
    · have : okNew n i 0 (-1) = true := by simp [okNew, maxT]; omega
      rw [this] at h; cases h
    refine ⟨_, rfl, s_asU (s_req rfl (s_asP (s_asI (s_false rfl ?_))))⟩
    refine s_new fun r W2 hr hz f2 hc => ?_
    have G := (G.fr f1 (by simp)).fr f2 (by simp)
    have hown := (hown.fr f1 (by simp)).fr f2 (by simp)
    have hcb := f2.cells hcb (by simp)
    have hWb := f1.size
    have hww := hfr.size
    refine s_app elem23 hown (m := 1) (news := [.pointer (some ⟨b, 0, none⟩)]) rfl hc.reads (by simp; rfl) (by omega) (by omega) ?_
    intro v' W3 hown3 f3 hblk hnil
    obtain ⟨so', sc', rfl⟩ := hown3.slice
    have hne := G.ownNe hown (by decide)
    have hbne : (Value.slice so i sc).ownBlock ≠ some b := fun hbo => by have := hlt b hbo; omega
    refine s_asS (s_next ⟨rfl, rfl⟩ ?_)
    simp only [if_true]
    have hF : ∀ b' : Nat, (Value.slice so i sc).ownBlock ≠ some b' → b' ∉ (Value.slice so i sc).ownBlock.toList := fun b' h hm => by simp at hm; exact h hm
    refine ⟨⟨i + 1, _, bs ++ [b], by rw [hw], by omega, by simp [hbs], ?_, ?_, ?_, ?_⟩, ?_⟩
    · have G3 := G.fr f3 (fun b' hb' => hF b' (hne b' hb'))
      have hcb3 := f3.cells hcb (hF b hbne)
      rw [firstV_succ]
      have hfl : (firstV n i).length = i := by simp [firstV]
      refine ⟨by simp [hbs, hfl], fun j c s h1 h2 => ?_, fun b' hb' => ?_, fun p q c h1 h2 => ?_⟩
      · by_cases hj : j < i
        · rw [List.getElem?_append_left (by omega)] at h1 h2
          exact G3.cells j c s h1 h2
        · rw [List.getElem?_append_right (by omega)] at h1 h2
          have hji : j = i := by
            have := (List.getElem?_eq_some_iff.1 h1).1
            simp at this
            omega
          subst hji
          simp [hbs] at h1
          simp [hfl] at h2
          subst h1 h2
          exact hcb3
      · rcases List.mem_append.1 hb' with hb' | hb'
        · exact G3.low b' hb'
        · simp at hb'; omega
      · have hap : ∀ {p : Nat}, (bs ++ [b])[p]? = some c → (bs[p]? = some c ∧ p < i) ∨ (p = i ∧ c = b) := fun {p} hp => by
          by_cases hpi : p < i
          · rw [List.getElem?_append_left (by omega)] at hp
            exact .inl ⟨hp, hpi⟩
          · rw [List.getElem?_append_right (by omega)] at hp
            have := (List.getElem?_eq_some_iff.1 hp).1
            simp at this
            have hpe : p = i := by omega
            subst hpe
            simp [hbs] at hp
            exact .inr ⟨rfl, hp.symm⟩
        rcases hap h1 with ⟨h1, hp1⟩ | ⟨h1, hc1⟩ <;> rcases hap h2 with ⟨h2, hp2⟩ | ⟨h2, hc2⟩
        · exact G.inj _ _ _ h1 h2
        · have := (hGlt _ _ h1).2; omega
        · have := (hGlt _ _ h2).2; omega
        · omega
    · simpa [ptrs] using hown3
    · exact ((hfr.trans f1).trans f2).trans' f3 (fun x hx => by simp at hx; exact .inr (hnew x hx))
    · intro k hk
      rcases hblk with h | h
      · rw [h] at hk; exact hnew k hk
      · rw [h] at hk; cases hk; have := ((hfr.trans f1).trans f2).size; omega
    · rw [hw]; simp [intOf]; omega
  · simp only [decide_eq_false_iff_not] at g1
    have hin : i = n.toNat := by omega
    subst hin
    refine s_newMap fun lm W1 hlr hlz f1 hlm => s_newMap fun gm W2 hgr hgz f2 hgm => ?_
    have hWw := hfr.size
    have h0 : Hold w W2 lm gm so sc bs n.toNat ⟨firstV n n.toNat, [], []⟩ :=
      ⟨(G.fr f1 (by simp)).fr f2 (by simp), (MapAt.new hlm).fr f2 (by simp), MapAt.new hgm, (hown.fr f1 (by simp)).fr f2 (by simp), (hfr.trans f1).trans f2, by omega, by omega, hnew, by omega⟩
    have i0 : Inv n 0 ⟨firstV n n.toNat, [], []⟩ := begin_inv hn1 hn5
    clear hlm hgm hlr hlz hgr hgz G hown f1 f2 hfr hGlt hlt hWw W1
    refine s_loop (fun vs W => ∃ (i : Nat) (S : St), vs = [.int .i64 i] ∧ i ≤ acts.length ∧ Inv n i S ∧ Hold w W lm gm so sc bs n.toNat S) (fun vs _ => acts.length - (intOf (vs.getD 0 undef)).toNat) ⟨0, _, rfl, by omega, i0, h0⟩ ?_
    clear h0 i0 W2 W
    rintro _ j W ⟨i, S, rfl, hi, I, H⟩
    refine s_asI (s_ite (fun g2 => ?_) (fun g2 => ?_))
    · simp only [decide_eq_true_eq] at g2
      have hi' : i < acts.length := by omega
      have hw : IntKind.wrap .i64 ((i : Int) + 1) = ((i + 1 : Nat) : Int) := by rw [wrap64 (by omega) (by omega)]; rfl
      obtain ⟨g, off, rfl, hg, hcell⟩ := (hrows.fr H.f).at (j := i) (r := acts[i].cells) (by simp [hi'])
      have hcl : ∀ k v, acts[i].cells[k]? = some v → W.cell? ⟨g, off + (i : Int).toNat * 4 + k, none⟩ = some v := hcell
      refine s_req ⟨by omega, g2⟩ (s_sm ?_)
      refine s_loadI (hcl 0 _ rfl) (s_loadI (hcl 1 _ rfl) (s_loadI (hcl 2 _ rfl) (s_loadI (hcl 3 _ rfl) ?_)))
      generalize acts[i] = act
      refine s_new fun q W1 hq hzq fq hc => ?_
      refine s_st hc (by simp) rfl fun W2 z2 f2 hc => s_st hc (by simp) rfl fun W3 z3 f3 hc => s_st hc (by simp) rfl fun W4 z4 f4 hc => s_st hc (by simp) rfl fun W5 z5 f5 hc => ?_
      have fS := ((f2.trans f3).trans f4).trans f5
      have hc : Cells W5 q 33 act.cells := by simpa [ActV.cells] using hc
      have fN : Fr [] W W5 := fq.trans' fS (fun x hx => by simp at hx; exact .inr (by omega))
      clear f2 f3 f4 f5 z2 z3 z4 z5 fS fq
      refine s_drew fun W6 hq6 f6 => ?_
      have hc := f6.cells hc (by simp)
      refine s_ldI hc rfl (s_req (by omega) (s_ldI hc rfl (s_req (by omega) ?_)))
      refine s_drew fun W7 hq7 f7 => ?_
      have hc := f7.cells hc (by simp)
      have H := ((H.quiet fN).quiet f6).quiet f7
      obtain ⟨a, ha, han⟩ := index_n act.who hn1
      obtain ⟨b, hb, hbn⟩ := index_n act.to hn1
      rw [ha, hb]
      obtain ⟨ba, sa, hba, hsa, hca, hla⟩ := H.G.exists (j := a) (by rw [I.len]; omega)
      obtain ⟨bb, sb, hbb, hsb, hcb, hlb⟩ := H.G.exists (j := b) (by rw [I.len]; omega)
      obtain ⟨hoka, hna, hsela, hta⟩ := I.ok a sa hsa
      obtain ⟨hokb, hnb, hselb, htb⟩ := I.ok b sb hsb
      have hpa : (ptrs bs)[a]? = some (.pointer (some ⟨ba, 0, none⟩)) := by simp [ptrs, hba]
      have hpb : (ptrs bs)[b]? = some (.pointer (some ⟨bb, 0, none⟩)) := by simp [ptrs, hbb]
      obtain ⟨og, rfl, hog, hoc⟩ := H.O.at hpa
      refine s_req ⟨by omega, by omega⟩ (s_sm (s_loadP (n := some ⟨ba, 0, none⟩) (by have := hoc a _ hpa; simpa using this) (s_req ⟨by omega, by omega⟩ (s_sm (s_loadP (n := some ⟨bb, 0, none⟩) (by have := hoc b _ hpb; simpa using this) ?_)))))
      have fin : ∀ (W' : World) (S' : St), Inv n (i + 1) S' → Hold w W' lm gm (some ⟨og, 0, none⟩) sc bs n.toNat S' →
          (∃ (i' : Nat) (S : St), ([Value.int .i64 (IntKind.wrap .i64 ((i : Int) + 1))] : List Value) = [.int .i64 (i' : Int)] ∧ i' ≤ acts.length ∧ Inv n i' S ∧ Hold w W' lm gm (some ⟨og, 0, none⟩) sc bs n.toNat S) ∧
            acts.length - (intOf (([Value.int .i64 (IntKind.wrap .i64 ((i : Int) + 1))] : List Value).getD 0 undef)).toNat < acts.length - (intOf (([Value.int .i64 (i : Int)] : List Value).getD 0 undef)).toNat := fun W' S' hI hH => by
        refine ⟨⟨i + 1, S', by rw [hw], by omega, hI, hH⟩, ?_⟩
        rw [hw]; simp [intOf]; omega
      refine s_call (term_c hcb hokb) ?_
      rintro _ _ ⟨rfl, rfl⟩
      refine ⟨_, rfl, s_asI (s_ite (fun g3 => ?_) (fun g3 => ?_))⟩
      · have hab : a = b := by simp at g3; omega
        subst hab
        rw [hba] at hbb
        cases hbb
        rw [hsa] at hsb
        cases hsb
        have hlim : sa.term ≠ maxT := by simp only [maxT]; omega
        have hstand : sa.stand = (0, { sa with term := sa.term + 1, voted := sa.self, up := true, votes := (List.replicate sa.n.toNat false).set sa.self.toNat true }) := by unfold VS.stand; rw [if_neg hlim]
        have hst1 : sa.stand.1 = 0 := by rw [hstand]
        have hst2 : sa.stand.2.term = sa.term + 1 := by rw [hstand]
        have hsok := VS.stand_ok hoka
        have I' := stand_inv I hsa hlim
        refine s_call (stand_c hca hoka) ?_
        rintro _ W8 ⟨rfl, f8, hca8⟩
        have H := H.vote hba f8 hca8
        refine ⟨_, rfl, s_asI (s_false (by rw [hst1]; rfl) (s_call (term_c hca8 hsok) ?_))⟩
        rintro _ _ ⟨rfl, rfl⟩
        refine ⟨_, rfl, s_asI (s_false (by rw [hst2, wrap64 (by have := hoka.term0; omega) (by omega)]; simp) (s_call (term_c hca8 hsok) ?_))⟩
        rintro _ _ ⟨rfl, rfl⟩
        obtain ⟨kl, hkl⟩ := keyP (a := (a : Int)) (b := sa.stand.2.term) (wf64 (by omega) (by omega)) (wf64 (by have := hoka.term0; omega) (by omega))
        refine ⟨_, rfl, s_asI (s_put (a := ((a : Int), sa.stand.2.term)) (v := (a : Int)) H.V keyed36 Try.underlying31 (kP_inj _ _) hkl fun W9 z9 f9 V9 => ?_)⟩
        have H := H.gave f9 V9
        rw [hst2] at H
        have hlen : a < S.vs.length := (List.getElem?_eq_some_iff.1 hsa).1
        have hget : (S.vs.set a sa.stand.2)[a]? = some sa.stand.2 := by simp [List.getElem?_set, hlen]
        refine tail_sem (s := sa.stand.2) (wv := sa.stand.2) I' (by omega) H.G H.L hba hget hba hget (by rw [hst2]; omega) ?_
        intro W' leads' hf' hL' hI'
        refine s_next ⟨rfl, rfl⟩ ?_
        simp only [if_true]
        exact fin W' _ hI' (H.lead hf' hL')
      · have hab : a ≠ b := by simp at g3; omega
        refine s_call (standing_c hca hoka) ?_
        rintro _ _ ⟨rfl, rfl⟩
        refine ⟨_, rfl, s_asB (s_ite (fun g4 => ?_) (fun g4 => ?_))⟩
        · refine s_call (term_c hca hoka) ?_
          rintro _ _ ⟨rfl, rfl⟩
          refine ⟨_, rfl, s_asI ?_⟩
          refine s_new fun xx W8 hx8 hz8 f8 hx => ?_
          refine s_st hx (by simp) rfl fun W9 z9 f9 hx => s_st hx (by simp) rfl fun W10 z10 f10 hx => s_st hx (by simp) rfl fun W11 z11 f11 hx => s_st hx (by simp) rfl fun W12 z12 f12 hx => ?_
          have fS := ((f9.trans f10).trans f11).trans f12
          have fM : Fr [] W7 W12 := f8.trans' fS (fun y hy => by simp at hy; exact .inr (by omega))
          have hx : Cells W12 xx 39 [.int .i64 (a : Int), .int .i64 sa.term, .int .i64 5, .int .i64 5] := by simpa using hx
          clear f8 f9 f10 f11 f12 z9 z10 z11 z12 fS
          have hqlt := hc.lt
          have hc := fM.cells hc (by simp)
          have H := H.quiet fM
          have hcb := fM.cells hcb (by simp)
          have hzM := hx.lt
          refine s_ldI hx rfl (s_ldI hx rfl (s_ldI hx rfl (s_ldI hx rfl (s_ldI hc rfl (s_ldI hc rfl ?_)))))
          have hbbm := List.mem_of_getElem? hbb
          have hbW7 := (H.G.cells b bb sb hbb hsb).lt
          have I1 := ask_inv I hsa hsb hab (bitsI .and .i64 act.len 7) (bitsI .and .i64 act.last 7) 5 5
          obtain ⟨⟨_, _, hge, _⟩, _, _, hyf, _⟩ := grant_facts hokb ⟨(a : Int), sa.term, 5, 5⟩ (bitsI .and .i64 act.len 7) (bitsI .and .i64 act.last 7)
          have hfree : ∀ t, (sb.grant ⟨(a : Int), sa.term, 5, 5⟩ (bitsI .and .i64 act.len 7) (bitsI .and .i64 act.last 7)).1 = true → getAt S.gave ((b : Int), sa.term) = some t → t = (a : Int) := fun t h1 h2 => grant_free I hsa hsb (bitsI .and .i64 act.len 7) (bitsI .and .i64 act.last 7) h1 h2
          refine s_call (grant_c hcb hokb ⟨(a : Int), sa.term, 5, 5⟩ (bitsI .and .i64 act.len 7) (bitsI .and .i64 act.last 7)) ?_
          rintro _ W13 ⟨rfl, f13, hcb13⟩
          have hcne : Cells W13 q 33 act.cells := f13.cells hc (by simp; exact cells_ne hc hcb (by decide))
          have hc := hcne
          have hx := f13.cells hx (by simp; exact cells_ne hx hcb (by decide))
          have H := H.vote hbb f13 hcb13
          have hlena : a < S.vs.length := (List.getElem?_eq_some_iff.1 hsa).1
          have hlenb : b < S.vs.length := (List.getElem?_eq_some_iff.1 hsb).1
          have hga : (S.vs.set b (sb.grant ⟨(a : Int), sa.term, 5, 5⟩ (bitsI .and .i64 act.len 7) (bitsI .and .i64 act.last 7)).2)[a]? = some sa := by rw [List.getElem?_set_ne (Ne.symm hab)]; exact hsa
          have hca := H.G.cells a ba sa hba hga
          refine ⟨_, rfl, s_asB (s_call (term_c hca hoka) ?_)⟩
          rintro _ _ ⟨rfl, rfl⟩
          obtain ⟨kl, hkl⟩ := keyP (a := (b : Int)) (b := sa.term) (wf64 (by omega) (by omega)) (wf64 (by have := hoka.term0; omega) (by omega))
          refine ⟨_, rfl, s_asI (s_look2 (a := ((b : Int), sa.term)) H.V keyed36 Try.underlying31 (zero3 _) (kP_inj _ _) hkl ?_)⟩
          cases hy : (sb.grant ⟨(a : Int), sa.term, 5, 5⟩ (bitsI .and .i64 act.len 7) (bitsI .and .i64 act.last 7)).1 with
          | true =>
            have hnw := (hyf hy).2.2.1
            cases hl : getAt S.gave ((b : Int), sa.term) with
            | none =>
              refine s_asU (s_req rfl (s_asI (n := 0) (s_asB (s_true rfl (s_false rfl ?_)))))
              refine s_ldI hc rfl (s_ldI hc rfl (s_ldI hx rfl (s_ldI hx rfl (s_ldI hx rfl (s_ldI hx rfl (s_call (newer_c ⟨0, 0, (bitsI .and .i64 act.len 7), (bitsI .and .i64 act.last 7)⟩ ⟨(a : Int), sa.term, 5, 5⟩) ?_))))))
              rintro _ W15 ⟨rfl, f15⟩
              have H := H.quiet f15
              have hca := H.G.cells a ba sa hba hga
              refine ⟨_, rfl, s_asB (s_false hnw (s_true rfl (s_call (term_c hca hoka) ?_)))⟩
              rintro _ _ ⟨rfl, rfl⟩
              refine ⟨_, rfl, s_asI (s_put (a := ((b : Int), sa.term)) (v := (a : Int)) H.V keyed36 Try.underlying31 (kP_inj _ _) hkl fun W16 z16 f16 V16 => ?_)⟩
              have H := H.gave f16 V16
              have hca := H.G.cells a ba sa hba hga
              refine s_call (term_c hca hoka) ?_
              rintro _ _ ⟨rfl, rfl⟩
              refine ⟨_, rfl, s_asI (s_call (count_c hca hoka (b : Int) sa.term _) ?_)⟩
              rintro _ W17 ⟨rfl, f17, hca17⟩
              have H := H.vote hba f17 hca17
              refine ⟨_, rfl, s_asB ?_⟩
              rw [hy] at I1
              simp only [if_true] at I1
              have I2 := count_inv I1 (i := a) (k := b) (s := sa) hga true (fun _ => by simp [getAt_put])
              refine tail_sem (s := (sa.count (b : Int) sa.term true).2) (wv := (sb.grant ⟨(a : Int), sa.term, 5, 5⟩ (bitsI .and .i64 act.len 7) (bitsI .and .i64 act.last 7)).2) I2 (by omega) H.G H.L hba (by simp [List.getElem?_set, hlena]) hbb (by simp [List.getElem?_set, hlenb, hab, Ne.symm hab]) hge ?_
              intro W' leads' hf' hL' hI'
              refine s_next ⟨rfl, rfl⟩ ?_
              simp only [if_true]
              exact fin W' _ (hI'.more (by omega)) (H.lead hf' hL')
            | some t =>
              have := hfree t hy hl
              subst this
              refine s_asU (s_req rfl (s_asI (n := (a : Int)) (s_asB (s_true rfl (s_true rfl (s_false (by simp) ?_))))))
              refine s_ldI hc rfl (s_ldI hc rfl (s_ldI hx rfl (s_ldI hx rfl (s_ldI hx rfl (s_ldI hx rfl (s_call (newer_c ⟨0, 0, (bitsI .and .i64 act.len 7), (bitsI .and .i64 act.last 7)⟩ ⟨(a : Int), sa.term, 5, 5⟩) ?_))))))
              rintro _ W15 ⟨rfl, f15⟩
              have H := H.quiet f15
              have hca := H.G.cells a ba sa hba hga
              refine ⟨_, rfl, s_asB (s_false hnw (s_true rfl (s_call (term_c hca hoka) ?_)))⟩
              rintro _ _ ⟨rfl, rfl⟩
              refine ⟨_, rfl, s_asI (s_put (a := ((b : Int), sa.term)) (v := (a : Int)) H.V keyed36 Try.underlying31 (kP_inj _ _) hkl fun W16 z16 f16 V16 => ?_)⟩
              have H := H.gave f16 V16
              have hca := H.G.cells a ba sa hba hga
              refine s_call (term_c hca hoka) ?_
              rintro _ _ ⟨rfl, rfl⟩
              refine ⟨_, rfl, s_asI (s_call (count_c hca hoka (b : Int) sa.term _) ?_)⟩
              rintro _ W17 ⟨rfl, f17, hca17⟩
              have H := H.vote hba f17 hca17
              refine ⟨_, rfl, s_asB ?_⟩
              rw [hy] at I1
              simp only [if_true] at I1
              have I2 := count_inv I1 (i := a) (k := b) (s := sa) hga true (fun _ => by simp [getAt_put])
              refine tail_sem (s := (sa.count (b : Int) sa.term true).2) (wv := (sb.grant ⟨(a : Int), sa.term, 5, 5⟩ (bitsI .and .i64 act.len 7) (bitsI .and .i64 act.last 7)).2) I2 (by omega) H.G H.L hba (by simp [List.getElem?_set, hlena]) hbb (by simp [List.getElem?_set, hlenb, hab, Ne.symm hab]) hge ?_
              intro W' leads' hf' hL' hI'
              refine s_next ⟨rfl, rfl⟩ ?_
              simp only [if_true]
              exact fin W' _ (hI'.more (by omega)) (H.lead hf' hL')
          | false =>
            cases hl : getAt S.gave ((b : Int), sa.term) with
            | none =>
              refine s_asU (s_req rfl (s_asI (n := 0) (s_asB ?_)))
              refine s_false rfl (s_false rfl (s_call (term_c hca hoka) ?_))
              rintro _ _ ⟨rfl, rfl⟩
              refine ⟨_, rfl, s_asI (s_call (count_c hca hoka (b : Int) sa.term _) ?_)⟩
              rintro _ W17 ⟨rfl, f17, hca17⟩
              have H := H.vote hba f17 hca17
              refine ⟨_, rfl, s_asB ?_⟩
              rw [hy] at I1
              simp only [Bool.false_eq_true, if_false] at I1
              have I2 := count_inv I1 (i := a) (k := b) (s := sa) hga false (fun h => by cases h)
              refine tail_sem (s := (sa.count (b : Int) sa.term false).2) (wv := (sb.grant ⟨(a : Int), sa.term, 5, 5⟩ (bitsI .and .i64 act.len 7) (bitsI .and .i64 act.last 7)).2) I2 (by omega) H.G H.L hba (by simp [List.getElem?_set, hlena]) hbb (by simp [List.getElem?_set, hlenb, hab, Ne.symm hab]) hge ?_
              intro W' leads' hf' hL' hI'
              refine s_next ⟨rfl, rfl⟩ ?_
              simp only [if_true]
              exact fin W' _ (hI'.more (by omega)) (H.lead hf' hL')
            | some t =>
              refine s_asU (s_req rfl (s_asI (n := t) (s_asB ?_)))
              refine s_false rfl (s_false rfl (s_call (term_c hca hoka) ?_))
              rintro _ _ ⟨rfl, rfl⟩
              refine ⟨_, rfl, s_asI (s_call (count_c hca hoka (b : Int) sa.term _) ?_)⟩
              rintro _ W17 ⟨rfl, f17, hca17⟩
              have H := H.vote hba f17 hca17
              refine ⟨_, rfl, s_asB ?_⟩
              rw [hy] at I1
              simp only [Bool.false_eq_true, if_false] at I1
              have I2 := count_inv I1 (i := a) (k := b) (s := sa) hga false (fun h => by cases h)
              refine tail_sem (s := (sa.count (b : Int) sa.term false).2) (wv := (sb.grant ⟨(a : Int), sa.term, 5, 5⟩ (bitsI .and .i64 act.len 7) (bitsI .and .i64 act.last 7)).2) I2 (by omega) H.G H.L hba (by simp [List.getElem?_set, hlena]) hbb (by simp [List.getElem?_set, hlenb, hab, Ne.symm hab]) hge ?_
              intro W' leads' hf' hL' hI'
              refine s_next ⟨rfl, rfl⟩ ?_
              simp only [if_true]
              exact fin W' _ (hI'.more (by omega)) (H.lead hf' hL')
        · refine tail_sem (s := sa) (wv := sb) I (by omega) H.G H.L hba hsa hbb hsb (Int.le_refl _) ?_
          intro W' leads' hf' hL' hI'
          refine s_next ⟨rfl, rfl⟩ ?_
          simp only [if_true]
          exact fin W' _ (hI'.more (by omega)) (H.lead hf' hL')
    · refine s_call live_c ?_
      rintro _ w5 ⟨rfl, f5⟩
      exact ⟨_, rfl, s_asB (s_ret ⟨rfl, H.f.trans f5⟩)⟩
end
end Go.Proofs.Yteebkalajidehaa
