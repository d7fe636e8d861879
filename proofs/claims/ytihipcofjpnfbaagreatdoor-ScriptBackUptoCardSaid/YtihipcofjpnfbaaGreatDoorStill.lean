/- What the tree of an operation that writes nothing is worth. -/
import Derived.Test.YtihipcofjpnfbaaGreatDoorComp
import Derived.Laws.StructEq
import Derived.ChangeKeysEq
namespace Go.Proofs.YtihipcofjpnfbaaGreatDoor.Tr
open Go
set_option linter.unusedSimpArgs false

section
variable {P : Program} {Q : Ending → World → Prop} {ρ : Lv} {w : World}

/-- An operation yields a value in every world in which some cells, which are so now, are so. -/
def StillOk (P : Program) (Q : Ending → World → Prop) (ρ : Lv) (w : World) (s : World → Result Next) (k : SV → List (Addr × Value) → T) : Prop :=
  ∃ sv cs, (∀ w', AllCells w' cs → s w' = .ok (.value sv.val) w') ∧ AllCells w cs ∧ (k sv cs).sem P Q ρ w

theorem StillOk.mk0 {s : World → Result Next} {k : SV → List (Addr × Value) → T} (sv : SV) (h : ∀ w', s w' = .ok (.value sv.val) w') (hk : (k sv []).sem P Q ρ w) :
    StillOk P Q ρ w s k := ⟨sv, [], fun w' _ => h w', trivial, hk⟩

theorem size_run {t : TypeId} {n : Nat} (h : sizeP P t = some n) (w : World) : (sizeOf t).run P w = .ok n w := by
  unfold sizeP at h
  unfold sizeOf typeInfo
  simp only [Sem.run_bind, run_program, Result.andThen_ok]
  cases hi : P.info? t with
  | none => simp [hi] at h
  | some i => simp [hi] at h; simp [h]

theorem under_run {t : TypeId} {d : TypeDesc} (h : P.underlying t = some d) (w : World) : (underlying t).run P w = .ok d w := by
  unfold underlying
  simp only [Sem.run_bind, run_program, Result.andThen_ok, h]; rfl

theorem isAgg_run {t : TypeId} {b : Bool} (h : isAggP P t = some b) (w : World) : (isAgg t).run P w = .ok b w := by
  unfold isAggP at h
  unfold isAgg
  cases hd : P.underlying t with
  | none => simp [hd] at h
  | some d =>
    simp only [Sem.run_bind, under_run hd, Result.andThen_ok]
    cases d <;> simp_all

theorem ldOne_sound {lk : Lk} {b off : Nat} {k : Value → T} (h : (ldOne lk b off k).sem P Q ρ w) :
    ∃ v, w.cell? ⟨b, off, none⟩ = some v ∧ (k v).sem P Q ρ w := by
  cases lk <;> simp only [ldOne, T.sem] at h
  case slice => obtain ⟨o, n, c, h1, h2⟩ := h; exact ⟨_, h1, h2⟩
  all_goals (obtain ⟨n, h1, h2⟩ := h; exact ⟨_, h1, h2⟩)

theorem typedS_sound {lk : Lk} {v : Value} {k : SV → T} (h : (typedS lk v k).sem P Q ρ w) : ∃ sv, sv.val = v ∧ (k sv).sem P Q ρ w := by
  cases lk <;> simp only [typedS, T.sem] at h
  case slice => obtain ⟨o, n, c, h1, h2⟩ := h; exact ⟨.v _, h1.symm, h2⟩
  case any => exact ⟨.v v, rfl, h⟩
  case agg => exact ⟨.v v, rfl, h⟩
  all_goals (obtain ⟨n, h1, h2⟩ := h; exact ⟨.v _, h1.symm, h2⟩)

theorem typedMany_sound : ∀ {lks : List Lk} {vs : List Value} {k : List Value → T}, vs.length = lks.length → (typedMany lks vs k).sem P Q ρ w → (k vs).sem P Q ρ w
  | [], [], _, _, h => h
  | lk :: r, v :: vs, k, hl, h => by
    simp only [typedMany, List.headD_cons, List.tail_cons] at h
    obtain ⟨sv, h1, h2⟩ := typedS_sound h
    have := typedMany_sound (by simpa using hl) h2
    rw [h1] at this
    exact this

theorem typedV_sound {lk : Lk} {v : Value} {k : SV → T} (h : (typedV lk v k).sem P Q ρ w) : ∃ sv, sv.val = v ∧ (k sv).sem P Q ρ w := by
  unfold typedV at h
  split at h
  · simp only [T.sem] at h
    obtain ⟨n, rfl, h1, h2⟩ := h
    exact ⟨.v (.agg ⟨n⟩), rfl, typedMany_sound h1 h2⟩
  · exact typedS_sound h

theorem ldMany_sound {b off : Nat} : ∀ {lks : List Lk} {i : Nat} {k : List Value → T}, (ldMany b off lks i k).sem P Q ρ w →
    ∃ vs, vs.length = lks.length ∧ AllCells w (cellsAt b off i vs) ∧ (k vs).sem P Q ρ w
  | [], i, k, h => ⟨[], rfl, trivial, h⟩
  | lk :: r, i, k, h => by
    simp only [ldMany] at h
    obtain ⟨v, h1, h2⟩ := ldOne_sound h
    obtain ⟨vs, h3, h4, h5⟩ := ldMany_sound h2
    exact ⟨v :: vs, by simp [h3], ⟨h1, h4⟩, h5⟩

theorem add_plain (b off i : Nat) : Addr.add ⟨b, off, none⟩ i = ⟨b, off + i, none⟩ := by
  unfold Addr.add
  by_cases h : i = 0
  · subst h; simp
  · simp [h]

theorem loadCellsFrom_run (b off : Nat) : ∀ (vs : List Value) (i : Nat) (acc : Array Value) (w : World), AllCells w (cellsAt b off i vs) →
    (loadCellsFrom ⟨b, off, none⟩ i vs.length acc).run P w = .ok (acc ++ ⟨vs⟩) w
  | [], i, acc, w, _ => by simp [loadCellsFrom]
  | v :: r, i, acc, w, h => by
    simp only [cellsAt, AllCells] at h
    simp only [List.length_cons, loadCellsFrom, add_plain, Sem.run_bind, run_load, h.1, Result.andThen_ok]
    rw [loadCellsFrom_run b off r (i + 1) (acc.push v) w h.2]
    simp

theorem ldT_sound {t : TypeId} {b off : Nat} {k : SV → List (Addr × Value) → T} (h : (ldT P t b off k).sem P Q ρ w) :
    StillOk P Q ρ w (fun w' => (do let x ← Instr.loadAt t (.pointer (some ⟨b, off, none⟩)); pure (Next.value x) : Sem Next).run P w') k := by
  unfold ldT at h
  split at h
  · rename_i hagg
    split at h
    · rename_i n hn
      split at h
      · rename_i hlen
        obtain ⟨vs, h1, h2, h3⟩ := ldMany_sound h
        refine ⟨.v (.agg ⟨vs⟩), cellsAt b off 0 vs, fun w' hw => ?_, h2, h3⟩
        have hl : vs.length = n := by rw [h1]; exact Nat.eq_of_beq_eq_true hlen
        simp only [Instr.loadAt, Instr.sureAddr, pure_bind, Sem.run_bind, loadVar, isAgg_run hagg, Result.andThen_ok, if_true, size_run hn, loadCells]
        have := loadCellsFrom_run (P := P) b off vs 0 #[] w' hw
        rw [hl] at this
        simp [this, SV.val]
      · exact h.elim
    · exact h.elim
  · rename_i hagg
    obtain ⟨v, h1, h2⟩ := ldOne_sound h
    refine ⟨.v v, [(⟨b, off, none⟩, v)], fun w' hw => ?_, ⟨h1, trivial⟩, h2⟩
    simp only [AllCells, and_true] at hw
    simp [Instr.loadAt, Instr.sureAddr, loadVar, isAgg_run hagg, hw, SV.val]
  · exact h.elim

theorem binInt_sound {op : BinOp} {ki : IntKind} {x y : Int} {κ : SV → T} (h : (binInt op ki x y κ).sem P Q ρ w) :
    ∃ sv, (∀ w', (binOp op 0 (.int ki x) (.int ki y)).run P w' = .ok sv.val w') ∧ (κ sv).sem P Q ρ w := by
  cases op <;> simp only [binInt, T.sem] at h
  case quo => obtain ⟨h1, h2⟩ := h; exact ⟨_, fun w' => by simp [binOp, Op.intDiv, h1, SV.val], h2⟩
  case rem => obtain ⟨h1, h2⟩ := h; exact ⟨_, fun w' => by simp [binOp, Op.intDiv, h1, SV.val], h2⟩
  case shl => obtain ⟨h1, h2⟩ := h; exact ⟨_, fun w' => by rw [binOp]; simp [Op.shift, Int.not_lt.2 h1, SV.val, shlI], h2⟩
  case shr => obtain ⟨h1, h2⟩ := h; exact ⟨_, fun w' => by rw [binOp]; simp [Op.shift, Int.not_lt.2 h1, SV.val, shrI], h2⟩
  all_goals exact ⟨_, fun w' => by simp [binOp, Op.intArith, Op.intCmp, Op.intBits, SV.val, bitsI], h⟩

theorem binOp_type {op : BinOp} {t u : TypeId} {ki kj : IntKind} {x y : Int} : binOp op t (.int ki x) (.int kj y) = binOp op u (.int ki x) (.int kj y) := by
  cases op <;> rfl

theorem eqGuard_run {op : BinOp} {t : TypeId} {x y : Operand} {a b : Value} (h1 : ∀ c, a ≠ .agg c) (h2 : a ≠ .nilIface) (w : World) :
    (eqGuard op t x y a b).run P w = .ok () w := by
  unfold eqGuard
  cases op <;> simp <;> (cases a <;> first | (exact absurd rfl (h1 _)) | (exact absurd rfl h2) | simp)

theorem equal_bool {t : TypeId} (hu : P.underlying t = some .bool) (a b : Bool) (w : World) : (Op.equal t (.bool a) (.bool b)).run P w = .ok (a == b) w := by
  show (Op.equalIn (9999 + 1) t (.bool a) (.bool b)).run P w = _
  rw [Op.equalIn]; simp only [Sem.run_bind, under_run hu, Result.andThen_ok]; rfl
theorem equal_ptr {t u : TypeId} (hu : P.underlying t = some (.pointer u)) (o : Option Addr) (w : World) : (Op.equal t (.pointer o) (.pointer none)).run P w = .ok o.isNone w := by
  show (Op.equalIn (9999 + 1) t (.pointer o) (.pointer none)).run P w = _
  rw [Op.equalIn]; simp only [Sem.run_bind, under_run hu, Result.andThen_ok]; cases o <;> rfl
theorem equal_slice {t u : TypeId} (hu : P.underlying t = some (.slice u)) (o : Option Addr) (n c n' c' : Nat) (w : World) : (Op.equal t (.slice o n c) (.slice none n' c')).run P w = .ok o.isNone w := by
  show (Op.equalIn (9999 + 1) t (.slice o n c) (.slice none n' c')).run P w = _
  rw [Op.equalIn]; simp only [Sem.run_bind, under_run hu, Result.andThen_ok]; cases o <;> rfl
theorem equal_map {t u v : TypeId} (hu : P.underlying t = some (.map u v)) (o : Option Nat) (w : World) : (Op.equal t (.map o) (.map none)).run P w = .ok o.isNone w := by
  show (Op.equalIn (9999 + 1) t (.map o) (.map none)).run P w = _
  rw [Op.equalIn]; simp only [Sem.run_bind, under_run hu, Result.andThen_ok]; cases o <;> rfl

theorem eql_run {t : TypeId} {x y : Value} {b : Bool} (h : ∀ w, (Op.equal t x y).run P w = .ok b w) (hs : ∀ k a, x ≠ .int k a) (hf : ∀ k a, x ≠ .float k a) (hc : ∀ k a c, x ≠ .complex k a c) (ht : ∀ s, x ≠ .string s) (w : World) :
    (binOp .eql t x y).run P w = .ok (.bool b) w ∧ (binOp .neq t x y).run P w = .ok (.bool (!b)) w := by
  cases x <;> first | (exact absurd rfl (hs _ _)) | (exact absurd rfl (hf _ _)) | (exact absurd rfl (hc _ _ _)) | (exact absurd rfl (ht _)) | skip
  all_goals
    constructor <;> (rw [binOp]; simp only [Sem.run_bind, h, Result.andThen_ok]; rfl) <;> simp

theorem eqFs_sound {f : TypeId → Value → Value → Option Bool} {d : Nat} (hf : ∀ t x y b, f t x y = some b → ∀ w, (Op.equalIn d t x y).run P w = .ok b w) {xs ys : Array Value} :
    ∀ {fs : List Field} {b : Bool}, eqFs P f xs ys fs = some b → ∀ w, (Op.eqFields d xs ys fs).run P w = .ok b w
  | [], b, h, w => by
    simp only [eqFs, Option.some.injEq] at h
    subst h
    rfl
  | x :: r, b, h, w => by
    simp only [eqFs] at h
    split at h
    · cases h
    · rename_i hn
      split at h
      · rename_i va vb ha hb
        split at h
        · rename_i p q hp hq
          simp only [Option.some.injEq] at h
          subst h
          have hne : x.name ≠ "_" := by simpa using hn
          simp only [Op.eqFields, if_pos hne, Sem.run_bind, pureRun_sound ha, pureRun_sound hb, hf _ _ _ _ hp, Result.andThen_ok]
          cases p with
          | false => simp
          | true => simp [eqFs_sound hf hq]
        · cases h
      · cases h
theorem eqIs_sound {f : Value → Value → Option Bool} {d : Nat} {e : TypeId} {c : Nat} (hf : ∀ x y b, f x y = some b → ∀ w, (Op.equalIn d e x y).run P w = .ok b w) {xs ys : Array Value} :
    ∀ {is : List Nat} {b : Bool}, eqIs P f e c xs ys is = some b → ∀ w, (Op.eqItems d e c xs ys is).run P w = .ok b w
  | [], b, h, w => by
    simp only [eqIs, Option.some.injEq] at h
    subst h
    rfl
  | i :: r, b, h, w => by
    simp only [eqIs] at h
    split at h
    · rename_i va vb ha hb
      split at h
      · rename_i p q hp hq
        simp only [Option.some.injEq] at h
        subst h
        simp only [Op.eqItems, Sem.run_bind, pureRun_sound ha, pureRun_sound hb, hf _ _ _ hp, Result.andThen_ok]
        cases p with
        | false => simp
        | true => simp [eqIs_sound hf hq]
      · cases h
    · cases h
theorem eqV_sound : ∀ (n : Nat) {t : TypeId} {x y : Value} {b : Bool}, eqV P n t x y = some b → ∀ (D : Nat), n ≤ D → ∀ w, (Op.equalIn D t x y).run P w = .ok b w
  | 0, _, _, _, _, h, _, _, _ => by cases h
  | n + 1, t, x, y, b, h, D, hD, w => by
    obtain ⟨D, rfl⟩ : ∃ D', D = D' + 1 := ⟨D - 1, by omega⟩
    unfold eqV at h
    split at h
    · rename_i k0 k a k' c hu
      split at h
      · rename_i hk
        simp only [Option.some.injEq] at h
        subst hk h
        exact run_equalIn_int w D t k k0 a c hu
      · cases h
    · rename_i a c hu
      simp only [Option.some.injEq] at h
      subst h
      exact run_equalIn_bool w D t a c hu
    · rename_i a c hu
      simp only [Option.some.injEq] at h
      subst h
      exact run_equalIn_string w D t a c hu
    · rename_i fs xs ys hu
      split at h
      · rename_i hs
        have hf : P.fieldsOf t = fs := by simp [Program.fieldsOf, hu]
        rw [run_equalIn_struct w D t xs ys (by rw [hf]; exact hu) hs, hf]
        exact eqFs_sound (fun t x y b h => eqV_sound n h D (by omega)) h w
      · cases h
    · rename_i m e xs ys hu
      split at h
      · rename_i i hi
        have hc : P.cellsOf e = i.size := by simp [Program.cellsOf, hi]
        rw [run_equalIn_array w D xs ys hu hi, hc]
        exact eqIs_sound (fun x y b h => eqV_sound n h D (by omega)) h w
      · cases h
    · cases h

abbrev ex (P : Program) (e : Env) (o : Oper) : World → Result Next := fun w' => (execOp (rho e) o).run P w'

theorem isNilLit_spec {e : Env} {xt : TypeId} {y : Operand} (h : isNilLit P e xt y = true) : ∃ c, y = .const c ∧ (ev e y).val = .nilIface ∧ ∃ ms, P.underlying xt = some (.interface ms) := by
  unfold isNilLit at h
  split at h
  · split at h
    · rename_i h1 h2
      exact ⟨_, rfl, h1, _, h2⟩
    · cases h
  · cases h

theorem binT_sound {op : BinOp} {xt yt : TypeId} {x y : Operand} {e : Env} {k : SV → List (Addr × Value) → T} {d : Option Tmp} {ty : TypeId} {pos : String} {af : Array Edge} {g : Option (Nat × Bool)}
    (h : (stillT P (.binOp op xt x y yt) e k).sem P Q ρ w) : StillOk P Q ρ w (ex P e ⟨d, .binOp op xt x y yt, ty, pos, af, g⟩) k := by
  unfold stillT at h
  have hex : ∀ w', (execOp (rho e) ⟨d, .binOp op xt x y yt, ty, pos, af, g⟩).run P w' =
      (do let v ← (do eqGuard op xt x y (ev e x).val (ev e y).val; binOp op xt (ev e x).val (ev e y).val : Sem Value); pure (Next.value v) : Sem Next).run P w' := fun w' => rfl
  unfold ex
  simp only [hex]
  by_cases hb : isNilLit P e xt y = true
  · dsimp only at h
    rw [hb] at h
    obtain ⟨c, rfl, hy, ms, hu⟩ := isNilLit_spec hb
    have hg : ∀ (op : BinOp) (v : Value), isI v → ∀ w', (eqGuard op xt x (.const c) v .nilIface).run P w' = .ok () w' := by
      rintro op v (rfl | ⟨t, p, rfl⟩) w' <;> cases op <;> simp [eqGuard]
    have he : ∀ v : Value, isI v → ∀ w, (Op.equal xt v .nilIface).run P w = .ok (isNilI v) w := by
      rintro v (rfl | ⟨t, p, rfl⟩) w
      · show (Op.equalIn (9999 + 1) xt .nilIface .nilIface).run P w = _
        rw [Op.equalIn]; simp only [Sem.run_bind, under_run hu, Result.andThen_ok]; rfl
      · show (Op.equalIn (9999 + 1) xt (.iface t p) .nilIface).run P w = _
        rw [Op.equalIn]; simp only [Sem.run_bind, under_run hu, Result.andThen_ok]; rfl
    have hi : ∀ v : Value, isI v → (∀ k a, v ≠ .int k a) ∧ (∀ k a, v ≠ .float k a) ∧ (∀ k a c, v ≠ .complex k a c) ∧ (∀ s, v ≠ .string s) := by
      rintro v (rfl | ⟨t, p, rfl⟩) <;> simp
    rw [hy]
    cases op
    case eql =>
      simp only [T.sem] at h
      obtain ⟨h1, h2, h3, h4⟩ := hi _ h.1
      refine StillOk.mk0 (.v _) (fun w' => ?_) h.2
      have := (eql_run (he _ h.1) h1 h2 h3 h4 w').1
      simp only [Sem.run_bind, hg _ _ h.1, Result.andThen_ok, this]
      rfl
    case neq =>
      simp only [T.sem] at h
      obtain ⟨h1, h2, h3, h4⟩ := hi _ h.1
      refine StillOk.mk0 (.v _) (fun w' => ?_) h.2
      have := (eql_run (he _ h.1) h1 h2 h3 h4 w').2
      simp only [Sem.run_bind, hg _ _ h.1, Result.andThen_ok, this]
      rfl
    all_goals exact h.elim
  have hb : isNilLit P e xt y = false := by simpa using hb
  dsimp only at h
  rw [hb] at h
  dsimp only at h
  cases hx : (ev e x).val <;> cases hy : (ev e y).val <;> simp only [hx, hy] at h ⊢
  case int.int ka a kb b =>
    have key : ∀ sv : SV, (∀ w', (binOp op xt (.int ka a) (.int kb b)).run P w' = .ok sv.val w') → ∀ w',
        (do let v ← (do eqGuard op xt x y (.int ka a) (.int kb b); binOp op xt (.int ka a) (.int kb b) : Sem Value); pure (Next.value v) : Sem Next).run P w' = .ok (.value sv.val) w' := by
      intro sv hsv w'
      simp [eqGuard_run, hsv]
    split at h
    · simp only [T.sem] at h
      exact StillOk.mk0 _ (key _ fun w' => by rw [binOp]; simp [Op.shift, Int.not_lt.2 h.1, SV.val, shlI]) h.2
    · simp only [T.sem] at h
      exact StillOk.mk0 _ (key _ fun w' => by rw [binOp]; simp [Op.shift, Int.not_lt.2 h.1, SV.val, shrI]) h.2
    · split at h
      · rename_i hk
        subst hk
        obtain ⟨sv, h1, h2⟩ := binInt_sound h
        exact StillOk.mk0 sv (key sv fun w' => by rw [binOp_type (u := 0)]; exact h1 w') h2
      · exact h.elim
  case bool.bool a b =>
    have key : ∀ (op : BinOp) (sv : SV), (∀ w', (binOp op xt (.bool a) (.bool b)).run P w' = .ok sv.val w') → ∀ w',
        (do let v ← (do eqGuard op xt x y (.bool a) (.bool b); binOp op xt (.bool a) (.bool b) : Sem Value); pure (Next.value v) : Sem Next).run P w' = .ok (.value sv.val) w' := by
      intro op sv hsv w'
      simp [eqGuard_run, hsv]
    split at h
    case h_1 hu => exact StillOk.mk0 (.v _) (key _ _ fun w' => (eql_run (equal_bool hu a b) (by simp) (by simp) (by simp) (by simp) w').1) h
    case h_2 hu => exact StillOk.mk0 (.v _) (key _ _ fun w' => (eql_run (equal_bool hu a b) (by simp) (by simp) (by simp) (by simp) w').2) h
    case h_3 => exact h.elim
  case string.string a b =>
    split at h
    case h_4 =>
      simp only [T.sem] at h
      refine StillOk.mk0 _ (fun w' => ?_) h.2
      have h1 := h.1
      simp [eqGuard_run, binOp, Op.stringOp, SV.val, IntKind.max, IntKind.signed, IntKind.bits]
      omega
    case h_5 => exact h.elim
    all_goals
      refine StillOk.mk0 _ (fun w' => ?_) h
      simp [eqGuard_run, binOp, Op.stringOp, SV.val]
  case pointer.pointer o q =>
    have key : ∀ (op : BinOp) (sv : SV), (∀ w', (binOp op xt (.pointer o) (.pointer none)).run P w' = .ok sv.val w') → ∀ w',
        (do let v ← (do eqGuard op xt x y (.pointer o) (.pointer none); binOp op xt (.pointer o) (.pointer none) : Sem Value); pure (Next.value v) : Sem Next).run P w' = .ok (.value sv.val) w' := by
      intro op sv hsv w'
      simp [eqGuard_run, hsv]
    cases q with
    | some q => exact h.elim
    | none =>
      simp only at h
      split at h
      case h_1 hu =>
        refine StillOk.mk0 _ (key _ _ fun w' => ?_) h
        rw [(eql_run (equal_ptr hu o) (by simp) (by simp) (by simp) (by simp) w').1]
        cases hxx : ev e x <;> simp only [hxx, SV.val, reduceCtorEq, Value.pointer.injEq] at hx ⊢
        subst hx; rfl
      case h_2 hu =>
        refine StillOk.mk0 _ (key _ _ fun w' => ?_) h
        rw [(eql_run (equal_ptr hu o) (by simp) (by simp) (by simp) (by simp) w').2]
        cases hxx : ev e x <;> simp only [hxx, SV.val, reduceCtorEq, Value.pointer.injEq] at hx ⊢
        subst hx; rfl
      case h_3 => exact h.elim
  case slice.slice o n c q n' c' =>
    have key : ∀ (op : BinOp) (sv : SV), (∀ w', (binOp op xt (.slice o n c) (.slice none n' c')).run P w' = .ok sv.val w') → ∀ w',
        (do let v ← (do eqGuard op xt x y (.slice o n c) (.slice none n' c'); binOp op xt (.slice o n c) (.slice none n' c') : Sem Value); pure (Next.value v) : Sem Next).run P w' = .ok (.value sv.val) w' := by
      intro op sv hsv w'
      simp [eqGuard_run, hsv]
    cases q with
    | some q => exact h.elim
    | none =>
      simp only at h
      split at h
      case h_1 hu => exact StillOk.mk0 (.v _) (key _ _ fun w' => (eql_run (equal_slice hu o n c n' c') (by simp) (by simp) (by simp) (by simp) w').1) h
      case h_2 hu => exact StillOk.mk0 (.v _) (key _ _ fun w' => (eql_run (equal_slice hu o n c n' c') (by simp) (by simp) (by simp) (by simp) w').2) h
      case h_3 => exact h.elim
  case map.map o q =>
    have key : ∀ (op : BinOp) (sv : SV), (∀ w', (binOp op xt (.map o) (.map none)).run P w' = .ok sv.val w') → ∀ w',
        (do let v ← (do eqGuard op xt x y (.map o) (.map none); binOp op xt (.map o) (.map none) : Sem Value); pure (Next.value v) : Sem Next).run P w' = .ok (.value sv.val) w' := by
      intro op sv hsv w'
      simp [eqGuard_run, hsv]
    cases q with
    | some q => exact h.elim
    | none =>
      simp only at h
      split at h
      case h_1 hu => exact StillOk.mk0 (.v _) (key _ _ fun w' => (eql_run (equal_map hu o) (by simp) (by simp) (by simp) (by simp) w').1) h
      case h_2 hu => exact StillOk.mk0 (.v _) (key _ _ fun w' => (eql_run (equal_map hu o) (by simp) (by simp) (by simp) (by simp) w').2) h
      case h_3 => exact h.elim
  case agg.agg a b =>
    split at h
    · rename_i r hg hr
      refine StillOk.mk0 (.v _) (fun w' => ?_) h
      have h1 : ∀ w, (Op.equal xt (.agg a) (.agg b)).run P w = .ok r w := fun w => eqV_sound 100 hr 10000 (by omega) w
      have h2 := (eql_run h1 (by simp) (by simp) (by simp) (by simp) w').1
      simp only [Sem.run_bind, run_eqGuard_agg w' _ xt x y a b hg, Result.andThen_ok, h2]
      rfl
    · rename_i r hg hr
      refine StillOk.mk0 (.v _) (fun w' => ?_) h
      have h1 : ∀ w, (Op.equal xt (.agg a) (.agg b)).run P w = .ok r w := fun w => eqV_sound 100 hr 10000 (by omega) w
      have h2 := (eql_run h1 (by simp) (by simp) (by simp) (by simp) w').2
      simp only [Sem.run_bind, run_eqGuard_agg w' _ xt x y a b hg, Result.andThen_ok, h2]
      rfl
    · exact h.elim
  all_goals exact h.elim

theorem next_run {s : Sem Value} {v : Value} {w' : World} (h : s.run P w' = .ok v w') : (do let x ← s; pure (Next.value x) : Sem Next).run P w' = .ok (.value v) w' := by simp [h]

theorem fieldAt_run {t : TypeId} {fs : Array Field} {f n : Nat} {fd : Field} (hu : P.underlying t = some (.struct fs)) (hf : fs[f]? = some fd) (hs : sizeP P fd.type = some (n + 1)) (b off : Nat) (w' : World) :
    (Instr.fieldAt t (.pointer (some ⟨b, off, none⟩)) f).run P w' = .ok (.pointer (some ⟨b, off + fd.offset, none⟩)) w' := by
  unfold Instr.fieldAt
  simp only [Sem.run_bind, under_run hu, Result.andThen_ok, hf]
  simp [Instr.sureAddr, fieldPlace, size_run hs, add_plain]

theorem asIntOf_run (k : IntKind) (n : Int) (w' : World) : (asIntOf (.int k n)).run P w' = .ok (k, n) w' := rfl

theorem indexAt_slice {t el : TypeId} {s : Nat} (hu : P.underlying t = some (.slice el)) (hs : sizeP P el = some s) {b off len cap : Nat} {k : IntKind} {n : Int} (h0 : 0 ≤ n) (h1 : n < len) (w' : World) :
    (Instr.indexAt t (.slice (some ⟨b, off, none⟩) len cap) (.int k n)).run P w' = .ok (.pointer (some ⟨b, off + n.toNat * s, none⟩)) w' := by
  unfold Instr.indexAt
  simp only [Sem.run_bind, asIntOf_run, under_run hu, Result.andThen_ok]
  simp [h0, h1, size_run hs, add_plain, under_run hu]

theorem indexAt_array {t el : TypeId} {s len : Nat} (hu : P.underlying t = some (.array len el)) (hs : sizeP P el = some s) {b off : Nat} {k : IntKind} {n : Int} (h0 : 0 ≤ n) (h1 : n < len) (w' : World) :
    (Instr.indexAt t (.pointer (some ⟨b, off, none⟩)) (.int k n)).run P w' = .ok (.pointer (some ⟨b, off + n.toNat * s, none⟩)) w' := by
  unfold Instr.indexAt
  simp only [Sem.run_bind, asIntOf_run, under_run hu, Result.andThen_ok]
  simp [h0, h1, size_run hs, add_plain, under_run hu, Instr.sureAddr]

theorem index_string {t : TypeId} (hu : P.underlying t = some .string) {s : ByteArray} {k : IntKind} {n : Int} (h0 : 0 ≤ n) (h1 : n < s.size) (w' : World) :
    (Instr.index t (.string s) (.int k n)).run P w' = .ok (.int .u8 (s.data.getD n.toNat 0).toNat) w' := by
  unfold Instr.index
  simp only [Sem.run_bind, asIntOf_run, under_run hu, Result.andThen_ok, h0, if_true]
  have hlt : n.toNat < s.size := by omega
  have : s[n.toNat]? = some (s.data.getD n.toNat 0) := by
    rw [getElem?_pos s n.toNat hlt]
    have h2 : n.toNat < s.data.size := hlt
    simp only [Array.getD, h2, dif_pos]; rfl
  simp only [this]; rfl

theorem index_arr1 {t el : TypeId} {len : Nat} (hu : P.underlying t = some (.array len el)) (hs : sizeP P el = some 1) (ha : isAggP P el = some false) {cs : Array Value} {k : IntKind} {n : Int} (h0 : 0 ≤ n) (h1 : n < len) (h2 : n.toNat < cs.size) (w' : World) :
    (Instr.index t (.agg cs) (.int k n)).run P w' = .ok (cs.getD n.toNat undef) w' := by
  unfold Instr.index
  simp only [Sem.run_bind, asIntOf_run, under_run hu, Result.andThen_ok]
  simp [h0, h1, size_run hs, part, isAgg_run ha, h2, Array.getD]

theorem index_arrS {t el : TypeId} {len s : Nat} (hu : P.underlying t = some (.array len el)) (hs : sizeP P el = some s) (ha : isAggP P el = some true) {cs : Array Value} {k : IntKind} {n : Int} (h0 : 0 ≤ n) (h1 : n < len) (w' : World) :
    (Instr.index t (.agg cs) (.int k n)).run P w' = .ok (.agg (cs.extract (n.toNat * s) (n.toNat * s + s))) w' := by
  unfold Instr.index
  simp only [Sem.run_bind, asIntOf_run, under_run hu, Result.andThen_ok]
  simp [h0, h1, size_run hs, part, isAgg_run ha]

theorem sliceBase_eq (o : Option Addr) (l m s : Nat) : (if m = l then o else o.map (·.add (l * s))) = sliceBase o l m s := rfl

theorem sliceAt_slice {t el : TypeId} {s : Nat} (hu : P.underlying t = some (.slice el)) (hs : sizeP P el = some s) {o : Option Addr} {len cap : Nat} {lo hi : Option Value} {l h : Nat}
    (hb : ∀ w', (Instr.sliceBounds true len cap lo hi none).run P w' = .ok (l, h, cap) w') (w' : World) :
    (Instr.sliceAt t (.slice o len cap) lo hi none).run P w' = .ok (.slice (sliceBase o l cap s) (h - l) (cap - l)) w' := by
  unfold Instr.sliceAt
  simp only [Sem.run_bind, under_run hu, Result.andThen_ok]
  unfold Instr.slice
  simp only [Sem.run_bind, under_run hu, Result.andThen_ok, hb, size_run hs]
  rfl

theorem sliceAt_slice3 {t el : TypeId} {s : Nat} (hu : P.underlying t = some (.slice el)) (hs : sizeP P el = some s) {o : Option Addr} {len cap : Nat} {lo hi mx : Option Value} {l h m : Nat}
    (hb : ∀ w', (Instr.sliceBounds true len cap lo hi mx).run P w' = .ok (l, h, m) w') (w' : World) :
    (Instr.sliceAt t (.slice o len cap) lo hi mx).run P w' = .ok (.slice (sliceBase o l m s) (h - l) (m - l)) w' := by
  unfold Instr.sliceAt
  simp only [Sem.run_bind, under_run hu, Result.andThen_ok]
  unfold Instr.slice
  simp only [Sem.run_bind, under_run hu, Result.andThen_ok, hb, size_run hs]
  rfl

theorem sliceAt_array {t el : TypeId} {s n : Nat} (hu : P.underlying t = some (.array n el)) (hs : sizeP P el = some s) {a : Addr} {lo hi : Option Value} {l h : Nat}
    (hb : ∀ w', (Instr.sliceBounds false n n lo hi none).run P w' = .ok (l, h, n) w') (w' : World) :
    (Instr.sliceAt t (.pointer (some a)) lo hi none).run P w' = .ok (.slice (sliceBase (some a) l n s) (h - l) (n - l)) w' := by
  unfold Instr.sliceAt
  simp only [Sem.run_bind, under_run hu, Result.andThen_ok]
  simp only [Instr.sureAddr, pure_bind, Sem.run_bind, Result.andThen_ok, hb, size_run hs]
  unfold sliceBase
  split <;> rfl
theorem sliceBase_zero (a : Addr) (n s : Nat) : sliceBase (some a) 0 n s = some a := by
  unfold sliceBase
  split
  · rfl
  · simp [Addr.add]

theorem bound_run {k : IntKind} {n : Int} {y : Nat} {c : BoundsCode} (h0 : 0 ≤ n) (h1 : n ≤ y) (w' : World) : (Instr.sliceBound (.int k n) y c).run P w' = .ok n.toNat w' := by
  unfold Instr.sliceBound
  simp [asIntOf_run, h0, h1]

theorem sliceAt_string {t : TypeId} (hu : P.underlying t = some .string) {s : ByteArray} {lo hi : Option Value} {l h : Nat}
    (hb : ∀ w', (Instr.sliceBounds false s.size s.size lo hi none).run P w' = .ok (l, h, s.size) w') (w' : World) :
    (Instr.sliceAt t (.string s) lo hi none).run P w' = .ok (.string (s.extract l h)) w' := by
  unfold Instr.sliceAt
  simp only [Sem.run_bind, under_run hu, Result.andThen_ok]
  unfold Instr.slice
  simp [under_run hu, hb]

theorem lowOf_map (e : Env) (x : Option Operand) : x.map (rho e) = lowOf e x := by cases x <;> rfl

theorem fallback_sound {o : Op} {e : Env} {k : SV → List (Addr × Value) → T} {oo : Oper} (ho : execOp (rho e) oo = execOp (rho e) ⟨none, o, 0, "", #[], none⟩)
    (h : (match pureRun P (execOp (rho e) ⟨none, o, 0, "", #[], none⟩) with | some (.value v) => k (.v v) [] | _ => T.bad).sem P Q ρ w) :
    StillOk P Q ρ w (ex P e oo) k := by
  split at h
  · rename_i v hv
    exact StillOk.mk0 (.v v) (fun w' => by unfold ex; rw [ho]; exact pureRun_sound hv w') h
  · exact h.elim

theorem stillT_sound {o : Op} {e : Env} {k : SV → List (Addr × Value) → T} {d : Option Tmp} {ty : TypeId} {pos : String} {af : Array Edge} {g : Option (Nat × Bool)} (hst : isStill P o = true)
    (h : (stillT P o e k).sem P Q ρ w) : StillOk P Q ρ w (ex P e ⟨d, o, ty, pos, af, g⟩) k := by
  cases o with
  | move x => exact StillOk.mk0 _ (fun w' => rfl) h
  | assign x => exact StillOk.mk0 _ (fun w' => rfl) h
  | pick c a b =>
    unfold stillT at h
    simp only at h
    split at h
    case h_1 hc => exact StillOk.mk0 (ev e a) (fun w' => by simp [ex, execOp, rho, hc, SV.val, asBool]) h
    case h_2 hc => exact StillOk.mk0 (ev e b) (fun w' => by simp [ex, execOp, rho, hc, SV.val, asBool]) h
    case h_3 x hc =>
      simp only [T.sem] at h
      cases x with
      | true => exact StillOk.mk0 (ev e a) (fun w' => by simp [ex, execOp, rho, hc, SV.val, asBool]) (h.1 rfl)
      | false => exact StillOk.mk0 (ev e b) (fun w' => by simp [ex, execOp, rho, hc, SV.val, asBool]) (h.2 rfl)
    case h_4 => exact h.elim
  | nilCheck x =>
    unfold stillT at h
    simp only at h
    split at h
    case h_1 b off hc => exact StillOk.mk0 (.p b off) (fun w' => by simp [ex, execOp, rho, hc, SV.val]) h
    case h_2 o hc =>
      simp only [T.sem] at h
      obtain ⟨b, off, rfl, h2⟩ := h
      exact StillOk.mk0 (.p b off) (fun w' => by simp [ex, execOp, rho, hc, SV.val]) h2
    case h_3 => exact h.elim
  | fieldAddr st x f =>
    unfold stillT at h
    simp only at h
    split at h
    case h_1 b off hc =>
      split at h
      · rename_i fs hu
        split at h
        · rename_i fd hf
          split at h
          · rename_i n hs
            refine StillOk.mk0 (.p b (off + fd.offset)) (fun w' => ?_) h
            have : (execOp (rho e) ⟨d, .fieldAddr st x f, ty, pos, af, g⟩) = (do let v ← Instr.fieldAt st (.pointer (some ⟨b, off, none⟩)) f; pure (Next.value v)) := by
              show (do let v ← Instr.fieldAt st (ev e x).val f; pure (Next.value v)) = _
              rw [hc]; rfl
            unfold ex
            rw [this]
            exact next_run (fieldAt_run hu hf hs b off w')
          · exact h.elim
        · exact h.elim
      · exact h.elim
    case h_2 => exact h.elim
  | load t x =>
    unfold stillT at h
    simp only at h
    split at h
    case h_1 b off hc =>
      have := ldT_sound h
      have he : (execOp (rho e) ⟨d, .load t x, ty, pos, af, g⟩) = (do let v ← Instr.loadAt t (.pointer (some ⟨b, off, none⟩)); pure (Next.value v)) := by
        show (do let v ← Instr.loadAt t (ev e x).val; pure (Next.value v)) = _
        rw [hc]; rfl
      unfold ex
      rw [he]
      exact this
    case h_2 => exact h.elim
  | binOp op xt x y yt => exact binT_sound h
  | unOp op t x =>
    cases op
    case not =>
      unfold stillT at h
      simp only at h
      split at h
      case h_1 hc => exact StillOk.mk0 .f (fun w' => by simp [ex, execOp, rho, hc, SV.val, Op.unary]) h
      case h_2 hc => exact StillOk.mk0 .t (fun w' => by simp [ex, execOp, rho, hc, SV.val, Op.unary]) h
      case h_3 b hc => exact StillOk.mk0 (.v (.bool (!b))) (fun w' => by simp [ex, execOp, rho, hc, SV.val, Op.unary]) h
      case h_4 => exact h.elim
    case neg => exact fallback_sound (o := .unOp .neg t x) rfl h
    case xor => exact fallback_sound (o := .unOp .xor t x) rfl h
    case plus => exact fallback_sound (o := .unOp .plus t x) rfl h
  | indexAddr t x i =>
    unfold stillT at h
    simp only at h
    split at h
    case h_1 el o len cap ki n hu hx hi =>
      split at h
      · rename_i s hs
        simp only [T.sem] at h
        obtain ⟨⟨h0, h1⟩, b, off, rfl, h2⟩ := h
        refine StillOk.mk0 (.p b (off + n.toNat * s)) (fun w' => ?_) h2
        have he : (execOp (rho e) ⟨d, .indexAddr t x i, ty, pos, af, g⟩) = (do let v ← Instr.indexAt t (.slice (some ⟨b, off, none⟩) len cap) (.int ki n); pure (Next.value v)) := by
          show (do let v ← Instr.indexAt t (ev e x).val (ev e i).val; pure (Next.value v)) = _
          rw [hx, hi]; rfl
        unfold ex
        rw [he]
        exact next_run (indexAt_slice hu hs h0 h1 w')
      · exact h.elim
    case h_2 len el b off ki n hu hx hi =>
      split at h
      · rename_i s hs
        simp only [T.sem] at h
        obtain ⟨⟨h0, h1⟩, h2⟩ := h
        refine StillOk.mk0 (.p b (off + n.toNat * s)) (fun w' => ?_) h2
        have he : (execOp (rho e) ⟨d, .indexAddr t x i, ty, pos, af, g⟩) = (do let v ← Instr.indexAt t (.pointer (some ⟨b, off, none⟩)) (.int ki n); pure (Next.value v)) := by
          show (do let v ← Instr.indexAt t (ev e x).val (ev e i).val; pure (Next.value v)) = _
          rw [hx, hi]; rfl
        unfold ex
        rw [he]
        exact next_run (indexAt_array hu hs h0 h1 w')
      · exact h.elim
    case h_3 => exact h.elim
  | index t x i =>
    have he : (execOp (rho e) ⟨d, .index t x i, ty, pos, af, g⟩) = (do let v ← Instr.index t (ev e x).val (ev e i).val; pure (Next.value v)) := rfl
    unfold stillT at h
    simp only at h
    split at h
    case h_1 s ki n hu hx hi =>
      simp only [T.sem] at h
      obtain ⟨⟨h0, h1⟩, h2⟩ := h
      refine StillOk.mk0 (.v _) (fun w' => ?_) h2
      unfold ex
      rw [he, hx, hi]
      exact next_run (index_string hu h0 h1 w')
    case h_2 len el cs ki n hu hx hi =>
      split at h
      · rename_i hs ha
        simp only [T.sem] at h
        obtain ⟨⟨h0, h1, h3⟩, h2⟩ := h
        obtain ⟨sv, hsv, h4⟩ := typedV_sound h2
        refine StillOk.mk0 sv (fun w' => ?_) h4
        unfold ex
        rw [he, hx, hi, hsv]
        exact next_run (index_arr1 hu hs ha h0 h1 h3 w')
      · rename_i s hs ha
        simp only [T.sem] at h
        obtain ⟨⟨h0, h1⟩, h2⟩ := h
        obtain ⟨sv, hsv, h4⟩ := typedV_sound h2
        refine StillOk.mk0 sv (fun w' => ?_) h4
        unfold ex
        rw [he, hx, hi, hsv]
        exact next_run (index_arrS hu hs ha h0 h1 w')
      · exact h.elim
    case h_3 => exact h.elim
  | slice t x lo hi mx =>
    cases mx with
    | some m =>
      cases hi with
      | none => simp [isStill] at hst
      | some hi =>
        have he : (execOp (rho e) ⟨d, .slice t x lo (some hi) (some m), ty, pos, af, g⟩) = (do let v ← Instr.sliceAt t (ev e x).val (lowOf e lo) (some (ev e hi).val) (some (ev e m).val); pure (Next.value v)) := by
          show (do let v ← Instr.sliceAt t (rho e x) (lo.map (rho e)) ((some hi).map (rho e)) ((some m).map (rho e)); pure (Next.value v)) = _
          rw [lowOf_map]; rfl
        unfold stillT at h
        simp only at h
        split at h
        case h_1 el o len cap kl l kh hv km mv hu hx hl hh hm =>
          split at h
          · rename_i s hs
            simp only [T.sem] at h
            obtain ⟨⟨h0, h1, h3, h4, h5, h6⟩, h2⟩ := h
            refine StillOk.mk0 (.v _) (fun w' => ?_) h2
            unfold ex
            rw [he, hx, hl, hh, hm]
            exact next_run (sliceAt_slice3 hu hs (l := l.toNat) (h := hv.toNat) (m := mv.toNat) (fun w' => by simp [Instr.sliceBounds, bound_run h0 h1, bound_run h3 h4, bound_run h5 h6]) w')
          · exact h.elim
        case h_2 el o len cap kh hv km mv hu hx hl hh hm =>
          split at h
          · rename_i s hs
            simp only [T.sem] at h
            obtain ⟨⟨h0, h1, h3, h4⟩, h2⟩ := h
            refine StillOk.mk0 (.v _) (fun w' => ?_) h2
            unfold ex
            rw [he, hx, hl, hh, hm]
            exact next_run (sliceAt_slice3 hu hs (l := 0) (h := hv.toNat) (m := mv.toNat) (fun w' => by simp [Instr.sliceBounds, bound_run h0 h1, bound_run h3 h4]) w')
          · exact h.elim
        case h_3 => exact h.elim
    | none =>
      have he : (execOp (rho e) ⟨d, .slice t x lo hi none, ty, pos, af, g⟩) = (do let v ← Instr.sliceAt t (ev e x).val (lowOf e lo) (lowOf e hi) none; pure (Next.value v)) := by
        show (do let v ← Instr.sliceAt t (rho e x) (lo.map (rho e)) (hi.map (rho e)) none; pure (Next.value v)) = _
        rw [lowOf_map, lowOf_map]; rfl
      unfold stillT at h
      simp only at h
      split at h
      case h_1 el o len cap hu hx =>
        split at h
        · rename_i s hs
          split at h
          · rename_i hl hh
            refine StillOk.mk0 (.v _) (fun w' => ?_) h
            unfold ex
            rw [he, hx, hl, hh]
            exact next_run (sliceAt_slice hu hs (l := 0) (h := len) (fun w' => by simp [Instr.sliceBounds]) w')
          · rename_i kl l hl hh
            simp only [T.sem] at h
            obtain ⟨⟨h0, h1⟩, h2⟩ := h
            refine StillOk.mk0 (.v _) (fun w' => ?_) h2
            unfold ex
            rw [he, hx, hl, hh]
            exact next_run (sliceAt_slice hu hs (l := l.toNat) (h := len) (fun w' => by simp [Instr.sliceBounds, bound_run h0 h1]) w')
          · rename_i kh hv hl hh
            simp only [T.sem] at h
            obtain ⟨⟨h0, h1⟩, h2⟩ := h
            refine StillOk.mk0 (.v _) (fun w' => ?_) h2
            unfold ex
            rw [he, hx, hl, hh]
            exact next_run (sliceAt_slice hu hs (l := 0) (h := hv.toNat) (fun w' => by simp [Instr.sliceBounds, bound_run h0 h1]) w')
          · rename_i kl l kh hv hl hh
            simp only [T.sem] at h
            obtain ⟨⟨h0, h1, h3, h4⟩, h2⟩ := h
            refine StillOk.mk0 (.v _) (fun w' => ?_) h2
            have h5 : l ≤ ((hv.toNat : Nat) : Int) := by omega
            unfold ex
            rw [he, hx, hl, hh]
            exact next_run (sliceAt_slice hu hs (l := l.toNat) (h := hv.toNat) (fun w' => by simp [Instr.sliceBounds, bound_run h0 h1, bound_run h3 h5]) w')
          · exact h.elim
        · exact h.elim
      case h_2 n el a hu hx =>
        split at h
        · rename_i s hs
          split at h
          · rename_i hl hh
            refine StillOk.mk0 (.v _) (fun w' => ?_) h
            unfold ex
            rw [he, hx, hl, hh]
            have := sliceAt_array hu hs (a := a) (lo := none) (hi := none) (l := 0) (h := n) (fun w' => by simp [Instr.sliceBounds]) w'
            rw [sliceBase_zero] at this
            exact next_run this
          · rename_i kl l hl hh
            simp only [T.sem] at h
            obtain ⟨⟨h0, h1⟩, h2⟩ := h
            refine StillOk.mk0 (.v _) (fun w' => ?_) h2
            unfold ex
            rw [he, hx, hl, hh]
            exact next_run (sliceAt_array hu hs (l := l.toNat) (h := n) (fun w' => by simp [Instr.sliceBounds, bound_run h0 h1]) w')
          · rename_i kh hv hl hh
            simp only [T.sem] at h
            obtain ⟨⟨h0, h1⟩, h2⟩ := h
            refine StillOk.mk0 (.v _) (fun w' => ?_) h2
            unfold ex
            rw [he, hx, hl, hh]
            have := sliceAt_array hu hs (a := a) (lo := none) (hi := some (.int kh hv)) (l := 0) (h := hv.toNat) (fun w' => by simp [Instr.sliceBounds, bound_run h0 h1]) w'
            rw [sliceBase_zero] at this
            exact next_run this
          · rename_i kl l kh hv hl hh
            simp only [T.sem] at h
            obtain ⟨⟨h0, h1, h3, h4⟩, h2⟩ := h
            refine StillOk.mk0 (.v _) (fun w' => ?_) h2
            have h5 : l ≤ ((hv.toNat : Nat) : Int) := by omega
            unfold ex
            rw [he, hx, hl, hh]
            exact next_run (sliceAt_array hu hs (l := l.toNat) (h := hv.toNat) (fun w' => by simp [Instr.sliceBounds, bound_run h0 h1, bound_run h3 h5]) w')
          · exact h.elim
        · exact h.elim
      case h_3 s hu hx =>
        split at h
        · rename_i kl l hl hh
          simp only [T.sem] at h
          obtain ⟨⟨h0, h1⟩, h2⟩ := h
          refine StillOk.mk0 (.v _) (fun w' => ?_) h2
          unfold ex
          rw [he, hx, hl, hh]
          exact next_run (sliceAt_string hu (l := l.toNat) (h := s.size) (fun w' => by simp [Instr.sliceBounds, bound_run h0 h1]) w')
        · rename_i kh hv hl hh
          simp only [T.sem] at h
          obtain ⟨⟨h0, h1⟩, h2⟩ := h
          refine StillOk.mk0 (.v _) (fun w' => ?_) h2
          unfold ex
          rw [he, hx, hl, hh]
          exact next_run (sliceAt_string hu (l := 0) (h := hv.toNat) (fun w' => by simp [Instr.sliceBounds, bound_run h0 h1]) w')
        · rename_i kl l kh hv hl hh
          simp only [T.sem] at h
          obtain ⟨⟨h0, h1, h3, h4⟩, h2⟩ := h
          refine StillOk.mk0 (.v _) (fun w' => ?_) h2
          have h5 : l ≤ ((hv.toNat : Nat) : Int) := by omega
          unfold ex
          rw [he, hx, hl, hh]
          exact next_run (sliceAt_string hu (l := l.toNat) (h := hv.toNat) (fun w' => by simp [Instr.sliceBounds, bound_run h0 h1, bound_run h3 h5]) w')
        · exact h.elim
      case h_4 => exact h.elim
  | call c =>
    obtain ⟨callee, args, argTypes⟩ := c
    cases callee with
    | value f => simp [isStill] at hst
    | invoke r m => simp [isStill] at hst
    | builtin b =>
      have he : ∀ (x : Operand) (t : TypeId), args.toList = [x] → argTypes.toList = [t] → ∃ cs, (execOp (rho e) ⟨d, .call ⟨.builtin b, args, argTypes⟩, ty, pos, af, g⟩) =
          builtin b #[t] ty cs #[(ev e x).val] := by
        intro x t h1 h2
        have h1' : args = #[x] := by apply Array.ext'; simpa using h1
        have h2' : argTypes = #[t] := by apply Array.ext'; simpa using h2
        subst h1' h2'
        simp only [execOp, resolve, pure_bind, invoke, List.map_toArray, List.map_cons, List.map_nil]
        exact ⟨_, rfl⟩
      unfold stillT at h
      simp only at h
      unfold lenT at h
      split at h
      case h_1 x t h1 h2 =>
        obtain ⟨cs, hc⟩ := he x t h1 h2
        split at h
        case h_4 => exact h.elim
        case h_3 hu =>
          refine StillOk.mk0 (.v _) (fun w' => ?_) h
          unfold ex
          rw [hc]
          cases (ev e x).val <;> simp [builtin, Builtin.len_, under_run hu, SV.val, goInt]
        all_goals
          rename_i hu hx
          refine StillOk.mk0 (.v _) (fun w' => ?_) h
          unfold ex
          rw [hc, hx]
          simp [builtin, Builtin.len_, under_run hu, SV.val, goInt]
      case h_2 x t h1 h2 =>
        obtain ⟨cs, hc⟩ := he x t h1 h2
        split at h
        case h_2 => exact h.elim
        all_goals
          rename_i hu hx
          refine StillOk.mk0 (.v _) (fun w' => ?_) h
          unfold ex
          rw [hc, hx]
          simp [builtin, Builtin.cap_, under_run hu, SV.val, goInt]
      case h_3 => exact h.elim
  | field a b c => exact fallback_sound (o := .field a b c) rfl h
  | convert a b c => exact fallback_sound (o := .convert a b c) rfl h
  | extract a b => exact fallback_sound (o := .extract a b) rfl h
  | build a b => exact fallback_sound (o := .build a b) rfl h
  | makeInterface a b => exact fallback_sound (o := .makeInterface a b) rfl h
  | makeFunc a b c => exact fallback_sound (o := .makeFunc a b c) rfl h
  | typeAssert a b c f => exact fallback_sound (o := .typeAssert a b c f) rfl h
  | _ => simp [isStill] at hst

end
end Go.Proofs.YtihipcofjpnfbaaGreatDoor.Tr
