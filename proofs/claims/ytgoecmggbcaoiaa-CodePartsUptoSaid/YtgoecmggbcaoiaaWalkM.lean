/- The walk through instructions: a sequence. -/
import Derived.Test.YtgoecmggbcaoiaaOwnW
import Derived.Test.YtgoecmggbcaoiaaTreesC
set_option linter.unusedVariables false
set_option linter.unusedSimpArgs false
set_option maxRecDepth 100000
set_option maxHeartbeats 4000000
namespace Go.Proofs.Ytgoecmggbcaoiaa
open Go hiding Expr
open Go.RowKit Tr

section
variable {w w' w0 : World} {m m' c : Hp} {bs : List Int} {o : Option Addr} {cap n p : Nat}

theorem sclone_c (H : Has w0 w m) (hb : ∀ u, Has w0 u m → BytAt u o bs) (hn : n = bs.length) (hl : bs.length ≤ 140737488355328) : Calls Try.prog 46 #[.slice o n cap] w fun e w' =>
    ∃ v c, e = .returned v ∧ OwnC 5 1 v bs.length (byts bs) c ∧ Has w0 w' (c ++ m) := by
  subst hn
  apply c46
  refine s_ite (fun g => s_ret ⟨_, [], rfl, ?_, H⟩) (fun g => ?_)
  · cases o with
    | some a => simp at g
    | none =>
      have : bs = [] := by simpa using RowsAt.none (hb w H)
      subst this
      exact OwnC.nil
  · (refine h_new H fun n3 u H => ?_)
    refine h_appAll elemY (by decide) H (c := [cl n3 5 []]) (m' := m) (cut_one (by repeat (first | exact pick_head | apply pick_tail | apply pick_app))) (OwnC.zero 5 1 n3) (br1 bs) (br_one _) (hb u (H.sub (by repeat (first | exact sb_refl | exact sb_nil | refine sb_cons (by repeat (first | exact pick_head | apply pick_tail | apply pick_app)) ?_ | refine sb_app (by repeat (first | exact cut_head | exact cut_all | apply cut_tail | apply cut_app)) ?_ | exact sb_one (by repeat (first | exact cut_head | exact cut_all | apply cut_tail | apply cut_app)))))) (by simp) (by omega) (by omega) fun v' c' w' ho' H => ?_
    rw [Nat.zero_add] at ho'
    obtain ⟨o3, cap3, rfl⟩ := ho'.slice
    exact s_asS (s_ret ⟨_, c', rfl, ho', H⟩)

/-- Walk: a clone of the bytes of its own, and a function over it. -/
theorem walk_c (H : Has w0 w m) (hb : ∀ u, Has w0 u m → BytAt u o bs) (hn : n = bs.length) (hl : bs.length ≤ 140737488355328) : Calls Try.prog 17 #[.slice o n cap] w fun e w' =>
    ∃ p o' cap' c, e = .returned (.func (.func 47) #[] ⟨[.pointer (some ⟨p, 0, none⟩)]⟩) ∧ OwnC 5 1 (.slice o' bs.length cap') bs.length (byts bs) c ∧ Has w0 w' (cl p 23 [.slice o' bs.length cap'] :: (c ++ m)) := by
  subst hn
  apply c17
  (refine s_call (sclone_c H hb rfl hl) ?_; rintro _ u ⟨v, c, rfl, ho, H⟩; refine ⟨_, rfl, ?_⟩)
  obtain ⟨o', cap', rfl⟩ := ho.slice
  refine s_asS ?_
  (refine h_new H fun n7 u H => ?_)
  exact h_st H (by repeat (first | exact pick_head | apply pick_tail | apply pick_app)) (by simp) rfl fun u H => s_ret ⟨n7, o', cap', c, rfl, ho, H⟩

def toldW (bs : List Int) : List (List Value) := (walkP bs).1.map (fun x => [.int .i64 x.at_, insV x])

theorem walk_seq (hu : ∀ x ∈ bs, 0 ≤ x ∧ x ≤ 255) (hc : bs.length ≤ cap) (hl : bs.length ≤ 140737488355328) :
    Seq Try.prog 47 [.pointer (some ⟨p, 0, none⟩)] (fun W => Cells W p 23 [.slice o bs.length cap] ∧ BytAt W o bs) (toldW bs) := by
  intro l w I S hh hK h0 hY
  apply c47
  refine s_loop (fun vs W => ∃ (a : Int) (pre : List Ins), vs = [.int .i64 a] ∧ 0 ≤ a ∧ a ≤ bs.length ∧ (walkP bs).1 = pre ++ (walkA bs a).1 ∧ I pre.length W)
    (fun vs _ => bs.length - (intOf (vs.getD 0 undef)).toNat) ⟨0, [], rfl, by omega, by omega, rfl, h0⟩ ?_
  rintro _ j W ⟨a, pre, rfl, ha0, ha1, hw, hI⟩
  obtain ⟨hp, hb⟩ := hK _ W hI
  refine s_asI (s_ldS hp rfl (s_ite (fun g => s_ldS hp rfl ?_) (fun g => s_ret ?_)))
  · simp only [decide_eq_true_eq] at g
    have H := Has.init W
    (refine s_call (one_c (at_ := a) H (fun u hu => hb.fr0 hu.base) hu hc hl) ?_; rintro _ u ⟨rfl, H⟩; refine ⟨_, rfl, ?_⟩)
    refine s_asU (s_req rfl (s_asA (s_req rfl (s_asI (s_asI (s_asI (s_asI (s_asI (s_asI (s_asI ?_))))))))))
    (refine h_new H fun n22 u H => ?_)
    iterate 5 refine h_st H (by repeat (first | exact pick_head | apply pick_tail | apply pick_app)) (by first | (simp; done) | exact Nat.le_of_ble_eq_true rfl) rfl fun u H => ?_
    have H : Has W u (cl n22 40 (insR (oneP bs a).1) :: []) := H
    refine s_ite (fun g1 => s_ret ⟨⟨_, rfl⟩, .inl ?_⟩) (fun g1 => ?_)
    · have he : (oneP bs a).2.2 ≠ 0 := by simpa using g1
      rw [walkA_bad g ha0 he, List.append_nil] at hw
      have : (toldW bs).length = pre.length := by simp [toldW, hw]
      rw [this]
      exact hh.go' hI H.base
    · have he : (oneP bs a).2.2 = 0 := by simpa using g1
      have hnx := oneP_next he
      have hq := (one_eq he).2.2.2.2.2
      have hget : (toldW bs)[pre.length]? = some [.int .i64 a, insV (oneP bs a).1] := by
        unfold toldW
        rw [List.getElem?_map, hw, walkA_ok g ha0 he]
        simp [hq, insP]
      (repeat (first | refine s_asI ?_ | refine s_asS ?_ | refine s_asP ?_ | refine s_asB ?_ | refine s_asA ?_ | refine s_asT ?_ | refine s_asM ?_ | refine s_asU ?_ | refine s_asC ?_ | refine s_sm ?_ | refine s_req (by first | rfl | exact ⟨rfl, rfl⟩) ?_ | refine h_ldI H (by repeat (first | exact pick_head | apply pick_tail | apply pick_app)) (by first | rfl | (simp; done)) ?_ | refine h_ldB H (by repeat (first | exact pick_head | apply pick_tail | apply pick_app)) (by first | rfl | (simp; done)) ?_ | refine h_ldP H (by repeat (first | exact pick_head | apply pick_tail | apply pick_app)) (by first | rfl | (simp; done)) ?_ | refine h_ldS H (by repeat (first | exact pick_head | apply pick_tail | apply pick_app)) (by first | rfl | (simp; done)) ?_ | refine h_ldM H (by repeat (first | exact pick_head | apply pick_tail | apply pick_app)) (by first | rfl | (simp; done)) ?_ | refine h_ldT H (by repeat (first | exact pick_head | apply pick_tail | apply pick_app)) (by first | rfl | (simp; done)) ?_ | refine h_ldV H (by repeat (first | exact pick_head | apply pick_tail | apply pick_app)) (by first | rfl | (simp; done)) ?_ | (refine h_new H fun _ u H => ?_) | (refine h_st H (by repeat (first | exact pick_head | apply pick_tail | apply pick_app)) (by first | (simp; done) | exact Nat.le_of_ble_eq_true rfl) rfl fun u H => ?_) | (refine h_drew H fun u H => ?_) | refine s_chk c_nil ?_))
      refine (hY pre.length u _ (hh.go' hI H.base) hget).mono ?_
      rintro _ W' ⟨v, rfl, ⟨rfl, hI'⟩ | ⟨rfl, hS⟩⟩
      · refine ⟨_, rfl, s_asB (s_false rfl (s_next ⟨rfl, rfl⟩ ?_))⟩
        simp only [if_true]
        refine ⟨⟨_, pre ++ [(oneP bs a).1], rfl, by omega, by omega, ?_, by simpa using hI'⟩, by simp [intOf]; omega⟩
        rw [hw, walkA_ok g ha0 he]
        simp
      · exact ⟨_, rfl, s_asB (s_true rfl (s_ret ⟨⟨_, rfl⟩, .inr hS⟩))⟩
  · simp only [decide_eq_false_iff_not] at g
    rw [walkA_end (by omega), List.append_nil] at hw
    have : (toldW bs).length = pre.length := by simp [toldW, hw]
    rw [this]
    exact ⟨⟨_, rfl⟩, .inl hI⟩
end
end Go.Proofs.Ytgoecmggbcaoiaa
