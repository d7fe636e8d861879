/- Instructions and their bytes, in plain words: sizes, one instruction at an address, the walk through bytes, decoding, encoding. -/
import Derived.KernelRfl
set_option linter.unusedVariables false
set_option linter.unusedSimpArgs false
namespace Go.Proofs.Ytgoecmggbcaoiaa

structure Ins where
  at_ : Int
  op : Int
  a : Int
  b : Int
  imm : Int
deriving DecidableEq

def Ins.zero : Ins := ⟨0, 0, 0, 0, 0⟩

def szP (op : Int) : Int :=
  if op = 0 then 1 else if op = 6 ∨ op = 24 ∨ op = 25 then 2
  else if op = 2 ∨ op = 3 ∨ op = 4 ∨ op = 5 ∨ op = 19 ∨ op = 22 then 3
  else if op = 1 ∨ op = 23 ∨ op = 26 ∨ op = 27 then 4
  else if 7 ≤ op ∧ op ≤ 21 then 3 else 0
def twoP (op : Int) : Bool := decide ((7 ≤ op ∧ op ≤ 18) ∨ op = 20 ∨ op = 21 ∨ op = 26 ∨ op = 27)
def fstP (op : Int) : Bool := decide (op ≠ 0 ∧ op ≠ 6 ∧ op ≠ 22 ∧ op ≠ 25)
def wideP (op : Int) : Int := (szP op - 1 - (if fstP op = true then 1 else 0)) - (if twoP op = true then 1 else 0)
def formL : List Int := [0, 9, 5, 5, 5, 5, 4, 3, 3, 3, 3, 3, 3, 3, 3, 3, 3, 3, 3, 5, 3, 3, 16, 17, 1, 4, 7, 7]
def formP (op : Int) : Int := if 0 ≤ op ∧ op < 28 then formL.getD op.toNat 0 else 0
def jumpP (op : Int) : Bool := op == 22 || op == 23

/-- What is wrong with registers and widths. -/
def idxP (x : Ins) : Int :=
  if fstP x.op = true ∧ (x.a < 0 ∨ 8 ≤ x.a) ∨ twoP x.op = true ∧ (x.b < 0 ∨ 8 ≤ x.b) then 132
  else if x.op = 19 ∧ x.imm ≠ 8 ∧ x.imm ≠ 16 ∧ x.imm ≠ 32 then 132 else 0
def idxB (x : Ins) : Bool := decide (0 ≤ x.a ∧ x.a < 8 ∧ 0 ≤ x.b ∧ x.b < 8 ∧ (x.op ≠ 19 ∨ x.imm = 8 ∨ x.imm = 16 ∨ x.imm = 32))

/-- The bytes' values: an instruction's registers and its Imm, where it lies whole. -/
def kA (at_ : Int) : Nat := at_.toNat + 1
def kB (op at_ : Int) : Nat := if fstP op = true then kA at_ + 1 else kA at_
def kI_ (op at_ : Int) : Nat := if twoP op = true then kB op at_ + 1 else kB op at_
def immP (bs : List Int) (op at_ : Int) : Int :=
  let v := (if 1 ≤ wideP op then bs.getD (kI_ op at_) 0 else 0) + (if wideP op = 2 then 256 * bs.getD (kI_ op at_ + 1) 0 else 0)
  if op = 1 ∧ 32768 ≤ v then v - 65536 else v
def insP (bs : List Int) (at_ : Int) : Ins :=
  let op := bs.getD at_.toNat 0
  ⟨at_, op, if fstP op = true then bs.getD (kA at_) 0 else 0, if twoP op = true then bs.getD (kB op at_) 0 else 0, immP bs op at_⟩
def oneP (bs : List Int) (at_ : Int) : Ins × Int × Int :=
  if at_ < 0 ∨ (bs.length : Int) ≤ at_ then (.zero, 0, 130)
  else if szP (bs.getD at_.toNat 0) = 0 ∨ (bs.length : Int) - at_ < szP (bs.getD at_.toNat 0) then (.zero, 0, 130)
  else if idxP (insP bs at_) ≠ 0 then (.zero, 0, 132)
  else (insP bs at_, at_ + szP (bs.getD at_.toNat 0), 0)

def walkF (bs : List Int) : Nat → Int → List Ins × Int
  | 0, _ => ([], 0)
  | n + 1, at_ => if at_ < bs.length then
      match oneP bs at_ with
      | (x, nx, e) => if e ≠ 0 then ([], e) else (x :: (walkF bs n nx).1, (walkF bs n nx).2)
    else ([], 0)
def walkA (bs : List Int) (at_ : Int) : List Ins × Int := walkF bs ((bs.length : Int) - at_).toNat at_
def walkP (bs : List Int) : List Ins × Int := walkA bs 0

def beginsP (l : List Ins) (n : Int) : Bool := l.any (fun x => x.at_ == n)
def badJ (l : List Ins) (x : Ins) : Bool := jumpP x.op && !beginsP l x.imm
def decP (bs : List Int) : List Ins × Int :=
  if 512 < bs.length then ([], 3)
  else if (walkP bs).2 ≠ 0 then ([], (walkP bs).2)
  else if (walkP bs).1.any (badJ (walkP bs).1) = true then ([], 131)
  else ((walkP bs).1, 0)

def lowP (op : Int) : Int := if wideP op = 2 ∧ op = 1 then -32768 else 0
def highP (op : Int) : Int := if wideP op = 2 then (if op = 1 then 32767 else 65535) else 255
def fitsP (x : Ins) : Int :=
  if szP x.op = 0 ∨ (fstP x.op = false ∧ x.a ≠ 0) ∨ (twoP x.op = false ∧ x.b ≠ 0) ∨ (wideP x.op = 0 ∧ x.imm ≠ 0) then 130
  else if idxP x ≠ 0 then idxP x
  else if x.imm < lowP x.op ∨ highP x.op < x.imm then 130 else 0
def byt (n : Int) : Int := n % 256
def immB (x : Ins) : List Int := if wideP x.op = 2 then [byt x.imm, byt (x.imm / 256)] else if wideP x.op = 1 then [byt x.imm] else []
def bytsP (x : Ins) : List Int := byt x.op :: ((if fstP x.op = true then [byt x.a] else []) ++ (if twoP x.op = true then [byt x.b] else []) ++ immB x)
def encW : List Ins → List Int × Int
  | [] => ([], 0)
  | x :: r => if fitsP x ≠ 0 then ([], fitsP x) else if (encW r).2 ≠ 0 then ([], (encW r).2) else (bytsP x ++ (encW r).1, 0)
def encP (l : List Ins) : List Int × Int := if (encW l).2 ≠ 0 then ([], (encW l).2) else if 512 < (encW l).1.length then ([], 3) else ((encW l).1, 0)

/-! ### Sizes and forms -/
theorem op_cases {op : Int} (h0 : 0 ≤ op) (h1 : op < 28) : ∃ n : Fin 28, op = (n.val : Int) := ⟨⟨op.toNat, by omega⟩, by simp; omega⟩
theorem szP_pos {op : Int} : szP op ≠ 0 ↔ 0 ≤ op ∧ op < 28 := by
  unfold szP
  repeat' split
  all_goals first | (constructor <;> intro h <;> omega) | omega
theorem szP_le (op : Int) : 0 ≤ szP op ∧ szP op ≤ 4 := by
  unfold szP
  repeat' split
  all_goals omega
structure FormIs (op f : Int) : Prop where
  a : (f / 1 % 2 ≠ 0) ↔ fstP op = true
  b : (f / 2 % 2 ≠ 0) ↔ twoP op = true
  byte : (f / 4 % 2 ≠ 0) ↔ wideP op = 1
  short : (f / 8 % 2 ≠ 0) ↔ (wideP op = 2 ∧ op = 1)
  jump : (f / 16 % 2 ≠ 0) ↔ (wideP op = 2 ∧ op ≠ 1)
theorem form_all : ∀ n : Fin 28, (((formP n.val) / 1 % 2 ≠ 0) ↔ fstP n.val = true) ∧ (((formP n.val) / 2 % 2 ≠ 0) ↔ twoP n.val = true) ∧ (((formP n.val) / 4 % 2 ≠ 0) ↔ wideP n.val = 1) ∧
    (((formP n.val) / 8 % 2 ≠ 0) ↔ (wideP n.val = 2 ∧ (n.val : Int) = 1)) ∧ (((formP n.val) / 16 % 2 ≠ 0) ↔ (wideP n.val = 2 ∧ (n.val : Int) ≠ 1)) := by decide
theorem form_is {op : Int} (h0 : 0 ≤ op) (h1 : op < 28) : FormIs op (formP op) := by
  obtain ⟨n, rfl⟩ := op_cases h0 h1
  obtain ⟨a, b, c, d, e⟩ := form_all n
  exact ⟨a, b, c, d, e⟩
theorem wide_all : ∀ n : Fin 28, (wideP n.val = 0 ∨ wideP n.val = 1 ∨ wideP n.val = 2) ∧ szP n.val = 1 + (if fstP n.val = true then 1 else 0) + (if twoP n.val = true then 1 else 0) + wideP n.val := by decide
theorem wide_is {op : Int} (h0 : 0 ≤ op) (h1 : op < 28) : (wideP op = 0 ∨ wideP op = 1 ∨ wideP op = 2) ∧ szP op = 1 + (if fstP op = true then 1 else 0) + (if twoP op = true then 1 else 0) + wideP op := by
  obtain ⟨n, rfl⟩ := op_cases h0 h1
  exact wide_all n

/-! ### The walk -/
section
variable {bs : List Int} {at_ : Int}
theorem oneP_cases : (oneP bs at_).2.2 ≠ 0 ∨ (0 ≤ at_ ∧ at_ < bs.length ∧ szP (bs.getD at_.toNat 0) ≠ 0 ∧ szP (bs.getD at_.toNat 0) ≤ bs.length - at_ ∧ idxP (insP bs at_) = 0 ∧ oneP bs at_ = (insP bs at_, at_ + szP (bs.getD at_.toNat 0), 0)) := by
  unfold oneP
  split
  · left; simp
  · split
    · left; simp
    · split
      · left; simp
      · rename_i h1 h2 h3
        right
        exact ⟨by omega, by omega, by omega, by omega, by simpa using h3, rfl⟩
theorem oneP_next (h : (oneP bs at_).2.2 = 0) : at_ < (oneP bs at_).2.1 ∧ (oneP bs at_).2.1 ≤ bs.length ∧ 0 ≤ at_ := by
  rcases oneP_cases (bs := bs) (at_ := at_) with h' | ⟨h0, h1, h2, h3, h4, h5⟩
  · exact absurd h h'
  · rw [h5]
    have := szP_le (bs.getD at_.toNat 0)
    simp only
    omega
theorem walkA_end (h : (bs.length : Int) ≤ at_) : walkA bs at_ = ([], 0) := by
  unfold walkA
  have : ((bs.length : Int) - at_).toNat = 0 := by omega
  rw [this]
  rfl
theorem walkF_enough : ∀ (n m : Nat) (at_ : Int), ((bs.length : Int) - at_).toNat ≤ n → n ≤ m → walkF bs n at_ = walkF bs m at_ := by
  intro n
  induction n with
  | zero =>
    intro m at_ h _
    cases m with
    | zero => rfl
    | succ m =>
      simp only [walkF]
      rw [if_neg (by omega)]
  | succ n ih =>
    intro m at_ h hm
    cases m with
    | zero => omega
    | succ m =>
      simp only [walkF]
      split
      · rename_i hlt
        by_cases he : (oneP bs at_).2.2 = 0
        · have := oneP_next he
          rw [ih m (oneP bs at_).2.1 (by omega) (by omega)]
        · rw [if_pos he, if_pos he]
      · rfl
theorem walkA_bad (h : at_ < bs.length) (h0 : 0 ≤ at_) (he : (oneP bs at_).2.2 ≠ 0) : walkA bs at_ = ([], (oneP bs at_).2.2) := by
  unfold walkA
  obtain ⟨k, hk⟩ : ∃ k, ((bs.length : Int) - at_).toNat = k + 1 := ⟨((bs.length : Int) - at_).toNat - 1, by omega⟩
  rw [hk]
  simp only [walkF]
  rw [if_pos h, if_pos he]
theorem walkA_ok (h : at_ < bs.length) (h0 : 0 ≤ at_) (he : (oneP bs at_).2.2 = 0) : walkA bs at_ = ((oneP bs at_).1 :: (walkA bs (oneP bs at_).2.1).1, (walkA bs (oneP bs at_).2.1).2) := by
  conv => lhs; unfold walkA
  obtain ⟨k, hk⟩ : ∃ k, ((bs.length : Int) - at_).toNat = k + 1 := ⟨((bs.length : Int) - at_).toNat - 1, by omega⟩
  rw [hk]
  simp only [walkF]
  rw [if_pos h, if_neg (by simpa using he)]
  have hn := oneP_next he
  have : walkF bs k (oneP bs at_).2.1 = walkA bs (oneP bs at_).2.1 := by
    unfold walkA
    rw [walkF_enough (((bs.length : Int) - (oneP bs at_).2.1).toNat) k _ (Nat.le_refl _) (by omega)]
  rw [this]
end
end Go.Proofs.Ytgoecmggbcaoiaa
