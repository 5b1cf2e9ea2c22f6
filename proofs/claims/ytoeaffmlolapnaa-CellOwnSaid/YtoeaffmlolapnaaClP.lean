/- Cells of a node: plain. -/
import Derived.Test.YtoeaffmlolapnaaNumE
namespace Go.Proofs.Ytoeaffmlolapnaa
open Go.RowKit

structure Cl where
  (key child total spill : Int)
  loc : List Int
deriving DecidableEq
def zeroC : Cl := ⟨0, 0, 0, 0, []⟩
def isK (k : Int) : Prop := 1 ≤ k ∧ k ≤ 4
def hasC (k : Int) : Prop := k = 2 ∨ k = 4
def hasK (k : Int) : Prop := k = 1 ∨ k = 2
instance (k : Int) : Decidable (isK k) := by unfold isK; infer_instance
instance (k : Int) : Decidable (hasC k) := by unfold hasC; infer_instance
instance (k : Int) : Decidable (hasK k) := by unfold hasK; infer_instance
def isP (n : Int) : Prop := 1 ≤ n ∧ n ≤ 1048576
instance (n : Int) : Decidable (isP n) := by unfold isP; infer_instance
/-- A payload that may be, of n bytes here. -/
def goodL (total spill : Int) (n : Nat) : Prop := 0 ≤ total ∧ total ≤ 16384 ∧ (n : Int) ≤ total ∧ ((n : Int) = total → spill = 0) ∧ ((n : Int) < total → isP spill)
instance (total spill : Int) (n : Nat) : Decidable (goodL total spill n) := by unfold goodL; infer_instance
def goodC (k : Int) (c : Cl) (n : Nat) : Prop := isK k ∧ (hasC k → isP c.child) ∧ (¬ hasC k → c.child = 0) ∧ (¬ hasK k → c.key = 0) ∧ (k ≠ 2 → goodL c.total c.spill n) ∧ (k = 2 → c.total = 0 ∧ n = 0 ∧ c.spill = 0)
instance (k : Int) (c : Cl) (n : Nat) : Decidable (goodC k c n) := by unfold goodC; infer_instance
def checkZ (k : Int) (c : Cl) (n : Nat) : Int := if goodC k c n then 0 else 1
def childB (k : Int) (c : Cl) : List Int := if hasC k then varL c.child else []
def keyB (k : Int) (c : Cl) : List Int := if hasK k then varL c.key else []
def spillB (c : Cl) : List Int := if c.spill = 0 then [] else varL c.spill
def loadB (k : Int) (c : Cl) : List Int := if k = 2 then [] else varL c.total ++ (varL (c.loc.length : Int) ++ (c.loc ++ spillB c))
def cellB (k : Int) (c : Cl) : List Int := childB k c ++ (keyB k c ++ loadB k c)
def encC (k : Int) (c : Cl) : List Int := if goodC k c c.loc.length then cellB k c else []
def Cl.ok (c : Cl) : Prop := (-9223372036854775808 ≤ c.key ∧ c.key ≤ 9223372036854775807) ∧ (-9223372036854775808 ≤ c.child ∧ c.child ≤ 9223372036854775807) ∧ (-9223372036854775808 ≤ c.total ∧ c.total ≤ 9223372036854775807) ∧ (-9223372036854775808 ≤ c.spill ∧ c.spill ≤ 9223372036854775807)
def Cl.val (c : Cl) (A : Option Addr) (n d : Nat) : Value := .agg #[.int .i64 c.key, .int .i64 c.child, .int .i64 c.total, .slice A n d, .int .i64 c.spill]

/-! ### reading -/
/-- A reader: the place, the error. -/
structure Rs where
  (at_ e : Int)
def nextV (l : List Int) (r : Rs) : Int := if r.e ≠ 0 then 0 else if (unvL l r.at_).2.2 ≠ 0 then 0 else (unvL l r.at_).1
def nextR (l : List Int) (r : Rs) : Rs := if r.e ≠ 0 then r else if (unvL l r.at_).2.2 ≠ 0 then ⟨r.at_, (unvL l r.at_).2.2⟩ else ⟨(unvL l r.at_).2.1, 0⟩
def formR (ok : Prop) [Decidable ok] (r : Rs) : Rs := if r.e = 0 ∧ ¬ ok then ⟨r.at_, 8⟩ else r
end Go.Proofs.Ytoeaffmlolapnaa
