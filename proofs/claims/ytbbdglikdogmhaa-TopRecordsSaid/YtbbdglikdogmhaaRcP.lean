/- Records: plain. No program in sight. -/
import Derived.Test.YtbbdglikdogmhaaNumE
import Derived.Test.YtbbdglikdogmhaaUnv
namespace Go.Proofs.Ytbbdglikdogmhaa
open Go.RowKit

structure Vl where
  (k n : Int)
  s : List Int
deriving DecidableEq
def Vl.val (v : Vl) : Value := .agg #[.int .i64 v.k, .int .i64 v.n, .string (strOfNums v.s)]
def zeroV : Vl := ⟨0, 0, []⟩
def i64K (n : Int) : Prop := -9223372036854775808 ≤ n ∧ n ≤ 9223372036854775807
def Vl.ok (v : Vl) : Prop := i64K v.k ∧ i64K v.n ∧ IsB v.s
/-- In how many bytes an int fits. -/
def fitsI (n : Int) (k : Nat) : Prop := -(2 : Int) ^ (8 * k - 1) ≤ n ∧ n < (2 : Int) ^ (8 * k - 1)
instance (n : Int) (k : Nat) : Decidable (fitsI n k) := by unfold fitsI; infer_instance
def widI (n : Int) : Nat :=
  if fitsI n 1 then 1 else if fitsI n 2 then 2 else if fitsI n 3 then 3 else if fitsI n 4 then 4 else if fitsI n 5 then 5 else if fitsI n 6 then 6 else if fitsI n 7 then 7 else 8
theorem widI_bd (n : Int) : 1 ≤ widI n ∧ widI n ≤ 8 := by unfold widI; constructor <;> (repeat' split) <;> omega
def codeV (v : Vl) : Int := if v.k = 1 then (widI v.n : Int) else if v.k = 2 then 16 + 2 * (v.s.length : Int) else if v.k = 3 then 17 + 2 * (v.s.length : Int) else 0
def bodyV (v : Vl) : List Int := if v.k = 1 then fxL (IntKind.u64.wrap v.n) (widI v.n) else v.s
def wrongV (v : Vl) : Int := if v.k < 0 ∨ 3 < v.k ∨ (v.k ≠ 1 ∧ v.n ≠ 0) ∨ (v.k < 2 ∧ v.s ≠ []) then 1 else if 4096 < v.s.length then 3 else 0
def firstW : List Vl → Int
  | [] => 0
  | v :: r => if wrongV v ≠ 0 then wrongV v else firstW r
def codesB (l : List Vl) : List Int := (l.map fun v => varL (codeV v)).flatten
def bodiesB (l : List Vl) : List Int := (l.map bodyV).flatten
def headB (l : List Vl) : List Int := varL (l.length : Int) ++ codesB l
def encV (l : List Vl) : List Int × Int :=
  if 64 < l.length then ([], 3) else if firstW l ≠ 0 then ([], firstW l) else if 16384 < (headB l).length + (bodiesB l).length then ([], 3) else (headB l ++ bodiesB l, 0)

/-! ### reading -/
def badC (c : Int) : Prop := c < 0 ∨ (8 < c ∧ c < 16)
instance (c : Int) : Decidable (badC c) := by unfold badC; infer_instance
def longI (c : Int) : Int := if c < 16 then c else (c - 16) / 2
def headV (l : List Int) : Int × Int × Int :=
  if 16384 < l.length then (0, 0, 3) else if (unvL l 0).2.2 ≠ 0 then (0, 0, (unvL l 0).2.2) else if (unvL l 0).1 < 0 then (0, 0, 8) else if 64 < (unvL l 0).1 then (0, 0, 3) else ((unvL l 0).1, (unvL l 0).2.1, 0)
/-- The codes of so many values from a place on. -/
def codesV (l : List Int) : Nat → Int → List Int × Int × Int
  | 0, a => ([], a, 0)
  | k + 1, a =>
    if (unvL l a).2.2 ≠ 0 then ([], 0, (unvL l a).2.2) else if badC (unvL l a).1 then ([], 0, 8) else if 8209 < (unvL l a).1 then ([], 0, 3) else
    if (codesV l k (unvL l a).2.1).2.2 ≠ 0 then ([], 0, (codesV l k (unvL l a).2.1).2.2) else ((unvL l a).1 :: (codesV l k (unvL l a).2.1).1, (codesV l k (unvL l a).2.1).2.1, 0)
/-- The signed number of bytes. -/
def sgnI : List Int → Int
  | [] => 0
  | x :: r => r.foldl (fun a y => a * 256 + y) (if 127 < x then x - 256 else x)
def readV (c : Int) (b : List Int) : Vl × Int :=
  if c = 0 then (zeroV, 0) else if 16 ≤ c then (⟨2 + c % 2, 0, b⟩, 0) else if (widI (sgnI b) : Int) ≠ c then (zeroV, 8) else (⟨1, sgnI b, []⟩, 0)
/-- The values of codes, from a place on. -/
def valsV (l : List Int) : List Int → Int → List Vl × Int × Int
  | [], a => ([], a, 0)
  | c :: cs, a =>
    if (l.length : Int) - a < longI c then ([], 0, 6) else
    if (readV c ((l.drop a.toNat).take (longI c).toNat)).2 ≠ 0 then ([], 0, (readV c ((l.drop a.toNat).take (longI c).toNat)).2) else
    if (valsV l cs (a + longI c)).2.2 ≠ 0 then ([], 0, (valsV l cs (a + longI c)).2.2) else
    ((readV c ((l.drop a.toNat).take (longI c).toNat)).1 :: (valsV l cs (a + longI c)).1, (valsV l cs (a + longI c)).2.1, 0)
def decV (l : List Int) : List Vl × Int :=
  if (headV l).2.2 ≠ 0 then ([], (headV l).2.2) else
  if (codesV l (headV l).1.toNat (headV l).2.1).2.2 ≠ 0 then ([], (codesV l (headV l).1.toNat (headV l).2.1).2.2) else
  if (valsV l (codesV l (headV l).1.toNat (headV l).2.1).1 (codesV l (headV l).1.toNat (headV l).2.1).2.1).2.2 ≠ 0 then ([], (valsV l (codesV l (headV l).1.toNat (headV l).2.1).1 (codesV l (headV l).1.toNat (headV l).2.1).2.1).2.2) else
  if (valsV l (codesV l (headV l).1.toNat (headV l).2.1).1 (codesV l (headV l).1.toNat (headV l).2.1).2.1).2.1 ≠ (l.length : Int) then ([], 8) else
  ((valsV l (codesV l (headV l).1.toNat (headV l).2.1).1 (codesV l (headV l).1.toNat (headV l).2.1).2.1).1, 0)
def firstV (l : List Int) (n : Int) : List Vl × Int :=
  if n < 0 then ([], 1) else
  if (headV l).2.2 ≠ 0 then ([], (headV l).2.2) else if (headV l).1 < n then ([], 4) else
  if (codesV l (headV l).1.toNat (headV l).2.1).2.2 ≠ 0 then ([], (codesV l (headV l).1.toNat (headV l).2.1).2.2) else
  ((valsV l ((codesV l (headV l).1.toNat (headV l).2.1).1.take n.toNat) (codesV l (headV l).1.toNat (headV l).2.1).2.1).1, (valsV l ((codesV l (headV l).1.toNat (headV l).2.1).1.take n.toNat) (codesV l (headV l).1.toNat (headV l).2.1).2.1).2.2)
end Go.Proofs.Ytbbdglikdogmhaa
