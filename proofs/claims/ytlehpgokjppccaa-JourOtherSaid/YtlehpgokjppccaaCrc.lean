/- The sum as a fold over bytes, as the walk of sum.Sum computes it. No program in sight. -/
import Derived.Test.YtlehpgokjppccaaBase
namespace Go.Proofs.Ytlehpgokjppccaa
open Go.RowKit

/-- The table's entries. -/
def tabI : List Int := [0, 274646895, 549293790, 820201905, 1098587580, 1361435347, 1640403810, 1905808397, 2197175160, 2460548119, 2722870694, 2987750089, 3280807620, 3553878443, 3811616794, 4084100981]
/-- Four bits of the sum. -/
def nibI (c : Int) : Int := bits .xor .u32 (c / 16) (bt tabI (bits .and .u32 c 15).toNat)
/-- A byte of the sum. -/
def stepI (c x : Int) : Int := nibI (nibI (bits .xor .u32 c x))
/-- The sum from a beginning on. -/
def crcI (c : Int) (l : List Int) : Int := l.foldl stepI c
/-- The sum. -/
def sumI (l : List Int) : Int := bits .xor .u32 4294967295 (crcI 4294967295 l)

theorem bits_u32_bd (op : BinOp) (a b : Int) : 0 ≤ bits op .u32 a b ∧ bits op .u32 a b ≤ 4294967295 := by
  unfold bits
  cases op <;> simp only [IntKind.wrap_u32] <;> omega
theorem and15_bd (a : Int) (h0 : 0 ≤ a) (h1 : a ≤ 4294967295) : 0 ≤ bits .and .u32 a 15 ∧ bits .and .u32 a 15 < 16 := by
  rw [u32_and a 15 h0 (by omega) (by decide) (by decide)]
  have : a.toNat &&& (15 : Int).toNat = a.toNat % 16 := Nat.and_two_pow_sub_one_eq_mod a.toNat 4
  rw [this]
  omega
theorem nibI_bd (c : Int) : 0 ≤ nibI c ∧ nibI c ≤ 4294967295 := bits_u32_bd _ _ _
theorem stepI_bd (c x : Int) : 0 ≤ stepI c x ∧ stepI c x ≤ 4294967295 := nibI_bd _
theorem crcI_bd (c : Int) (l : List Int) (h0 : 0 ≤ c ∧ c ≤ 4294967295) : 0 ≤ crcI c l ∧ crcI c l ≤ 4294967295 := by
  induction l generalizing c with
  | nil => exact h0
  | cons x l ih => exact ih _ (stepI_bd c x)
theorem crcI_snoc (c : Int) (l : List Int) (x : Int) : crcI c (l ++ [x]) = stepI (crcI c l) x := by simp [crcI, List.foldl_append]
theorem crcI_append (c : Int) (l m : List Int) : crcI c (l ++ m) = crcI (crcI c l) m := by simp [crcI, List.foldl_append]

theorem sumI_bd (l : List Int) : 0 ≤ sumI l ∧ sumI l ≤ 4294967295 := bits_u32_bd _ _ _

end Go.Proofs.Ytlehpgokjppccaa
