/- The walk of the law SumTurned. -/
import Derived.Test.YtlehpgokjppccaaSumL1
namespace Go.Proofs.Ytlehpgokjppccaa
open Go.RowKit

theorem u64_wrap_bd (a : Int) : 0 ≤ IntKind.u64.wrap a ∧ IntKind.u64.wrap a ≤ 18446744073709551615 := by
  rw [IntKind.wrap_u64]; omega

/-- An index reckoned by '%': a natural number below the length. -/
theorem rem_nat (m : Int) (n : Nat) (hn : 0 < n) : ∃ i : Nat, i < n ∧ m % (n : Int) = (i : Int) := by
  have h1 := Int.emod_nonneg m (show (n : Int) ≠ 0 by omega)
  have h2 := Int.emod_lt_of_pos m (show (0 : Int) < (n : Int) by omega)
  exact ⟨(m % (n : Int)).toNat, by omega, by omega⟩

theorem sumI_st {l k : List Int} (hl : IsB l) (hk : IsB k) (h : sumI l = sumI k) : st 4294967295 (toN l) = st 4294967295 (toN k) := by
  rw [sumI_nat hl, sumI_nat hk] at h
  have h1 := congrArg (4294967295 ^^^ ·) (Int.ofNat.inj h)
  simpa only [← Nat.xor_assoc, Nat.xor_self, Nat.zero_xor] using h1
theorem turned_fin {l : List Int} (h : IsB l) (i : Nat) (b : Int) : ((sumI (turnN i l b 4).1 == sumI l) == beqL l (turnN i l b 4).1) = true := by
  have hB := turnN_isB h i b 4
  by_cases he : sumI (turnN i l b 4).1 = sumI l
  · have := turned_st h i b (sumI_st hB h he)
    rw [this]
    simp [beqL]
  · have hne : l ≠ (turnN i l b 4).1 := fun e => he (congrArg sumI e.symm)
    simp [beqL, he, hne]

end Go.Proofs.Ytlehpgokjppccaa
