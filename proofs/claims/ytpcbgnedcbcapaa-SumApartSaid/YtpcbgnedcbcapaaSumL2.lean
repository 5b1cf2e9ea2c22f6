/- The walk of the law SumTurned. -/
import Derived.Test.YtpcbgnedcbcapaaSumL1
namespace Go.Proofs.Ytpcbgnedcbcapaa
open Go.RowKit

theorem u64_wrap_bd (a : Int) : 0 ≤ IntKind.u64.wrap a ∧ IntKind.u64.wrap a ≤ 18446744073709551615 := by
  rw [IntKind.wrap_u64]; omega

/-- An index reckoned by '%': a natural number below the length. -/
theorem rem_nat (m : Int) (n : Nat) (hn : 0 < n) : ∃ i : Nat, i < n ∧ m % (n : Int) = (i : Int) := by
  have h1 := Int.emod_nonneg m (show (n : Int) ≠ 0 by omega)
  have h2 := Int.emod_lt_of_pos m (show (0 : Int) < (n : Int) by omega)
  exact ⟨(m % (n : Int)).toNat, by omega, by omega⟩

theorem sumI_st {l k : List Int} (hl : IsB l) (hk : IsB k) (h : sumI l = sumI k) : st 4294967295 (toN l) = st 4294967295 (toN k) := by
  rw [sumI_nat hl, sumI_nat hk] at h
  have h1 := congrArg (4294967295 ^^^ ·) (Int.ofNat.inj h)
  simpa only [← Nat.xor_assoc, Nat.xor_self, Nat.zero_xor] using h1
theorem turned_fin {l : List Int} (h : IsB l) (i : Nat) (b : Int) : ((sumI (turnN i l b 4).1 == sumI l) == beqL l (turnN i l b 4).1) = true := by
  have hB := turnN_isB h i b 4
  by_cases he : sumI (turnN i l b 4).1 = sumI l
  · have := turned_st h i b (sumI_st hB h he)
    rw [this]
    simp [beqL]
  · have hne : l ≠ (turnN i l b 4).1 := fun e => he (congrArg sumI e.symm)
    simp [beqL, he, hne]

set_option maxHeartbeats 2000000 in
theorem turned_walk (w : World) (A : Option Addr) (n c : Nat) (l : List Int) (a b : Int) (hn : l.length = n) (hnc : n ≤ c) (hcm : c ≤ maxLen) (hA : Rd w A l) (hB : IsB l) (_ha : -9223372036854775808 ≤ a ∧ a ≤ 9223372036854775807) (hb : 0 ≤ b ∧ b ≤ 4294967295) :
    Calls Try.prog 4 #[.slice A n c, .int .i64 a, .int .u32 b] w (Yes w) := by
  have hm : c ≤ 9223372036854775807 := by unfold maxLen at hcm; omega
  have HC := Lib.hid hcm; clear hcm
  have HN := Lib.hid hn; clear hn
  have HL := Lib.hid hA; clear hA
  have HB := Lib.hid hB; clear hB
  obtain ⟨hb0, hb1⟩ := hb
  go_enter Try.func4, Try.ntmps4
  go_wp2_with fail
  refine (awake_any _).mono ?_
  rintro e w1 ⟨rfl, hb1'⟩
  have hs1 := hb1'.size
  by_cases hg : 10000 < n ∨ n = 0
  · have hno : ((n : Int) == 0) = decide (n = 0) := by rw [Bool.eq_iff_iff]; simp
    rcases hg with hg | hg
    · go_wp2_with fail
      refine (awake_any _).mono ?_
      rintro e w2 ⟨rfl, hb2⟩
      have hB2 := hb1'.trans (hb2.mono hs1)
      go_wp2
      go_ret
      exact ⟨rfl, hB2⟩
    · subst hg
      go_wp2_with fail
      refine (awake_any _).mono ?_
      rintro e w2 ⟨rfl, hb2⟩
      have hB2 := hb1'.trans (hb2.mono hs1)
      go_wp2
      go_ret
      exact ⟨rfl, hB2⟩
  · have hn1 : ¬ 10000 < n := by omega
    have hn0 : 0 < n := by omega
    have hne : ((n : Int) == 0) = false := by simp; omega
    clear hg
    obtain ⟨m0, m1⟩ := u64_wrap_bd a
    obtain ⟨i, hi, hrem⟩ := rem_nat (IntKind.u64.wrap a) n hn0
    go_wp2_with fail
    refine (turned_any _ A n c l i b HN.out (by omega) (by omega) hb0 hb1 (HL.out.keep hb1')).mono ?_
    rintro e w2 ⟨A2, n2, c2, rfl, hown, hb2⟩
    have hB2 := hb1'.trans (hb2.mono hs1)
    have hs2 := hB2.size
    clear hb2
    obtain ⟨k, hk⟩ : ∃ x, x = (turnN i l b 4).1 := ⟨_, rfl⟩
    have hfin := turned_fin HB.out i b
    have hkB := turnN_isB HB.out i b 4
    rw [← hk] at hown hfin hkB
    have HK := Lib.hid hk; clear hk
    have HO := Lib.hid hown; clear hown
    have HKB := Lib.hid hkB; clear hkB
    have hmm := HO.out.cap
    obtain ⟨s1, hs1'⟩ : ∃ x, x = sumI k := ⟨_, rfl⟩
    obtain ⟨s0, hs0'⟩ : ∃ x, x = sumI l := ⟨_, rfl⟩
    rw [← hs1', ← hs0'] at hfin
    have HS1 := Lib.hid hs1'; clear hs1'
    have HS0 := Lib.hid hs0'; clear hs0'
    go_wp2_with fail
    refine (sum1_any _ _ A2 n2 c2 k HO.out.len (by simp [go_sem]) hmm.1 hmm.2 (HO.out.alloc _).rd HKB.out).mono ?_
    rintro e w3 ⟨rfl, hb3⟩
    rw [← HS1.out]
    have HO3 := Lib.hid ((HO.out.alloc _).keep hb3)
    have hB3 : Below w.heap.size w w3 := (hB2.alloc hs2 _).trans (hb3.mono (by simp; omega))
    have hs3 := hB3.size
    clear hb3
    go_wp2_with fail
    refine (sum1_any _ _ A n c l HN.out (by simp [go_sem]) hnc HC.out ((HL.out.keep hB3).keep ((Below.refl _ _).alloc (Nat.le_refl _) _)) HB.out).mono ?_
    rintro e w4 ⟨rfl, hb4⟩
    rw [← HS0.out]
    have HO4 := Lib.hid ((HO3.out.alloc _).keep hb4)
    have hB4 : Below w.heap.size w w4 := (hB3.alloc hs3 _).trans (hb4.mono (by simp; omega))
    clear hb4
    go_wp2_with fail
    refine (same2_any _ A A2 n c n2 c2 l k HN.out HO4.out.len (HL.out.keep hB4) HO4.out.rd HB.out HKB.out).mono ?_
    rintro e w5 ⟨rfl, rfl⟩
    go_wp2
    go_ret
    exact ⟨rfl, hB4⟩
end Go.Proofs.Ytpcbgnedcbcapaa
