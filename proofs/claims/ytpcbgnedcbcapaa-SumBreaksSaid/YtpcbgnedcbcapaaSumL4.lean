/- The walk of the law SumBreaks. -/
import Derived.Test.YtpcbgnedcbcapaaSumL3
namespace Go.Proofs.Ytpcbgnedcbcapaa
open Go.RowKit

theorem sealL_st {l : List Int} (h : IsB l) : st 4294967295 (toN (sealL l)) = rbs 32 4294967295 :=
  (sealed_iff h (foot4_isB _ (sumI_bd l).1 (sumI_bd l).2) rfl).1 rfl
theorem breaks_fin {l : List Int} (h : IsB l) {n : Nat} (hn : l.length = n) (i : Nat) (b : Int) :
    (beqL (turnN i (sealL l) b 4).1 (sealL ((turnN i (sealL l) b 4).1.take n)) == beqL (sealL l) (turnN i (sealL l) b 4).1) = true := by
  have hS := sealL_isB h
  have hB := turnN_isB hS i b 4
  have hl := turnN_length i (sealL l) b 4
  rw [sealL_length, hn] at hl
  have ht := turned_st hS i b
  obtain ⟨k, hk⟩ : ∃ x, x = (turnN i (sealL l) b 4).1 := ⟨_, rfl⟩
  rw [← hk] at hB hl ht ⊢
  have e : beqL k (sealL (k.take n)) = beqL (sealL l) k := by
    rw [Bool.eq_iff_iff, beqL_iff, beqL_iff]
    constructor
    · intro hk2
      have h1 := sealL_st (hB.take n)
      rw [← hk2] at h1
      exact (ht (by rw [h1, sealL_st h])).symm
    · rintro rfl
      congr 1
      subst hn
      simp [sealL]
  rw [e]
  cases beqL (sealL l) k <;> rfl

set_option maxRecDepth 100000 in
set_option maxHeartbeats 4000000 in
theorem breaks_walk (w : World) (A : Option Addr) (n c : Nat) (l : List Int) (a b : Int) (hn : l.length = n) (_hnc : n ≤ c) (_hcm : c ≤ maxLen) (hA : Rd w A l) (hB : IsB l) (_ha : -9223372036854775808 ≤ a ∧ a ≤ 9223372036854775807) (hb : 0 ≤ b ∧ b ≤ 4294967295) :
    Calls Try.prog 6 #[.slice A n c, .int .i64 a, .int .u32 b] w (Yes w) := by
  have HN := Lib.hid hn; clear hn
  have HL := Lib.hid hA; clear hA
  have HB := Lib.hid hB; clear hB
  obtain ⟨hb0, hb1⟩ := hb
  go_enter Try.func6, Try.ntmps6
  go_wp2_with fail
  refine (awake_any _).mono ?_
  rintro e w1 ⟨rfl, hb1'⟩
  have hs1 := hb1'.size
  by_cases hg : 10000 < n
  · go_wp2_with fail
    refine (awake_any _).mono ?_
    rintro e w2 ⟨rfl, hb2⟩
    have hB2 := hb1'.trans (hb2.mono hs1)
    go_wp2
    go_ret
    exact ⟨rfl, hB2⟩
  · go_wp2_with fail
    refine (rseal2_any _ A n c l HN.out (by omega) (HL.out.keep hb1') HB.out).mono ?_
    rintro e w2 ⟨A2, n2, c2, rfl, hown, hb2⟩
    have hB2 := hb1'.trans (hb2.mono hs1)
    have hs2 := hB2.size
    have hn2 : n + 4 = n2 := by rw [← hown.len, sealL_length, HN.out]
    subst hn2
    have HO := Lib.hid hown; clear hown hb2
    obtain ⟨m0, m1⟩ := u64_wrap_bd a
    obtain ⟨i, hi, hrem⟩ := rem_nat (IntKind.u64.wrap a) (n + 4) (by omega)
    simp only [Int.natCast_add, Int.cast_ofNat_Int] at hrem
    have hmm := HO.out.cap
    go_wp2_with fail
    refine (turned_any _ A2 (n + 4) c2 (sealL l) i b HO.out.len (by omega) (by omega) hb0 hb1 HO.out.rd).mono ?_
    rintro e w3 ⟨A3, n3, c3, rfl, hown3, hb3⟩
    have HO2 := Lib.hid (HO.out.keep hb3)
    have hB3 := hB2.trans (hb3.mono hs2)
    have hs3 := hB3.size
    have hfin := breaks_fin HB.out HN.out i b
    have hkB := turnN_isB (sealL_isB HB.out) i b 4
    have hn3 : n + 4 = n3 := by rw [← hown3.len, turnN_length, sealL_length, HN.out]
    subst hn3
    obtain ⟨k, hk⟩ : ∃ x, x = (turnN i (sealL l) b 4).1 := ⟨_, rfl⟩
    rw [← hk] at hown3 hfin hkB
    have HO3 := Lib.hid hown3; clear hown3 hk hb3
    have HKB := Lib.hid hkB; clear hkB
    have hm3 := HO3.out.cap
    go_wp2_with fail
    refine (sealed2_any _ A3 n c3 k HO3.out.len hm3.1 hm3.2 HO3.out.rd HKB.out).mono ?_
    rintro e w4 ⟨rfl, hb4⟩
    have HO2' := Lib.hid (HO2.out.keep hb4)
    have HO3' := Lib.hid (HO3.out.keep hb4)
    have hB4 := hB3.trans (hb4.mono hs3)
    clear hb4
    go_wp2_with fail
    refine (same2_any _ A2 A3 (n + 4) c2 (n + 4) c3 (sealL l) k HO.out.len HO3.out.len HO2'.out.rd HO3'.out.rd (sealL_isB HB.out) HKB.out).mono ?_
    rintro e w5 ⟨rfl, rfl⟩
    go_wp2
    go_ret
    exact ⟨rfl, hB4⟩
end Go.Proofs.Ytpcbgnedcbcapaa
