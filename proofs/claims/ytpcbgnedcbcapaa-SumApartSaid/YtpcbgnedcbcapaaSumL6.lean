/- The walk of the law SumApart. -/
import Derived.Test.YtpcbgnedcbcapaaSumL2
namespace Go.Proofs.Ytpcbgnedcbcapaa
open Go.RowKit

theorem beq_iff2 {a b c d : Int} (h : a = b ↔ c = d) : ((a == b) == (c == d)) = true := by
  have e : (a == b) = (c == d) := by rw [Bool.eq_iff_iff]; simpa using h
  rw [e]
  simp

set_option maxRecDepth 100000 in
set_option maxHeartbeats 4000000 in
theorem apart_walk (w : World) (a c : Int) (A : Option Addr) (n d : Nat) (l : List Int) (ha : 0 ≤ a ∧ a ≤ 18446744073709551615) (hc : 0 ≤ c ∧ c ≤ 18446744073709551615)
    (hn : l.length = n) (hnc : n ≤ d) (hcm : d ≤ maxLen) (hA : Rd w A l) (hB : IsB l) :
    Calls Try.prog 8 #[.int .u64 a, .int .u64 c, .slice A n d] w (Yes w) := by
  have hm : d ≤ 9223372036854775807 := by unfold maxLen at hcm; omega
  clear hcm
  have HN := Lib.hid hn; clear hn
  have HL := Lib.hid hA; clear hA
  have HB := Lib.hid hB; clear hB
  obtain ⟨ha0, ha1⟩ := ha
  obtain ⟨hc0, hc1⟩ := hc
  go_enter Try.func8, Try.ntmps8
  go_wp2_with fail
  refine (awake_any _).mono ?_
  rintro e w1 ⟨rfl, hb1'⟩
  have hs1 := hb1'.size
  by_cases hg : 5000 < n
  · go_wp2_with fail
    refine (awake_any _).mono ?_
    rintro e w2 ⟨rfl, hb2⟩
    have hB2 := hb1'.trans (hb2.mono hs1)
    go_wp2
    go_ret
    exact ⟨rfl, hB2⟩
  · have hf1 := beq_iff2 (next_apart (a := a) (c := c) HB.out ⟨ha0, ha1⟩ ⟨hc0, hc1⟩)
    obtain ⟨y, hy⟩ : ∃ x, x = nextI a l := ⟨_, rfl⟩
    obtain ⟨z, hz⟩ : ∃ x, x = nextI c l := ⟨_, rfl⟩
    rw [← hy, ← hz] at hf1
    have HY := Lib.hid hy; clear hy
    have HZ := Lib.hid hz; clear hz
    go_wp2_with fail
    refine (next_any _ A n d l a HN.out (by omega) (HL.out.keep hb1') HB.out).mono ?_
    rintro e w2 ⟨rfl, rfl⟩
    rw [← HY.out]
    go_wp2_with fail
    refine (next_any _ A n d l c HN.out (by omega) (HL.out.keep hb1') HB.out).mono ?_
    rintro e w2 ⟨rfl, rfl⟩
    rw [← HZ.out]
    by_cases h0 : n = 0
    · subst h0
      have hl : l = [] := List.eq_nil_of_length_eq_zero HN.out
      have hya : y = a := by rw [HY.out, hl]; rfl
      have HYA := Lib.hid hya; clear hya hl
      go_wp2_with fail
      refine (next_any _ A 0 d l a HN.out (by omega) (HL.out.keep hb1') HB.out).mono ?_
      rintro e w2 ⟨rfl, rfl⟩
      rw [← HY.out, HYA.out]
      have hself : (a == a) = true := by simp
      go_wp2
      go_ret
      exact ⟨rfl, hb1'⟩
    · have hne : ((n : Int) == 0) = false := by simp; omega
      have hn0 : 0 < n := by omega
      clear h0
      obtain ⟨i, hi, hrem⟩ := rem_nat c n hn0
      have hb0 : 0 ≤ a % 256 := by omega
      have hb1 : a % 256 ≤ 255 := by omega
      have hf2 := beq_iff2 (next_turned (c := c) HB.out ⟨hc0, hc1⟩ i (by rw [HN.out]; exact hi) (a % 256) hb0 hb1)
      have hkB := turnN_isB HB.out i (a % 256) 4
      have hkl := turnN_length i l (a % 256) 4
      have htur := fun W (h : Rd W A l) => turned_any W A n d l i (a % 256) HN.out (by omega) (by omega) hb0 (by omega) h
      obtain ⟨k, hk⟩ : ∃ x, x = (turnN i l (a % 256) 4).1 := ⟨_, rfl⟩
      rw [← hk] at hf2 hkB hkl htur
      rw [← HZ.out] at hf2
      obtain ⟨v, hv⟩ : ∃ x, x = nextI c k := ⟨_, rfl⟩
      rw [← hv] at hf2
      have HV := Lib.hid hv; clear hv
      rw [HN.out] at hkl
      have HK := Lib.hid hkB; clear hkB hk
      have HKL := Lib.hid hkl; clear hkl
      have HT := Lib.hid htur; clear htur
      go_wp2_with fail
      refine (HT.out _ (HL.out.keep hb1')).mono ?_
      rintro e w3 ⟨A3, n3, c3, rfl, hown3, hb3⟩
      have hn3 : n = n3 := by rw [← hown3.len, HKL.out]
      subst hn3
      have HO := Lib.hid hown3; clear hown3
      have hB3 := hb1'.trans (hb3.mono hs1)
      clear hb3 HT
      go_wp2_with fail
      refine (next_any _ A3 n c3 k c HO.out.len (by omega) HO.out.rd HK.out).mono ?_
      rintro e w4 ⟨rfl, rfl⟩
      rw [← HV.out]
      go_wp2_with fail
      refine (next_any _ A n d l c HN.out (by omega) (HL.out.keep hB3) HB.out).mono ?_
      rintro e w4 ⟨rfl, rfl⟩
      rw [← HZ.out]
      go_wp2
      go_ret
      exact ⟨rfl, hB3⟩
end Go.Proofs.Ytpcbgnedcbcapaa
