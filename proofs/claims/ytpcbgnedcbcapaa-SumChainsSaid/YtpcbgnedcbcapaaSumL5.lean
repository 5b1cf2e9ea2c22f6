/- The walk of the law SumChains. -/
import Derived.Test.YtpcbgnedcbcapaaSumL1
namespace Go.Proofs.Ytpcbgnedcbcapaa
open Go.RowKit

set_option maxRecDepth 100000 in
set_option maxHeartbeats 4000000 in
theorem chains_walk (w : World) (h0 : Int) (A : Option Addr) (n c : Nat) (l : List Int) (B : Option Addr) (m d : Nat) (k : List Int) (_hh : 0 ≤ h0 ∧ h0 ≤ 18446744073709551615)
    (hn : l.length = n) (_hnc : n ≤ c) (hcm : c ≤ maxLen) (hA : Rd w A l) (hB : IsB l) (hk : k.length = m) (_hmd : m ≤ d) (hdm : d ≤ maxLen) (hA' : Rd w B k) (hB' : IsB k) :
    Calls Try.prog 7 #[.int .u64 h0, .slice A n c, .slice B m d] w (Yes w) := by
  have hm : c ≤ 9223372036854775807 := by unfold maxLen at hcm; omega
  have hm' : d ≤ 9223372036854775807 := by unfold maxLen at hdm; omega
  clear hcm hdm
  have HN := Lib.hid hn; clear hn
  have HL := Lib.hid hA; clear hA
  have HB := Lib.hid hB; clear hB
  have HN' := Lib.hid hk; clear hk
  have HL' := Lib.hid hA'; clear hA'
  have HB' := Lib.hid hB'; clear hB'
  go_enter Try.func7, Try.ntmps7
  go_wp2_with fail
  refine (awake_any _).mono ?_
  rintro e w1 ⟨rfl, hb1'⟩
  have hs1 := hb1'.size
  by_cases hg : 10000 < n
  · go_wp2_with fail
    refine (awake_any _).mono ?_
    rintro e w2 ⟨rfl, hb2⟩
    have hB2 := hb1'.trans (hb2.mono hs1)
    go_wp2
    go_ret
    exact ⟨rfl, hB2⟩
  by_cases hg' : 10000 < m
  · go_wp2_with fail
    refine (awake_any _).mono ?_
    rintro e w2 ⟨rfl, hb2⟩
    have hB2 := hb1'.trans (hb2.mono hs1)
    go_wp2
    go_ret
    exact ⟨rfl, hB2⟩
  · have hbs1 : w1.heap.size ≤ w1.heap.size := Nat.le_refl _
    have hfin : (nextI (nextI h0 l) k == nextI h0 (l ++ k)) = true := by rw [nextI_append]; simp
    have hself : (nextI h0 l == nextI h0 l) = true := by simp
    obtain ⟨y, hy⟩ : ∃ x, x = nextI h0 l := ⟨_, rfl⟩
    obtain ⟨z, hz⟩ : ∃ x, x = nextI y k := ⟨_, rfl⟩
    obtain ⟨u, hu⟩ : ∃ x, x = nextI h0 (l ++ k) := ⟨_, rfl⟩
    rw [← hy] at hfin hself
    rw [← hz, ← hu] at hfin
    have HY := Lib.hid hy; clear hy
    have HZ := Lib.hid hz; clear hz
    have HU := Lib.hid hu; clear hu
    go_wp2_with (first
      | (at_builtin; refine wp_append rfl (.tmp 21) (.tmp 22) rfl w1.heap.size _ _ _ [] rfl (OwnB.lit w1 #[] [] _ 0 rfl rfl (Nat.le_refl _) (by decide)) A n c l rfl HN.out ((HL.out.keep hb1').keep ((Below.refl _ _).alloc (Nat.le_refl _) _)) (by omega) (by simp) ?_; intro A1 c1 w2 hown1 _ hb2'; have hb2 : Below w1.heap.size w1 w2 := ((Below.refl _ _).alloc (Nat.le_refl _) _).trans hb2'; have hs2 := hb2.size; clear hb2'; simp only [Nat.zero_add, List.nil_append] at hown1; have HO1 := Lib.hid hown1; clear hown1)
      | (at_builtin; refine wp_append rfl (.tmp 23) (.tmp 24) rfl w1.heap.size A1 n c1 _ rfl HO1.out B m d k rfl HN'.out ((HL'.out.keep hb1').keep hb2) (by omega) hs2 ?_; intro A2 c2 w3 hown2 _ hb3; have HO2 := Lib.hid hown2; clear hown2))
    have hB3 := hb1'.trans ((hb2.trans hb3).mono hs1)
    have hOO : OwnB w3 w1.heap.size A2 (n + m) c2 (l ++ k) := by simpa using HO2.out
    clear hb2 hb3 HO1 HO2
    have HO := Lib.hid hOO; clear hOO
    have HL3 := Lib.hid (HL.out.keep hB3)
    have HL3' := Lib.hid (HL'.out.keep hB3)
    refine (next_any _ A n c l h0 HN.out (by omega) HL3.out HB.out).mono ?_
    rintro e w4 ⟨rfl, rfl⟩
    rw [← HY.out]
    go_wp2_with fail
    refine (nextr_any _ A n c l h0 HN.out (by omega) HL3.out HB.out).mono ?_
    rintro e w4 ⟨rfl, rfl⟩
    rw [← HY.out]
    go_wp2_with fail
    refine (next_any _ A n c l h0 HN.out (by omega) HL3.out HB.out).mono ?_
    rintro e w4 ⟨rfl, rfl⟩
    rw [← HY.out]
    go_wp2_with fail
    refine (next_any _ B m d k y HN'.out (by omega) HL3'.out HB'.out).mono ?_
    rintro e w4 ⟨rfl, rfl⟩
    rw [← HZ.out]
    go_wp2_with fail
    refine (next_any _ A2 (n + m) c2 (l ++ k) h0 HO.out.len (by omega) HO.out.rd (HB.out.append HB'.out)).mono ?_
    rintro e w4 ⟨rfl, rfl⟩
    rw [← HU.out]
    go_wp2
    go_ret
    exact ⟨rfl, hB3⟩
end Go.Proofs.Ytpcbgnedcbcapaa
