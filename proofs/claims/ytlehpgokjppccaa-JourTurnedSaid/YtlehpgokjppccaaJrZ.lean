/- The walk of the law JourTurned. -/
import Derived.Test.YtlehpgokjppccaaJrT
import Derived.Test.YtlehpgokjppccaaJrU
import Derived.Test.YtlehpgokjppccaaSumD
namespace Go.Proofs.Ytlehpgokjppccaa
open Go.RowKit
set_option maxRecDepth 100000

set_option maxHeartbeats 8000000 in
theorem jturned_walk (w : World) (s p k : Int) (A : Option Addr) (m c : Nat) (F : List Fr) (a b : Int) (hs : i64ok s) (hp : i64ok p) (hk : 0 ≤ k ∧ k ≤ 18446744073709551615) (hF : F.length = m) (hmc : m ≤ c) (hcm : c ≤ maxLen) (hA : RdFr w A F) (hok : ∀ f ∈ F, FrOk f) (_ha : -9223372036854775808 ≤ a ∧ a ≤ 9223372036854775807) (hb : 0 ≤ b ∧ b ≤ 4294967295) :
    Calls Try.prog 9 #[.agg #[.int .i64 s, .int .i64 p, .int .u64 k, .slice A m c], .int .i64 a, .int .u32 b] w (JYes w) := by
  have HS := Lib.hid hs; clear hs
  have HP := Lib.hid hp; clear hp
  have HK := Lib.hid hk; clear hk
  have HL := Lib.hid hF; clear hF
  have HOK := Lib.hid hok; clear hok
  have HC := Lib.hid hcm; clear hcm
  obtain ⟨W1, hW1⟩ : ∃ W, W = w.alloc (.cells #[.int .i64 s, .int .i64 p, .int .u64 k, .slice A m c] 59) := ⟨_, rfl⟩
  have hbW : Below w.heap.size w W1 := by rw [hW1]; exact (Below.refl _ _).alloc (Nat.le_refl _) _
  have hsW : W1.heap.size = w.heap.size + 1 := by rw [hW1]; simp
  have hat : MdAt W1 w.heap.size s p k A m c := by
    rw [hW1]
    exact ⟨by simp [go_sem], by simp [go_sem], by simp [go_sem], by simp [go_sem]⟩
  have HT := Lib.hid hat; clear hat
  have HA := Lib.hid (hA.keep hbW); clear hA
  have HW := Lib.hid hW1
  go_enter Try.func9, Try.ntmps9
  go_wp2_with fail
  rw [← hW1]
  clear hW1 HW
  refine (jawake_any _).mono ?_
  rintro e w1 ⟨rfl, hb1⟩
  have hB1 : Below w.heap.size w w1 := hbW.trans (hb1.mono (by omega))
  have hz1 := hb1.size
  have HT1 := Lib.hid (HT.out.keep hb1); clear HT
  have HA1 := Lib.hid (HA.out.keep hb1); clear HA hb1
  obtain ⟨k0, k1, k2, k3⟩ := HT1.out
  go_wp2_with fail
  refine (great_any _ A m c F HL.out (by have := HC.out; omega) HA1.out _ rfl).mono ?_
  rintro e w2 ⟨r, rfl, hr, rfl⟩
  cases r with
  | true =>
    clear hr
    go_wp2_with fail
    refine (jawake_any _).mono ?_
    rintro e w2 ⟨rfl, hb2⟩
    have hB2 := hB1.trans (hb2.mono hB1.size)
    go_wp2
    go_ret
    exact ⟨rfl, hB2⟩
  | false =>
    have hm50 := hr rfl
    clear hr
    by_cases hm0 : m = 0
    · subst hm0
      go_wp2_with fail
      refine (jawake_any _).mono ?_
      rintro e w2 ⟨rfl, hb2⟩
      have hB2 := hB1.trans (hb2.mono hB1.size)
      go_wp2
      go_ret
      exact ⟨rfl, hB2⟩
    have hme : ((m : Int) == 0) = false := by simp; omega
    obtain ⟨bA, oA, rfl, _⟩ := HA1.out.at (by rw [HL.out]; omega)
    go_upto_region 3 with fail
    clear k0 k1 k2 k3
    go_step
    refine wp_load_md rfl _ rfl w.heap.size s p k (some ⟨bA, oA, none⟩) m c rfl HT1.out ?_
    go_wp2_with fail
    refine (write_any _ s p k (some ⟨bA, oA, none⟩) m c F HS.out HP.out HK.out HL.out hm50 HA1.out HOK.out).mono ?_
    rintro e w3 ⟨A3, n3, c3, r, rfl, hb3, hr3⟩
    have hB3 := hB1.trans (hb3.mono hB1.size)
    have hz3 := hb3.size
    cases r with
    | false =>
      clear hr3
      go_wp2
      go_ret
      exact ⟨rfl, hB3⟩
    | true =>
      obtain ⟨ho, hf, hlen, hnc3, hcm3, hrd⟩ := hr3 rfl
      clear hr3
      obtain ⟨sn, rfl, hs0, hs4⟩ : ∃ sn : Nat, s = (sn : Int) ∧ 256 ≤ sn ∧ sn ≤ 4096 := by
        have := ho.1
        unfold isSize at this
        exact ⟨s.toNat, by omega, by omega, by omega⟩
      have hn3 : n3 = 28 + m * (sn + 8) := by rw [← hlen, jourL_length hf, HL.out, Int.toNat_natCast]
      have hmul : m * (sn + 8) ≤ 50 * 4104 := Nat.mul_le_mul hm50 (by omega)
      have HT3 := Lib.hid (HT1.out.keep hb3)
      have HA3 := Lib.hid (HA1.out.keep hb3)
      obtain ⟨b3, o3, rfl, _, hcells⟩ := hrd.at (by rw [hlen, hn3]; omega)
      clear hcells
      have HRD := Lib.hid hrd
      have HLEN := Lib.hid hlen
      have HFF := Lib.hid hf
      have HO := Lib.hid ho
      clear hrd hlen hf ho hb3 HT1 HA1
      obtain ⟨m0, m1⟩ := u64_wrap_bd a
      have hb28 : 28 ≤ n3 := by omega
      have hbn : n3 ≤ 205228 := by omega
      obtain ⟨N, hN⟩ : ∃ N, N = m * (sn + 8) := ⟨_, rfl⟩
      rw [← hN] at hn3 hmul
      have hN0 : 0 < N := by rw [hN]; exact Nat.mul_pos (by omega) (by omega)
      obtain ⟨x, hx, hrem⟩ := rem_nat (IntKind.u64.wrap a) N hN0
      have HREM := Lib.hid hrem
      have HM0 := Lib.hid m0
      clear hrem m0 m1
      have hiN : x / (sn + 8) < m := by
        rw [hN] at hx
        exact Nat.div_lt_of_lt_mul (by rw [Nat.mul_comm]; exact hx)
      have hrn : x % (sn + 8) < sn + 8 := Nat.mod_lt _ (by omega)
      have HNN := Lib.hid hN
      have hN3 : N ≤ 205200 := by omega
      have HN3 := Lib.hid hn3
      clear hN hn3 hmul
      obtain ⟨i, hi⟩ : ∃ i, i = x / (sn + 8) := ⟨_, rfl⟩
      obtain ⟨r, hr⟩ : ∃ r, r = x % (sn + 8) := ⟨_, rfl⟩
      rw [← hi] at hiN
      rw [← hr] at hrn
      have HI := Lib.hid hi
      have HRR := Lib.hid hr
      clear hi hr
      obtain ⟨k0, k1, k2, k3⟩ := HT3.out
      have yx : -9223372036854775808 ≤ (x : Int) ∧ (x : Int) ≤ 9223372036854775807 := by omega
      have s1 : ¬ (sn : Int) + 8 = 0 := by omega
      have s2 : ¬ (sn : Int) + 8 = -1 := by omega
      have n0 : ¬ N = 0 := by omega
      have n1 : (N : Int) ≤ 205200 := by omega
      have eN : ((sn : Int) + 8) * (m : Int) = (N : Int) := by rw [HNN.out, Int.natCast_mul, Int.natCast_add, Int.mul_comm]; rfl
      have e7 : wrap64 ((IntKind.u64.wrap a).tmod (N : Int)) = (x : Int) := by
        rw [Int.tmod_eq_emod_of_nonneg HM0.out, HREM.out]
        exact IntWalk.wrap64_in _ yx
      have HE7 := Lib.hid e7
      have e8 : (x : Int).tdiv ((sn : Int) + 8) = (i : Int) := by
        rw [HI.out, show (sn : Int) + 8 = ((sn + 8 : Nat) : Int) by omega]
        exact Int.ofNat_tdiv _ _
      have e9 : (x : Int).tmod ((sn : Int) + 8) = (r : Int) := by
        rw [HRR.out, show (sn : Int) + 8 = ((sn + 8 : Nat) : Int) by omega]
        exact Int.ofNat_tmod _ _
      have HE8 := Lib.hid e8
      have HE9 := Lib.hid e9
      clear e7 e8 e9 yx
      go_upto_region 6 with fail
      go_upto_region 7 with fail
      go_upto_region 8 with fail
      rw [HE7.out]
      have e8 := HE8.out
      go_upto_region 9 with fail
      clear e8
      have e9 := HE9.out
      obtain ⟨q0, hq0⟩ : ∃ q0 : Nat, q0 = min r sn := ⟨_, rfl⟩
      have hmin : min (r : Int) (sn : Int) = (q0 : Int) := by omega
      have hq0s : q0 ≤ sn := by omega
      have HMIN := Lib.hid hmin
      clear hmin hq0
      go_region_with (fail)
      simp only [Act.put, List.setIfInBounds_toArray, List.set_cons_zero, List.set_cons_succ, List.getElem_toArray, List.getElem_cons_zero, List.getElem_cons_succ]
      rw [HMIN.out]
      clear e9
      by_cases hA : q0 = sn
      · subst hA
        by_cases hB : b % 2 = 1
        · obtain ⟨q, hq⟩ : ∃ q : Nat, q = q0 + 4 := ⟨_, rfl⟩
          have hqs : q ≤ q0 ∨ q = q0 + 4 := by omega
          obtain ⟨P, hP⟩ : ∃ P, P = i * (q0 + 8) := ⟨_, rfl⟩
          have hPN : P + (q0 + 8) ≤ N := by
            rw [hP, HNN.out]
            have := Nat.mul_le_mul_right (q0 + 8) (show i + 1 ≤ m by omega)
            rw [Nat.add_mul] at this
            omega
          obtain ⟨T, hT⟩ : ∃ T, T = 28 + (P + q) := ⟨_, rfl⟩
          have eT1 : 28 + (P : Int) + ((q0 : Int) + 4) = (T : Int) := by omega
          have eT2 : 28 + ((P : Int) + ((q0 : Int) + 4)) = (T : Int) := by omega
          have HET1 := Lib.hid eT1
          have HET2 := Lib.hid eT2
          clear eT1 eT2
          have t2 : T ≤ 140737488351232 := by omega
          have t1 : n3 ≤ 140737488351232 := by omega
          have HQQ := Lib.hid hqs
          have HPP := Lib.hid hP
          have HTT := Lib.hid hT
          have eP : (i : Int) * ((q0 : Int) + 8) = (P : Int) := by rw [HPP.out, Int.natCast_mul, Int.natCast_add]; rfl
          clear hP
          have hT0 : T = 28 + (i * (q0 + 8) + q) := by rw [HTT.out, HPP.out]
          have htur := jour_turned HO.out HK.out HFF.out (i := i) (by rw [HL.out]; exact hiN) (q := q) (by rw [Int.toNat_natCast]; exact HQQ.out) b
          rw [Int.toNat_natCast, ← hT0] at htur
          obtain ⟨C, hC⟩ : ∃ C, C = (turnN T (jourL (q0 : Int) p k F) b 4).1 := ⟨_, rfl⟩
          have hCB : IsB C := by rw [hC]; exact turnN_isB (jourL_isB HFF.out) _ _ _
          have hCl : C.length = n3 := by rw [hC, turnN_length, HLEN.out]
          rw [← hC] at htur
          have HTUR := Lib.hid htur
          have HCB := Lib.hid hCB
          have HCL := Lib.hid hCl
          have HCE := Lib.hid hC
          clear hT0 htur hCB hCl hC
          have hbd : Below w3.heap.size w3 w3.drew := (Below.refl _ _).drew
          go_wp2_with fail
          first | rw [HET1.out] | rw [HET2.out]
          clear eP eN
          refine (turned_any _ (some ⟨b3, o3, none⟩) n3 c3 (jourL (q0 : Int) p k F) T b HLEN.out t1 t2 hb.1 hb.2 (HRD.out.keep hbd)).mono ?_
          rintro e w5 ⟨A5, n5, c5, rfl, hown5, hb5⟩
          rw [← HCE.out] at hown5
          have hn5 : n3 = n5 := by rw [← hown5.len, HCL.out]
          subst hn5
          have hb35 : Below w3.heap.size w3 w5 := hbd.trans (hb5.mono hbd.size)
          have hB5 : Below w.heap.size w w5 := hB3.trans (hb35.mono hB3.size)
          have HO5 := Lib.hid hown5
          have HT5 := Lib.hid (HT3.out.keep hb35)
          have HA5 := Lib.hid (HA3.out.keep hb35)
          have HRD5 := Lib.hid (HRD.out.keep hb35)
          have hz5 := hb35.size
          clear hown5 hb5 hbd hb35 k0 k1 k2 k3
          go_wp2_with fail
          refine (scan_any _ A5 n3 c5 C HCL.out HO5.out.cap.1 HO5.out.cap.2 HO5.out.rd HCB.out (by omega)).mono ?_
          rintro e w6 ⟨A6, m6, c6, rfl, h61, h62, h63, hb6⟩
          simp only [HTUR.out] at h61 h63 ⊢
          have hB6 := hB5.trans (hb6.mono hB5.size)
          have hz6 := hb6.size
          have HT6 := Lib.hid (HT5.out.keep hb6)
          have HA6 := Lib.hid (HA5.out.keep hb6)
          have HRD6 := Lib.hid (HRD5.out.keep hb6)
          have HO6 := Lib.hid (HO5.out.keep hb6)
          have HF6 := Lib.hid h63
          have HL6 := Lib.hid h61
          clear h61 h63 hb6
          go_wp2_with fail
          refine (same1_any _ (some ⟨b3, o3, none⟩) A5 n3 c3 n3 c5 (jourL (q0 : Int) p k F) C HLEN.out HCL.out (by omega) HRD6.out HO6.out.rd).mono ?_
          rintro e w7 ⟨rfl, hb7⟩
          have hB7 := hB6.trans (hb7.mono hB6.size)
          have hz7 := hb7.size
          have HT7 := Lib.hid (HT6.out.keep hb7)
          have HA7 := Lib.hid (HA6.out.keep hb7)
          have HF7 := Lib.hid (HF6.out.keep hb7)
          clear hb7
          obtain ⟨k0, k1, k2, k3⟩ := HT7.out
          by_cases he : jourL (q0 : Int) p k F = C
          · have hq : beqL (jourL (q0 : Int) p k F) C = true := by rw [beqL_iff]; exact he
            have hF7 := HF7.out
            have hL6 := HL6.out
            rw [if_pos he] at hF7 hL6
            have HF8 := Lib.hid hF7
            have HL8 := Lib.hid hL6
            simp only [hq]
            clear hF7 hL6 hq he
            have z0 : (0 : Int) ≤ (m : Int) := by omega
            have z1 : (m : Int) ≤ (c : Int) := by omega
            go_wp2_with fail
            refine (frames_any _ A6 (some ⟨bA, oA, none⟩) m6 c6 m c F F HL8.out HL.out h62 HF8.out HA7.out).mono ?_
            rintro e w8 ⟨rfl, hb8⟩
            simp only [decide_true]
            have hB8 := hB7.trans (hb8.mono hB7.size)
            clear hb8
            go_wp2
            go_ret
            exact ⟨rfl, hB8⟩
          · have hq : beqL (jourL (q0 : Int) p k F) C = false := by rw [beqL_no]; exact he
            have hF7 := HF7.out
            have hL6 := HL6.out
            rw [if_neg he] at hF7 hL6
            have HF8 := Lib.hid hF7
            have HL8 := Lib.hid hL6
            simp only [hq]
            clear hF7 hL6 hq he
            have z0 : (0 : Int) ≤ (i : Int) := by omega
            have z1 : (i : Int) ≤ (c : Int) := by omega
            have hFi : (F.take i).length = i := by rw [List.length_take, HL.out]; omega
            have HFI := Lib.hid hFi
            clear hFi
            go_wp2_with fail
            refine (frames_any _ A6 (some ⟨bA, oA, none⟩) m6 c6 i c (F.take i) (F.take i) HL8.out HFI.out h62 HF8.out (HA7.out.take i)).mono ?_
            rintro e w8 ⟨rfl, hb8⟩
            simp only [decide_true]
            have hB8 := hB7.trans (hb8.mono hB7.size)
            clear hb8
            go_wp2
            go_ret
            exact ⟨rfl, hB8⟩
        · obtain ⟨q, hq⟩ : ∃ q : Nat, q = q0 := ⟨_, rfl⟩
          have hqs : q ≤ q0 ∨ q = q0 + 4 := by omega
          obtain ⟨P, hP⟩ : ∃ P, P = i * (q0 + 8) := ⟨_, rfl⟩
          have hPN : P + (q0 + 8) ≤ N := by
            rw [hP, HNN.out]
            have := Nat.mul_le_mul_right (q0 + 8) (show i + 1 ≤ m by omega)
            rw [Nat.add_mul] at this
            omega
          obtain ⟨T, hT⟩ : ∃ T, T = 28 + (P + q) := ⟨_, rfl⟩
          have eT1 : 28 + (P : Int) + (q0 : Int) = (T : Int) := by omega
          have eT2 : 28 + ((P : Int) + (q0 : Int)) = (T : Int) := by omega
          have HET1 := Lib.hid eT1
          have HET2 := Lib.hid eT2
          clear eT1 eT2
          have t2 : T ≤ 140737488351232 := by omega
          have t1 : n3 ≤ 140737488351232 := by omega
          have HQQ := Lib.hid hqs
          have HPP := Lib.hid hP
          have HTT := Lib.hid hT
          have eP : (i : Int) * ((q0 : Int) + 8) = (P : Int) := by rw [HPP.out, Int.natCast_mul, Int.natCast_add]; rfl
          clear hP
          have hT0 : T = 28 + (i * (q0 + 8) + q) := by rw [HTT.out, HPP.out]
          have htur := jour_turned HO.out HK.out HFF.out (i := i) (by rw [HL.out]; exact hiN) (q := q) (by rw [Int.toNat_natCast]; exact HQQ.out) b
          rw [Int.toNat_natCast, ← hT0] at htur
          obtain ⟨C, hC⟩ : ∃ C, C = (turnN T (jourL (q0 : Int) p k F) b 4).1 := ⟨_, rfl⟩
          have hCB : IsB C := by rw [hC]; exact turnN_isB (jourL_isB HFF.out) _ _ _
          have hCl : C.length = n3 := by rw [hC, turnN_length, HLEN.out]
          rw [← hC] at htur
          have HTUR := Lib.hid htur
          have HCB := Lib.hid hCB
          have HCL := Lib.hid hCl
          have HCE := Lib.hid hC
          clear hT0 htur hCB hCl hC
          have hbd : Below w3.heap.size w3 w3.drew := (Below.refl _ _).drew
          go_wp2_with fail
          first | rw [HET1.out] | rw [HET2.out]
          clear eP eN
          refine (turned_any _ (some ⟨b3, o3, none⟩) n3 c3 (jourL (q0 : Int) p k F) T b HLEN.out t1 t2 hb.1 hb.2 (HRD.out.keep hbd)).mono ?_
          rintro e w5 ⟨A5, n5, c5, rfl, hown5, hb5⟩
          rw [← HCE.out] at hown5
          have hn5 : n3 = n5 := by rw [← hown5.len, HCL.out]
          subst hn5
          have hb35 : Below w3.heap.size w3 w5 := hbd.trans (hb5.mono hbd.size)
          have hB5 : Below w.heap.size w w5 := hB3.trans (hb35.mono hB3.size)
          have HO5 := Lib.hid hown5
          have HT5 := Lib.hid (HT3.out.keep hb35)
          have HA5 := Lib.hid (HA3.out.keep hb35)
          have HRD5 := Lib.hid (HRD.out.keep hb35)
          have hz5 := hb35.size
          clear hown5 hb5 hbd hb35 k0 k1 k2 k3
          go_wp2_with fail
          refine (scan_any _ A5 n3 c5 C HCL.out HO5.out.cap.1 HO5.out.cap.2 HO5.out.rd HCB.out (by omega)).mono ?_
          rintro e w6 ⟨A6, m6, c6, rfl, h61, h62, h63, hb6⟩
          simp only [HTUR.out] at h61 h63 ⊢
          have hB6 := hB5.trans (hb6.mono hB5.size)
          have hz6 := hb6.size
          have HT6 := Lib.hid (HT5.out.keep hb6)
          have HA6 := Lib.hid (HA5.out.keep hb6)
          have HRD6 := Lib.hid (HRD5.out.keep hb6)
          have HO6 := Lib.hid (HO5.out.keep hb6)
          have HF6 := Lib.hid h63
          have HL6 := Lib.hid h61
          clear h61 h63 hb6
          go_wp2_with fail
          refine (same1_any _ (some ⟨b3, o3, none⟩) A5 n3 c3 n3 c5 (jourL (q0 : Int) p k F) C HLEN.out HCL.out (by omega) HRD6.out HO6.out.rd).mono ?_
          rintro e w7 ⟨rfl, hb7⟩
          have hB7 := hB6.trans (hb7.mono hB6.size)
          have hz7 := hb7.size
          have HT7 := Lib.hid (HT6.out.keep hb7)
          have HA7 := Lib.hid (HA6.out.keep hb7)
          have HF7 := Lib.hid (HF6.out.keep hb7)
          clear hb7
          obtain ⟨k0, k1, k2, k3⟩ := HT7.out
          by_cases he : jourL (q0 : Int) p k F = C
          · have hq : beqL (jourL (q0 : Int) p k F) C = true := by rw [beqL_iff]; exact he
            have hF7 := HF7.out
            have hL6 := HL6.out
            rw [if_pos he] at hF7 hL6
            have HF8 := Lib.hid hF7
            have HL8 := Lib.hid hL6
            simp only [hq]
            clear hF7 hL6 hq he
            have z0 : (0 : Int) ≤ (m : Int) := by omega
            have z1 : (m : Int) ≤ (c : Int) := by omega
            go_wp2_with fail
            refine (frames_any _ A6 (some ⟨bA, oA, none⟩) m6 c6 m c F F HL8.out HL.out h62 HF8.out HA7.out).mono ?_
            rintro e w8 ⟨rfl, hb8⟩
            simp only [decide_true]
            have hB8 := hB7.trans (hb8.mono hB7.size)
            clear hb8
            go_wp2
            go_ret
            exact ⟨rfl, hB8⟩
          · have hq : beqL (jourL (q0 : Int) p k F) C = false := by rw [beqL_no]; exact he
            have hF7 := HF7.out
            have hL6 := HL6.out
            rw [if_neg he] at hF7 hL6
            have HF8 := Lib.hid hF7
            have HL8 := Lib.hid hL6
            simp only [hq]
            clear hF7 hL6 hq he
            have z0 : (0 : Int) ≤ (i : Int) := by omega
            have z1 : (i : Int) ≤ (c : Int) := by omega
            have hFi : (F.take i).length = i := by rw [List.length_take, HL.out]; omega
            have HFI := Lib.hid hFi
            clear hFi
            go_wp2_with fail
            refine (frames_any _ A6 (some ⟨bA, oA, none⟩) m6 c6 i c (F.take i) (F.take i) HL8.out HFI.out h62 HF8.out (HA7.out.take i)).mono ?_
            rintro e w8 ⟨rfl, hb8⟩
            simp only [decide_true]
            have hB8 := hB7.trans (hb8.mono hB7.size)
            clear hb8
            go_wp2
            go_ret
            exact ⟨rfl, hB8⟩
      · have hA' : ¬ (q0 : Int) = (sn : Int) := by omega
        obtain ⟨q, hq⟩ : ∃ q : Nat, q = q0 := ⟨_, rfl⟩
        have hqs : q ≤ sn ∨ q = sn + 4 := by omega
        obtain ⟨P, hP⟩ : ∃ P, P = i * (sn + 8) := ⟨_, rfl⟩
        have hPN : P + (sn + 8) ≤ N := by
          rw [hP, HNN.out]
          have := Nat.mul_le_mul_right (sn + 8) (show i + 1 ≤ m by omega)
          rw [Nat.add_mul] at this
          omega
        obtain ⟨T, hT⟩ : ∃ T, T = 28 + (P + q) := ⟨_, rfl⟩
        have eT1 : 28 + (P : Int) + (q0 : Int) = (T : Int) := by omega
        have eT2 : 28 + ((P : Int) + (q0 : Int)) = (T : Int) := by omega
        have HET1 := Lib.hid eT1
        have HET2 := Lib.hid eT2
        clear eT1 eT2
        have t2 : T ≤ 140737488351232 := by omega
        have t1 : n3 ≤ 140737488351232 := by omega
        have HQQ := Lib.hid hqs
        have HPP := Lib.hid hP
        have HTT := Lib.hid hT
        have eP : (i : Int) * ((sn : Int) + 8) = (P : Int) := by rw [HPP.out, Int.natCast_mul, Int.natCast_add]; rfl
        clear hP
        have hT0 : T = 28 + (i * (sn + 8) + q) := by rw [HTT.out, HPP.out]
        have htur := jour_turned HO.out HK.out HFF.out (i := i) (by rw [HL.out]; exact hiN) (q := q) (by rw [Int.toNat_natCast]; exact HQQ.out) b
        rw [Int.toNat_natCast, ← hT0] at htur
        obtain ⟨C, hC⟩ : ∃ C, C = (turnN T (jourL (sn : Int) p k F) b 4).1 := ⟨_, rfl⟩
        have hCB : IsB C := by rw [hC]; exact turnN_isB (jourL_isB HFF.out) _ _ _
        have hCl : C.length = n3 := by rw [hC, turnN_length, HLEN.out]
        rw [← hC] at htur
        have HTUR := Lib.hid htur
        have HCB := Lib.hid hCB
        have HCL := Lib.hid hCl
        have HCE := Lib.hid hC
        clear hT0 htur hCB hCl hC
        have hbd : Below w3.heap.size w3 w3.drew := (Below.refl _ _).drew
        go_wp2_with fail
        first | rw [HET1.out] | rw [HET2.out]
        clear eP eN
        refine (turned_any _ (some ⟨b3, o3, none⟩) n3 c3 (jourL (sn : Int) p k F) T b HLEN.out t1 t2 hb.1 hb.2 (HRD.out.keep hbd)).mono ?_
        rintro e w5 ⟨A5, n5, c5, rfl, hown5, hb5⟩
        rw [← HCE.out] at hown5
        have hn5 : n3 = n5 := by rw [← hown5.len, HCL.out]
        subst hn5
        have hb35 : Below w3.heap.size w3 w5 := hbd.trans (hb5.mono hbd.size)
        have hB5 : Below w.heap.size w w5 := hB3.trans (hb35.mono hB3.size)
        have HO5 := Lib.hid hown5
        have HT5 := Lib.hid (HT3.out.keep hb35)
        have HA5 := Lib.hid (HA3.out.keep hb35)
        have HRD5 := Lib.hid (HRD.out.keep hb35)
        have hz5 := hb35.size
        clear hown5 hb5 hbd hb35 k0 k1 k2 k3
        go_wp2_with fail
        refine (scan_any _ A5 n3 c5 C HCL.out HO5.out.cap.1 HO5.out.cap.2 HO5.out.rd HCB.out (by omega)).mono ?_
        rintro e w6 ⟨A6, m6, c6, rfl, h61, h62, h63, hb6⟩
        simp only [HTUR.out] at h61 h63 ⊢
        have hB6 := hB5.trans (hb6.mono hB5.size)
        have hz6 := hb6.size
        have HT6 := Lib.hid (HT5.out.keep hb6)
        have HA6 := Lib.hid (HA5.out.keep hb6)
        have HRD6 := Lib.hid (HRD5.out.keep hb6)
        have HO6 := Lib.hid (HO5.out.keep hb6)
        have HF6 := Lib.hid h63
        have HL6 := Lib.hid h61
        clear h61 h63 hb6
        go_wp2_with fail
        refine (same1_any _ (some ⟨b3, o3, none⟩) A5 n3 c3 n3 c5 (jourL (sn : Int) p k F) C HLEN.out HCL.out (by omega) HRD6.out HO6.out.rd).mono ?_
        rintro e w7 ⟨rfl, hb7⟩
        have hB7 := hB6.trans (hb7.mono hB6.size)
        have hz7 := hb7.size
        have HT7 := Lib.hid (HT6.out.keep hb7)
        have HA7 := Lib.hid (HA6.out.keep hb7)
        have HF7 := Lib.hid (HF6.out.keep hb7)
        clear hb7
        obtain ⟨k0, k1, k2, k3⟩ := HT7.out
        by_cases he : jourL (sn : Int) p k F = C
        · have hq : beqL (jourL (sn : Int) p k F) C = true := by rw [beqL_iff]; exact he
          have hF7 := HF7.out
          have hL6 := HL6.out
          rw [if_pos he] at hF7 hL6
          have HF8 := Lib.hid hF7
          have HL8 := Lib.hid hL6
          simp only [hq]
          clear hF7 hL6 hq he
          have z0 : (0 : Int) ≤ (m : Int) := by omega
          have z1 : (m : Int) ≤ (c : Int) := by omega
          go_wp2_with fail
          refine (frames_any _ A6 (some ⟨bA, oA, none⟩) m6 c6 m c F F HL8.out HL.out h62 HF8.out HA7.out).mono ?_
          rintro e w8 ⟨rfl, hb8⟩
          simp only [decide_true]
          have hB8 := hB7.trans (hb8.mono hB7.size)
          clear hb8
          go_wp2
          go_ret
          exact ⟨rfl, hB8⟩
        · have hq : beqL (jourL (sn : Int) p k F) C = false := by rw [beqL_no]; exact he
          have hF7 := HF7.out
          have hL6 := HL6.out
          rw [if_neg he] at hF7 hL6
          have HF8 := Lib.hid hF7
          have HL8 := Lib.hid hL6
          simp only [hq]
          clear hF7 hL6 hq he
          have z0 : (0 : Int) ≤ (i : Int) := by omega
          have z1 : (i : Int) ≤ (c : Int) := by omega
          have hFi : (F.take i).length = i := by rw [List.length_take, HL.out]; omega
          have HFI := Lib.hid hFi
          clear hFi
          go_wp2_with fail
          refine (frames_any _ A6 (some ⟨bA, oA, none⟩) m6 c6 i c (F.take i) (F.take i) HL8.out HFI.out h62 HF8.out (HA7.out.take i)).mono ?_
          rintro e w8 ⟨rfl, hb8⟩
          simp only [decide_true]
          have hB8 := hB7.trans (hb8.mono hB7.size)
          clear hb8
          go_wp2
          go_ret
          exact ⟨rfl, hB8⟩
end Go.Proofs.Ytlehpgokjppccaa
