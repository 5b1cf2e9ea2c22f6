/- The walk of the law JourCuts. -/
import Derived.Test.YtlehpgokjppccaaJrT
import Derived.Test.YtlehpgokjppccaaJrU
namespace Go.Proofs.Ytlehpgokjppccaa
open Go.RowKit
set_option maxRecDepth 100000

set_option maxHeartbeats 8000000 in
theorem jcuts_walk (w : World) (s p k : Int) (A : Option Addr) (m c : Nat) (F : List Fr) (a : Int) (hs : i64ok s) (hp : i64ok p) (hk : 0 ≤ k ∧ k ≤ 18446744073709551615) (hF : F.length = m) (hmc : m ≤ c) (hcm : c ≤ maxLen) (hA : RdFr w A F) (hok : ∀ f ∈ F, FrOk f) (_ha : -9223372036854775808 ≤ a ∧ a ≤ 9223372036854775807) :
    Calls Try.prog 8 #[.agg #[.int .i64 s, .int .i64 p, .int .u64 k, .slice A m c], .int .i64 a] w (JYes w) := by
  have HS := Lib.hid hs; clear hs
  have HP := Lib.hid hp; clear hp
  have HK := Lib.hid hk; clear hk
  have HL := Lib.hid hF; clear hF
  have HOK := Lib.hid hok; clear hok
  have HC := Lib.hid hcm; clear hcm
  obtain ⟨W1, hW1⟩ : ∃ W, W = w.alloc (.cells #[.int .i64 s, .int .i64 p, .int .u64 k, .slice A m c] 59) := ⟨_, rfl⟩
  have hbW : Below w.heap.size w W1 := by rw [hW1]; exact (Below.refl _ _).alloc (Nat.le_refl _) _
  have hsW : W1.heap.size = w.heap.size + 1 := by rw [hW1]; simp
  have hat : MdAt W1 w.heap.size s p k A m c := by
    rw [hW1]
    exact ⟨by simp [go_sem], by simp [go_sem], by simp [go_sem], by simp [go_sem]⟩
  have HT := Lib.hid hat; clear hat
  have HA := Lib.hid (hA.keep hbW); clear hA
  have HW := Lib.hid hW1
  go_enter Try.func8, Try.ntmps8
  go_wp2_with fail
  rw [← hW1]
  clear hW1 HW
  refine (jawake_any _).mono ?_
  rintro e w1 ⟨rfl, hb1⟩
  have hB1 : Below w.heap.size w w1 := hbW.trans (hb1.mono (by omega))
  have hz1 := hb1.size
  have HT1 := Lib.hid (HT.out.keep hb1); clear HT
  have HA1 := Lib.hid (HA.out.keep hb1); clear HA hb1
  obtain ⟨k0, k1, k2, k3⟩ := HT1.out
  go_wp2_with fail
  refine (great_any _ A m c F HL.out (by have := HC.out; omega) HA1.out _ rfl).mono ?_
  rintro e w2 ⟨r, rfl, hr, rfl⟩
  cases r with
  | true =>
    clear hr
    go_wp2_with fail
    refine (jawake_any _).mono ?_
    rintro e w2 ⟨rfl, hb2⟩
    have hB2 := hB1.trans (hb2.mono hB1.size)
    go_wp2
    go_ret
    exact ⟨rfl, hB2⟩
  | false =>
    have hm50 := hr rfl
    clear hr k0 k1 k2 k3
    go_upto_region 3 with fail
    go_step
    refine wp_load_md rfl _ rfl w.heap.size s p k A m c rfl HT1.out ?_
    go_wp2_with fail
    refine (write_any _ s p k A m c F HS.out HP.out HK.out HL.out hm50 HA1.out HOK.out).mono ?_
    rintro e w3 ⟨A3, n3, c3, r, rfl, hb3, hr3⟩
    have hB3 := hB1.trans (hb3.mono hB1.size)
    have hz3 := hb3.size
    cases r with
    | false =>
      clear hr3
      go_wp2
      go_ret
      exact ⟨rfl, hB3⟩
    | true =>
      obtain ⟨ho, hf, hlen, hnc3, hcm3, hrd⟩ := hr3 rfl
      clear hr3
      obtain ⟨sn, rfl, hs0, hs4⟩ : ∃ sn : Nat, s = (sn : Int) ∧ 256 ≤ sn ∧ sn ≤ 4096 := by
        have := ho.1
        unfold isSize at this
        exact ⟨s.toNat, by omega, by omega, by omega⟩
      have hn3 : n3 = 28 + m * (sn + 8) := by rw [← hlen, jourL_length hf, HL.out, Int.toNat_natCast]
      have hmul : m * (sn + 8) ≤ 50 * 4104 := Nat.mul_le_mul hm50 (by omega)
      have HT3 := Lib.hid (HT1.out.keep hb3)
      have HA3 := Lib.hid (HA1.out.keep hb3)
      obtain ⟨b3, o3, rfl, _, hcells⟩ := hrd.at (by rw [hlen, hn3]; omega)
      clear hcells
      have HRD := Lib.hid hrd
      have HLEN := Lib.hid hlen
      have HFF := Lib.hid hf
      have HO := Lib.hid ho
      clear hrd hlen hf ho hb3 HT1 HA1
      obtain ⟨m0, m1⟩ := u64_wrap_bd a
      have hb28 : 28 ≤ n3 := by omega
      have hbn : n3 ≤ 205228 := by omega
      have HN3 := Lib.hid hn3
      clear hmul hn3
      obtain ⟨d, hd⟩ : ∃ d : Nat, d = n3 - 27 := ⟨_, rfl⟩
      obtain ⟨i, hi, hrem⟩ := rem_nat (IntKind.u64.wrap a) d (by omega)
      have HREM := Lib.hid hrem
      have HM0 := Lib.hid m0
      clear hrem m0 m1
      obtain ⟨q, hq⟩ : ∃ q : Nat, q = 28 + i := ⟨_, rfl⟩
      have e6 : ¬ d = 0 := by omega
      have e5 : ¬ (d : Int) = 0 := by omega
      have q0 : (0 : Int) ≤ (q : Int) := by omega
      have q2 : q ≤ c3 := by omega
      have q1 : (q : Int) ≤ (c3 : Int) := by omega
      have q3 : q ≤ n3 := by omega
      have f1 : (n3 : Int) - 27 = (d : Int) := by omega
      have f4 : 28 + (i : Int) = (q : Int) := by omega
      have g1 : -9223372036854775808 ≤ (d : Int) ∧ (d : Int) ≤ 9223372036854775807 := by omega
      have g3 : -9223372036854775808 ≤ (i : Int) ∧ (i : Int) ≤ 9223372036854775807 := by omega
      have g4 : -9223372036854775808 ≤ (q : Int) ∧ (q : Int) ≤ 9223372036854775807 := by omega
      have hil : i / (sn + 8) ≤ m := by
        have h1 : i ≤ n3 - 28 := by omega
        rw [HN3.out, Nat.add_sub_cancel_left] at h1
        calc i / (sn + 8) ≤ m * (sn + 8) / (sn + 8) := Nat.div_le_div_right h1
          _ = m := Nat.mul_div_cancel _ (by omega)
      have e2 : IntKind.u64.wrap (d : Int) = (d : Int) := IntWalk.u64_in _ (by omega)
      have e1 : wrap64 ((n3 : Int) - 27) = (d : Int) := by rw [f1]; exact IntWalk.wrap64_in _ g1
      have e3 : wrap64 (i : Int) = (i : Int) := IntWalk.wrap64_in _ g3
      have e4 : wrap64 (28 + (i : Int)) = (q : Int) := by rw [f4]; exact IntWalk.wrap64_in _ g4
      have hrem : IntKind.u64.wrap a % (d : Int) = (i : Int) := HREM.out
      have e7 : wrap64 (28 + wrap64 ((IntKind.u64.wrap a).tmod ((n3 : Int) - 27))) = (q : Int) := by
        rw [f1, Int.tmod_eq_emod_of_nonneg HM0.out, hrem, e3, e4]
      have hcut := jour_cut HO.out HK.out HFF.out i
      rw [← hq] at hcut
      rw [Int.toNat_natCast] at hcut
      have HCUT := Lib.hid hcut
      clear f1 f4 g1 g3 g4 hrem e1 e2 e3 e4 hcut
      have HQ := Lib.hid hq
      have HE7 := Lib.hid e7
      clear hd hi hq e7
      go_upto_region 6 with fail
      go_upto_region 7 with fail
      rw [HE7.out]
      go_wp2_with fail
      refine (scan_any _ _ q c3 ((jourL (sn : Int) p k F).take q) (by rw [List.length_take, HLEN.out]; omega) q2 hcm3 (rd_take HRD.out q) (isB_take (jourL_isB HFF.out) q) (by omega)).mono ?_
      rintro e w4 ⟨A4, m4, c4, rfl, h41, h42, h43, hb4⟩
      simp only [HCUT.out] at h41 h43 ⊢
      have hB4 := hB3.trans (hb4.mono hB3.size)
      have hz4 := hb4.size
      have HT4 := Lib.hid (HT3.out.keep hb4)
      have HA4 := Lib.hid (HA3.out.keep hb4)
      have HF4 := Lib.hid h43
      have HL4 := Lib.hid h41
      clear h43 h41 hb4 HT3 HA3 HRD
      obtain ⟨k0, k1, k2, k3⟩ := HT4.out
      obtain ⟨v, hv⟩ : ∃ v, v = i / (sn + 8) := ⟨_, rfl⟩
      rw [← hv] at hil
      have hvq : ((q : Int) - 28).tdiv ((sn : Int) + 8) = (v : Int) := by
        have h1 : (q : Int) - 28 = (i : Int) := by have := HQ.out; omega
        rw [h1, hv, show (sn : Int) + 8 = ((sn + 8 : Nat) : Int) by omega]
        exact Int.ofNat_tdiv _ _
      have HVQ := Lib.hid hvq
      have HV := Lib.hid hv
      clear hvq
      rw [← hv] at HL4 HF4
      clear hv
      have s1 : ¬ (sn : Int) + 8 = 0 := by omega
      have s2 : ¬ (sn : Int) + 8 = -1 := by omega
      have y1 : -9223372036854775808 ≤ (q : Int) - 28 ∧ (q : Int) - 28 ≤ 9223372036854775807 := by have := HQ.out; omega
      have y2 : -9223372036854775808 ≤ (sn : Int) + 8 ∧ (sn : Int) + 8 ≤ 9223372036854775807 := by omega
      have y3 : -9223372036854775808 ≤ (v : Int) ∧ (v : Int) ≤ 9223372036854775807 := by omega
      have v0 : (0 : Int) ≤ (v : Int) := by omega
      have v1 : (v : Int) ≤ (c : Int) := by omega
      have v2 : v ≤ c := by omega
      have hFl : (F.take v).length = v := by rw [List.length_take, HL.out]; omega
      have HFL := Lib.hid hFl
      clear hFl
      have HFQ := Lib.hid (show ∀ n, Calls Try.prog 24 #[.slice A4 m4 c4, .slice A v c] (w4.drewN n) fun e w' => e = .returned (.bool true) ∧ ∃ x, w' = (w4.drewN n).drewN x from fun n => by
        have := frames_q (w4.drewN n) A4 A m4 c4 v c (F.take v) (F.take v) HL4.out HFL.out h42 (HF4.out.keep (below_drewN (Below.refl _ _) _)) ((HA4.out.take v).keep (below_drewN (Below.refl _ _) _))
        rwa [decide_eq_true rfl] at this)
      have hw1 : IntKind.i64.wrap ((q : Int) - 28) = (q : Int) - 28 := IntWalk.i64_in _ y1
      have hw2 : IntKind.i64.wrap ((sn : Int) + 8) = (sn : Int) + 8 := IntWalk.i64_in _ y2
      have hw3 : IntKind.i64.wrap (v : Int) = (v : Int) := IntWalk.i64_in _ y3
      have hw4 : wrap64 (v : Int) = (v : Int) := IntWalk.wrap64_in _ y3
      clear y1 y2 y3
      have hvq := HVQ.out
      go_upto_region 8 with fail
      go_quiet ((go_at_call 24; exact Calls.quiet_of (HFQ.out _)))
      go_wp2
      go_ret
      exact ⟨rfl, below_drewN hB4 _⟩
end Go.Proofs.Ytlehpgokjppccaa
