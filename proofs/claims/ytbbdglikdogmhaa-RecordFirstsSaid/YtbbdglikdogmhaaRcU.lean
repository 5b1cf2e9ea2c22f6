/- The walk of RecordBegins. -/
import Derived.Test.YtbbdglikdogmhaaRcT
namespace Go.Proofs.Ytbbdglikdogmhaa
open Go.RowKit
set_option maxRecDepth 100000
set_option linter.unusedVariables false
set_option linter.unusedSimpArgs false
set_option linter.unnecessarySimpa false

theorem rem_nat (a : Int) (K : Nat) (h : 0 < K) : ∃ q : Nat, q < K ∧ a % (K : Int) = (q : Int) := by
  have h0 : 0 ≤ a % (K : Int) := Int.emod_nonneg _ (by omega)
  have h1 : a % (K : Int) < (K : Int) := Int.emod_lt_of_pos _ (by omega)
  exact ⟨(a % (K : Int)).toNat, by omega, by omega⟩
theorem VOk.ok_take {F : List Vl} (h : ∀ v ∈ F, VOk v) (k : Nat) : ∀ v ∈ F.take k, v.ok := fun v hv => (h v (List.mem_of_mem_take hv)).1

set_option maxHeartbeats 16000000 in
theorem recordBegins_walk (w : World) (A : Option Addr) (m c : Nat) (F : List Vl) (a : Int) (hF : F.length = m) (hmc : m ≤ c) (hcm : c ≤ maxLen) (hA : RdVl w A F) (hok : ∀ v ∈ F, VOk v) (ha : -9223372036854775808 ≤ a ∧ a ≤ 9223372036854775807) :
    Calls Try.prog 7 #[.slice A m c, .int .i64 a] w (RYes w) := by
  have HL := Lib.hid hF; clear hF
  have HA := Lib.hid hA; clear hA
  have HOK := Lib.hid hok; clear hok
  have HC := Lib.hid hcm
  have hmm : m ≤ maxLen := Nat.le_trans hmc hcm
  have HMM := Lib.hid hmm
  go_enter Try.func7, Try.ntmps7
  go_wp2_with fail
  refine (rawake_any _).mono ?_
  rintro e w1 ⟨rfl, hB1⟩
  have hz1 := hB1.size
  go_wp2_with fail
  refine (great_any _ A m c F HL.out hmc HC.out (HA.out.keep hB1) HOK.out).mono ?_
  rintro e w2 ⟨b, rfl, rfl, hgr⟩
  by_cases hb : b = true
  · subst hb
    clear hgr
    go_wp2_with fail
    refine (rawake_any _).mono ?_
    rintro e w2 ⟨rfl, hb2⟩
    have hB2 := hB1.trans (hb2.mono hB1.size)
    go_wp2
    go_ret
    exact ⟨rfl, hB2⟩
  have hb' : b = false := by simpa using hb
  have hm100 := hgr hb'
  clear hgr
  subst hb'
  clear hb
  obtain ⟨⟨L, z⟩, hE⟩ : ∃ E, encV F = E := ⟨_, rfl⟩
  have HE := Lib.hid hE
  clear hE
  go_wp2_with fail
  refine (renc_any _ A m c F HL.out hmc HC.out (HA.out.keep hB1) HOK.out _ rfl).mono ?_
  rintro e w3 ⟨B3, n3, c3, rfl, hown3, hb3⟩
  rw [HE.out] at hown3
  rw [HE.out]
  have hB3 : Below w.heap.size w w3 := hB1.trans (hb3.mono hB1.size)
  have HO3 := Lib.hid hown3
  clear hb3 hown3
  have hz3 := hB3.size
  by_cases h0 : z = 0
  rotate_left
  · have h0b : (z != 0) = true := by simp [h0]
    go_wp2
    go_ret
    exact ⟨rfl, hB3⟩
  subst h0
  have HLB := Lib.hid (show IsB L by have := enc_isB (OwnV.ok_of HOK.out); rwa [HE.out] at this)
  obtain ⟨m0, m1⟩ := u64_wrap_bd a
  obtain ⟨x, hx, hrem⟩ := rem_nat (IntKind.u64.wrap a) (m + 1) (by omega)
  have hxm : x ≤ m := by omega
  have e7 : wrap64 ((IntKind.u64.wrap a).tmod ((m : Int) + 1)) = (x : Int) := by
    rw [Int.tmod_eq_emod_of_nonneg m0, show (m : Int) + 1 = ((m + 1 : Nat) : Int) by omega, hrem]
    exact IntWalk.wrap64_in _ (by omega)
  have HE7 := Lib.hid e7
  have HM0 := Lib.hid m0
  clear hrem e7 m0 m1 hx
  have hfx : firstV L (x : Int) = (F.take x, 0) := by
    have := first_enc (F := F) (by rw [HE.out]) (OwnV.ok_of HOK.out) x (by rw [HL.out]; exact hxm)
    rwa [HE.out] at this
  have HFX := Lib.hid hfx
  have hfn : firstV L ((m : Int) + 1) = ([], 4) := by
    have := first_none (F := F) (by rw [HE.out]) ((m : Int) + 1) (by rw [HL.out]; omega)
    rwa [HE.out] at this
  have HFN := Lib.hid hfn
  clear hfx hfn
  go_wp2_with fail
  simp only [HE7.out]
  clear HE7 HM0
  have hx64 : i64K (x : Int) := ⟨by omega, by omega⟩
  have HX64 := Lib.hid hx64
  clear hx64
  refine (first_any _ B3 n3 c3 L HO3.out.len HO3.out.cap.1 HO3.out.cap.2 HO3.out.rd HLB.out (x : Int) HX64.out _ rfl).mono ?_
  rintro e w4 ⟨D, k, cD, rfl, hown4, hb4⟩
  rw [HFX.out] at hown4
  simp only [HFX.out]
  have hB4 : Below w.heap.size w w4 := hB3.trans (hb4.mono hB3.size)
  have HO4 := Lib.hid hown4
  have HO3' := Lib.hid (HO3.out.keep hb4)
  clear hb4 hown4 HO3
  have hz4 := hB4.size
  go_wp2_with fail
  refine (first_any _ B3 n3 c3 L HO3'.out.len HO3'.out.cap.1 HO3'.out.cap.2 HO3'.out.rd HLB.out ((m : Int) + 1) ⟨by omega, by omega⟩ _ rfl).mono ?_
  rintro e w5 ⟨D', k', cD', rfl, hown5, hb5⟩
  rw [HFN.out] at hown5
  simp only [HFN.out]
  have hk0 : k' = 0 := hown5.1.symm
  subst hk0
  have hB5 : Below w.heap.size w w5 := hB4.trans (hb5.mono hB4.size)
  have HO5 := Lib.hid (HO4.out.keep hb5)
  clear hb5 hown5 HO4 HO3'
  have hz5 := hB5.size
  have hxm' : (x : Int) ≤ (m : Int) := by omega
  have hxc : x ≤ c := by omega
  go_wp2_with fail
  refine (vsame_any _ D A k cD x c (F.take x) (F.take x) HO5.out.1 (by rw [List.length_take, HL.out]; omega) (Nat.le_trans HO5.out.cap.1 HO5.out.cap.2) HO5.out.rd ((HA.out.keep hB5).take x) (VOk.ok_take HOK.out x) (VOk.ok_take HOK.out x)).mono ?_
  rintro e w7 ⟨rfl, hb7⟩
  simp only [decide_true]
  have hB7 : Below w.heap.size w w7 := hB5.trans (hb7.mono hB5.size)
  go_wp2
  go_ret
  exact ⟨rfl, hB7⟩
end Go.Proofs.Ytbbdglikdogmhaa
