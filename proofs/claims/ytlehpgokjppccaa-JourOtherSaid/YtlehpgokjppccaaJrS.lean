/- Walks: jour.Start (a full row), tomelaw11.great. -/
import Derived.Test.YtlehpgokjppccaaJrP
import Derived.Test.YtlehpgokjppccaaJrG
import Derived.Test.YtlehpgokjppccaaFrameM
namespace Go.Proofs.Ytlehpgokjppccaa
open Go.RowKit
set_option maxRecDepth 100000

set_option maxHeartbeats 4000000 in
theorem jStart_full (w : World) (s p k : Int) (hs : i64ok s) (hp : i64ok p) (hk : 0 ≤ k ∧ k ≤ 18446744073709551615) (hg : okStart s p) (R : Ending → World → Prop)
    (hR : R = fun e w' => ∃ A, e = .returned (.tuple #[.slice A 28 28, .int .i64 0]) ∧ Rd w' A (startH s p k) ∧ Below w.heap.size w w') :
    Calls Try.prog 25 #[.int .i64 s, .int .i64 p, .int .u64 k] w R := by
  have HR := Lib.hid hR; clear hR
  have HK := Lib.hid hk; clear hk
  have hs' := hs
  unfold i64ok at hs' hp
  have HG := Lib.hid hg
  obtain ⟨g1, g2, g3, g4⟩ := hg
  have hsb : 256 ≤ s ∧ s ≤ 4096 := by unfold isSize at g1; omega
  have HD := Lib.hid (decide_eq_true g1)
  have hm0 : 0 ≤ s * p := Int.mul_nonneg (by omega) g2
  have hmul : IntKind.i64.wrap (s * p) = s * p := IntWalk.i64_in _ (by omega)
  have hws : IntKind.u64.wrap s = s := IntWalk.u64_in _ (by omega)
  have hwp : IntKind.u64.wrap p = p := IntWalk.u64_in _ (by omega)
  clear g1 hm0
  go_enter Try.func25, Try.ntmps25
  go_wp2_with fail
  refine (jright_any _ s hs).mono ?_
  rintro e w1 ⟨rfl, rfl⟩
  simp only [HD.out]
  go_wp2_with fail
  refine (jstart_any _ s p k (by omega) (by omega) HK.out _ rfl).mono ?_
  rintro e w2 hf
  obtain ⟨g, n, rfl, h1, h2, h3, h4⟩ := fresh_rd hf
  rw [startH_length] at h1
  subst h1
  have HF := Lib.hid h3; clear h3 hf
  go_wp2
  rw [HR.out]
  exact ⟨_, rfl, HF.out, h4⟩

set_option maxHeartbeats 4000000 in
theorem great_any (w : World) (A : Option Addr) (m c : Nat) (F : List Fr) (hF : F.length = m) (hm : m ≤ maxLen) (hA : RdFr w A F) (R : Ending → World → Prop) (hR : R = fun e w' => ∃ r, e = .returned (.bool r) ∧ (r = false → m ≤ 50) ∧ w = w') :
    Calls Try.prog 29 #[.slice A m c] w R := by
  have HR := Lib.hid hR; clear hR
  have HL := Lib.hid hF; clear hF
  have HA := Lib.hid hA; clear hA
  have hmm : m ≤ 9223372036854775807 := by unfold maxLen at hm; omega
  clear hm
  go_enter Try.func29, Try.ntmps29
  go_wp2_with fail
  go_loopw [3, 4] (fun n i wr => ∃ (j x : Nat), i = .int .i64 j ∧ n = .int .i64 x ∧ j ≤ m ∧ j ≤ 50 ∧ x ≤ 5000 * j ∧ w = wr) (fun _ i _ => m - (intOf i).toNat)
  case atStart => exact ⟨0, 0, rfl, rfl, Nat.zero_le _, by omega, by omega, rfl⟩
  case round =>
    obtain ⟨j, x, rfl, rfl, hj, h50, hx, rfl⟩ := hrel
    by_cases hlt : j < m
    · by_cases h5 : j < 50
      · obtain ⟨b1, o1, hA', hc1⟩ := RdFr.at HA.out (by rw [HL.out]; omega)
        obtain ⟨A1, c1, p0, p1, p2, p3, p4, p5⟩ := hc1 j (by rw [HL.out]; omega)
        subst hA'
        clear hc1 p5 p0 p1
        generalize (fr_ F j).b.length = z at p2 p3
        have i0 : (0 : Int) ≤ (j : Int) := by omega
        have i1 : (j : Int) < (m : Int) := by omega
        by_cases hz : 5000 < z
        · go_wp2
          rw [HR.out]
          exact ⟨true, rfl, by simp, rfl⟩
        · have hw : IntKind.i64.wrap ((x : Int) + (z : Int)) = (x : Int) + (z : Int) := IntWalk.i64_in _ (by omega)
          go_wp2_with fail
          go_roundw
          case rel => exact ⟨j + 1, x + z, by go_num, by go_num, by omega, by omega, by omega, by first | rfl | trivial⟩
          case measure => simp [intOf]; omega
      · obtain rfl : j = 50 := by omega
        by_cases hx3 : 30000 < x
        · go_wp2
          rw [HR.out]
          exact ⟨true, rfl, by simp, rfl⟩
        · go_wp2
          rw [HR.out]
          exact ⟨_, rfl, by simp <;> omega, rfl⟩
    · obtain rfl : j = m := by omega
      by_cases hx3 : 30000 < x
      · go_wp2
        rw [HR.out]
        exact ⟨true, rfl, by simp, rfl⟩
      · go_wp2
        rw [HR.out]
        exact ⟨_, rfl, by simp <;> omega, rfl⟩
end Go.Proofs.Ytlehpgokjppccaa
