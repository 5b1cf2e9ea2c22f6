/- Walks: tomeref02.Same, sum.Next, tomeref02.Next, tomeref02.Sum. -/
import Derived.Test.YtlehpgokjppccaaMem
import Derived.Test.YtlehpgokjppccaaSum2
import Derived.Test.YtlehpgokjppccaaPlain
namespace Go.Proofs.Ytlehpgokjppccaa
open Go.RowKit
set_option maxRecDepth 100000

set_option maxHeartbeats 400000 in
theorem next_any (w : World) (A : Option Addr) (n c : Nat) (l : List Int) (h0 : Int) (hn : l.length = n) (hm : n ≤ 9223372036854775807) (hA : Rd w A l) (il : IsB l) :
    Calls Try.prog 67 #[.int .u64 h0, .slice A n c] w fun e w' => e = .returned (.int .u64 (nextI h0 l)) ∧ w = w' := by
  have HN := Lib.hid hn; clear hn
  have HA := Lib.hid hA; clear hA
  have HI := Lib.hid il; clear il
  go_enter Try.func67, Try.ntmps67
  go_wp2_with fail
  go_loop [0, 9] (fun h i => ∃ k : Nat, k ≤ n ∧ i = .int .i64 k ∧ h = .int .u64 (nextI h0 (l.take k))) (fun _ i => n - (intOf i).toNat)
  case atStart => exact ⟨0, Nat.zero_le _, rfl, rfl⟩
  case round =>
    obtain ⟨k, hk, rfl, rfl⟩ := hrel
    obtain ⟨h1, hh⟩ : ∃ x, x = nextI h0 (l.take k) := ⟨_, rfl⟩
    rw [← hh]
    have HH := Lib.hid hh; clear hh
    by_cases hlt : k < n
    · have hlt' : k < l.length := by rw [HN.out]; exact hlt
      obtain ⟨b, off, hA', hbb, hcell⟩ := Rd.at HA.out (by omega)
      subst hA'
      have g1 := hcell k hlt'
      obtain ⟨gb0, gb1⟩ := IsB.bt HI.out k
      clear hcell
      go_wp2_with fail
      go_round
      case rel => exact ⟨k + 1, by omega, by go_num, by rw [take_succ_bt hlt', nextI_snoc, ← HH.out]; rfl⟩
      case measure => simp [intOf]; omega
    · obtain rfl : k = n := by omega
      go_wp2_with fail
      go_ret
      exact ⟨ret_int (by rw [HH.out, List.take_of_length_le (by rw [HN.out]; exact Nat.le_refl _)]), rfl⟩

set_option maxHeartbeats 1000000 in
theorem rsum_any (w : World) (A : Option Addr) (n c : Nat) (l : List Int) (hn : l.length = n) (hm : n ≤ 9223372036854775807) (hA : Rd w A l) (il : IsB l) :
    Calls Try.prog 41 #[.slice A n c] w fun e w' => e = .returned (.int .u32 (4294967295 - rcrI 4294967295 l)) ∧ w = w' := by
  have HN := Lib.hid hn; clear hn
  have HA := Lib.hid hA; clear hA
  have HI := Lib.hid il; clear il
  go_enter Try.func41, Try.ntmps41
  go_wp2_with fail
  go_loop [3, 4] (fun h i => ∃ k : Nat, k ≤ n ∧ i = .int .i64 k ∧ h = .int .u32 (rcrI 4294967295 (l.take k))) (fun _ i => n - (intOf i).toNat)
  case atStart => exact ⟨0, Nat.zero_le _, rfl, rfl⟩
  case round =>
    obtain ⟨k, hk, rfl, rfl⟩ := hrel
    obtain ⟨h1, hh⟩ : ∃ x, x = rcrI 4294967295 (l.take k) := ⟨_, rfl⟩
    obtain ⟨bd0, bd1⟩ : 0 ≤ h1 ∧ h1 ≤ 4294967295 := by rw [hh]; exact rcrI_bd _ _ (by decide)
    rw [← hh]
    have HH := Lib.hid hh; clear hh
    by_cases hlt : k < n
    · have hlt' : k < l.length := by rw [HN.out]; exact hlt
      obtain ⟨b, off, hA', hbb, hcell⟩ := Rd.at HA.out (by omega)
      subst hA'
      have g1 := hcell k hlt'
      obtain ⟨gb0, gb1⟩ := IsB.bt HI.out k
      clear hcell
      go_wp2_with fail
      obtain ⟨s0, hs⟩ : ∃ x, x = bits .xor .u32 h1 (bt l k) := ⟨_, rfl⟩
      have hbd := bits_u32_bd .xor h1 (bt l k)
      rw [← hs] at hbd ⊢
      have HS := Lib.hid hs; clear hs
      go_loop [3, 5] (fun h i => ∃ j : Nat, j ≤ 8 ∧ i = .int .i64 j ∧ h = .int .u32 (rbN j s0)) (fun _ i => 8 - (intOf i).toNat)
      case atStart => exact ⟨0, Nat.zero_le _, rfl, rfl⟩
      case round =>
        obtain ⟨j, hj, rfl, rfl⟩ := hrel
        obtain ⟨s1, hs1⟩ : ∃ x, x = rbN j s0 := ⟨_, rfl⟩
        obtain ⟨be0, be1⟩ : 0 ≤ s1 ∧ s1 ≤ 4294967295 := by rw [hs1]; exact rbN_bd _ _ hbd
        rw [← hs1]
        have HS1 := Lib.hid hs1; clear hs1
        by_cases hj8 : j < 8
        · go_wp2_with fail
          all_goals
            go_round
            case rel => exact ⟨j + 1, by omega, by go_num, by rw [rbN, ← HS1.out, rbI]; first | rw [if_pos (by go_arith)] | rw [if_neg (by simp_all)]⟩
            case measure => simp [intOf]; omega
        · obtain rfl : j = 8 := by omega
          go_wp2_with fail
          go_round
          case rel => exact ⟨k + 1, by omega, by go_num, by rw [take_succ_bt hlt', rcrI_snoc, ← HH.out, HS1.out, HS.out]; rfl⟩
          case measure => simp [intOf]; omega
    · obtain rfl : k = n := by omega
      go_wp2_with fail
      go_ret
      exact ⟨ret_int (by rw [HH.out, List.take_of_length_le (by rw [HN.out]; exact Nat.le_refl _)]), rfl⟩

end Go.Proofs.Ytlehpgokjppccaa
