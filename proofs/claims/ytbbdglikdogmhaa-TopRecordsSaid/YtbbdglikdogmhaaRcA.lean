/- Walks: record.width, tomeref05.takes. Printed by genRa.py. -/
import Derived.Test.YtbbdglikdogmhaaRcP
namespace Go.Proofs.Ytbbdglikdogmhaa
open Go.RowKit
set_option maxRecDepth 100000
set_option linter.unusedVariables false
set_option linter.unusedSimpArgs false

theorem fitsI_1 (n : Int) : fitsI n 1 ↔ -128 ≤ n ∧ n < 128 := Iff.rfl
theorem fitsI_2 (n : Int) : fitsI n 2 ↔ -32768 ≤ n ∧ n < 32768 := Iff.rfl
theorem fitsI_3 (n : Int) : fitsI n 3 ↔ -8388608 ≤ n ∧ n < 8388608 := Iff.rfl
theorem fitsI_4 (n : Int) : fitsI n 4 ↔ -2147483648 ≤ n ∧ n < 2147483648 := Iff.rfl
theorem fitsI_5 (n : Int) : fitsI n 5 ↔ -549755813888 ≤ n ∧ n < 549755813888 := Iff.rfl
theorem fitsI_6 (n : Int) : fitsI n 6 ↔ -140737488355328 ≤ n ∧ n < 140737488355328 := Iff.rfl
theorem fitsI_7 (n : Int) : fitsI n 7 ↔ -36028797018963968 ≤ n ∧ n < 36028797018963968 := Iff.rfl
theorem widI_1 {n : Int}  (h1 : fitsI n 1) : widI n = 1 := by unfold widI; rw [if_pos h1]
theorem widI_2 {n : Int} (h1 : ¬ fitsI n 1) (h2 : fitsI n 2) : widI n = 2 := by unfold widI; rw [if_neg h1, if_pos h2]
theorem widI_3 {n : Int} (h1 : ¬ fitsI n 1) (h2 : ¬ fitsI n 2) (h3 : fitsI n 3) : widI n = 3 := by unfold widI; rw [if_neg h1, if_neg h2, if_pos h3]
theorem widI_4 {n : Int} (h1 : ¬ fitsI n 1) (h2 : ¬ fitsI n 2) (h3 : ¬ fitsI n 3) (h4 : fitsI n 4) : widI n = 4 := by unfold widI; rw [if_neg h1, if_neg h2, if_neg h3, if_pos h4]
theorem widI_5 {n : Int} (h1 : ¬ fitsI n 1) (h2 : ¬ fitsI n 2) (h3 : ¬ fitsI n 3) (h4 : ¬ fitsI n 4) (h5 : fitsI n 5) : widI n = 5 := by unfold widI; rw [if_neg h1, if_neg h2, if_neg h3, if_neg h4, if_pos h5]
theorem widI_6 {n : Int} (h1 : ¬ fitsI n 1) (h2 : ¬ fitsI n 2) (h3 : ¬ fitsI n 3) (h4 : ¬ fitsI n 4) (h5 : ¬ fitsI n 5) (h6 : fitsI n 6) : widI n = 6 := by unfold widI; rw [if_neg h1, if_neg h2, if_neg h3, if_neg h4, if_neg h5, if_pos h6]
theorem widI_7 {n : Int} (h1 : ¬ fitsI n 1) (h2 : ¬ fitsI n 2) (h3 : ¬ fitsI n 3) (h4 : ¬ fitsI n 4) (h5 : ¬ fitsI n 5) (h6 : ¬ fitsI n 6) (h7 : fitsI n 7) : widI n = 7 := by unfold widI; rw [if_neg h1, if_neg h2, if_neg h3, if_neg h4, if_neg h5, if_neg h6, if_pos h7]
theorem widI_8 {n : Int} (h1 : ¬ fitsI n 1) (h2 : ¬ fitsI n 2) (h3 : ¬ fitsI n 3) (h4 : ¬ fitsI n 4) (h5 : ¬ fitsI n 5) (h6 : ¬ fitsI n 6) (h7 : ¬ fitsI n 7)  : widI n = 8 := by unfold widI; rw [if_neg h1, if_neg h2, if_neg h3, if_neg h4, if_neg h5, if_neg h6, if_neg h7]

theorem fits_next {n : Int} {j : Nat} (HF : Hid (∀ i, 1 ≤ i → i < j → ¬ fitsI n i)) (hq : ¬ fitsI n j) : Hid (∀ i, 1 ≤ i → i < j + 1 → ¬ fitsI n i) := by
  refine Lib.hid ?_
  intro i h1 h2
  by_cases hi : i = j
  · subst hi; exact hq
  · exact HF.out i h1 (by omega)
theorem fits_none (n : Int) : Hid (∀ i, 1 ≤ i → i < 1 → ¬ fitsI n i) := by
  refine Lib.hid ?_
  intro i h1 h2
  omega

set_option maxHeartbeats 8000000 in
theorem width_any (w : World) (n : Int) (hn : i64K n) :
    Calls Try.prog 49 #[.int .i64 n] w fun e w' => e = .returned (.int .i64 (widI n : Int)) ∧ w = w' := by
  obtain ⟨n0, n1⟩ := hn
  go_enter Try.func49, Try.ntmps49
  go_wp2_with fail
  go_loop [3] (fun k => ∃ j : Nat, 1 ≤ j ∧ j ≤ 8 ∧ k = .int .i64 j ∧ Hid (∀ i, 1 ≤ i → i < j → ¬ fitsI n i)) (fun k => 8 - (intOf k).toNat)
  case atStart => exact ⟨1, by omega, by omega, rfl, fits_none n⟩
  case round =>
    obtain ⟨j, j1, j8, rfl, HF⟩ := hrel
    rcases (by omega : j = 1 ∨ j = 2 ∨ j = 3 ∨ j = 4 ∨ j = 5 ∨ j = 6 ∨ j = 7 ∨ j = 8) with rfl | rfl | rfl | rfl | rfl | rfl | rfl | rfl
    · clear j1 j8
      by_cases hf : fitsI n 1
      · have HQ := Lib.hid hf
        rw [fitsI_1] at hf
        obtain ⟨f0, f1⟩ := hf
        have g0 : ¬ n < -128 := by omega
        have g1 : ¬ 128 ≤ n := by omega
        go_wp2_with fail
        go_ret
        exact ⟨ret_int (by rw [widI_1  HQ.out]; rfl), rfl⟩
      · have HQ := Lib.hid hf
        rw [fitsI_1] at hf
        by_cases g0 : n < -128
        · go_wp2_with fail
          go_round
          case rel => exact ⟨2, by omega, by omega, by go_num, fits_next HF HQ.out⟩
          case measure => simp [intOf]
        · have g1 : 128 ≤ n := by omega
          clear hf
          go_wp2_with fail
          go_round
          case rel => exact ⟨2, by omega, by omega, by go_num, fits_next HF HQ.out⟩
          case measure => simp [intOf]
    · clear j1 j8
      by_cases hf : fitsI n 2
      · have HQ := Lib.hid hf
        rw [fitsI_2] at hf
        obtain ⟨f0, f1⟩ := hf
        have g0 : ¬ n < -32768 := by omega
        have g1 : ¬ 32768 ≤ n := by omega
        go_wp2_with fail
        go_ret
        exact ⟨ret_int (by rw [widI_2 (HF.out 1 (by omega) (by omega)) HQ.out]; rfl), rfl⟩
      · have HQ := Lib.hid hf
        rw [fitsI_2] at hf
        by_cases g0 : n < -32768
        · go_wp2_with fail
          go_round
          case rel => exact ⟨3, by omega, by omega, by go_num, fits_next HF HQ.out⟩
          case measure => simp [intOf]
        · have g1 : 32768 ≤ n := by omega
          clear hf
          go_wp2_with fail
          go_round
          case rel => exact ⟨3, by omega, by omega, by go_num, fits_next HF HQ.out⟩
          case measure => simp [intOf]
    · clear j1 j8
      by_cases hf : fitsI n 3
      · have HQ := Lib.hid hf
        rw [fitsI_3] at hf
        obtain ⟨f0, f1⟩ := hf
        have g0 : ¬ n < -8388608 := by omega
        have g1 : ¬ 8388608 ≤ n := by omega
        go_wp2_with fail
        go_ret
        exact ⟨ret_int (by rw [widI_3 (HF.out 1 (by omega) (by omega)) (HF.out 2 (by omega) (by omega)) HQ.out]; rfl), rfl⟩
      · have HQ := Lib.hid hf
        rw [fitsI_3] at hf
        by_cases g0 : n < -8388608
        · go_wp2_with fail
          go_round
          case rel => exact ⟨4, by omega, by omega, by go_num, fits_next HF HQ.out⟩
          case measure => simp [intOf]
        · have g1 : 8388608 ≤ n := by omega
          clear hf
          go_wp2_with fail
          go_round
          case rel => exact ⟨4, by omega, by omega, by go_num, fits_next HF HQ.out⟩
          case measure => simp [intOf]
    · clear j1 j8
      by_cases hf : fitsI n 4
      · have HQ := Lib.hid hf
        rw [fitsI_4] at hf
        obtain ⟨f0, f1⟩ := hf
        have g0 : ¬ n < -2147483648 := by omega
        have g1 : ¬ 2147483648 ≤ n := by omega
        go_wp2_with fail
        go_ret
        exact ⟨ret_int (by rw [widI_4 (HF.out 1 (by omega) (by omega)) (HF.out 2 (by omega) (by omega)) (HF.out 3 (by omega) (by omega)) HQ.out]; rfl), rfl⟩
      · have HQ := Lib.hid hf
        rw [fitsI_4] at hf
        by_cases g0 : n < -2147483648
        · go_wp2_with fail
          go_round
          case rel => exact ⟨5, by omega, by omega, by go_num, fits_next HF HQ.out⟩
          case measure => simp [intOf]
        · have g1 : 2147483648 ≤ n := by omega
          clear hf
          go_wp2_with fail
          go_round
          case rel => exact ⟨5, by omega, by omega, by go_num, fits_next HF HQ.out⟩
          case measure => simp [intOf]
    · clear j1 j8
      by_cases hf : fitsI n 5
      · have HQ := Lib.hid hf
        rw [fitsI_5] at hf
        obtain ⟨f0, f1⟩ := hf
        have g0 : ¬ n < -549755813888 := by omega
        have g1 : ¬ 549755813888 ≤ n := by omega
        go_wp2_with fail
        go_ret
        exact ⟨ret_int (by rw [widI_5 (HF.out 1 (by omega) (by omega)) (HF.out 2 (by omega) (by omega)) (HF.out 3 (by omega) (by omega)) (HF.out 4 (by omega) (by omega)) HQ.out]; rfl), rfl⟩
      · have HQ := Lib.hid hf
        rw [fitsI_5] at hf
        by_cases g0 : n < -549755813888
        · go_wp2_with fail
          go_round
          case rel => exact ⟨6, by omega, by omega, by go_num, fits_next HF HQ.out⟩
          case measure => simp [intOf]
        · have g1 : 549755813888 ≤ n := by omega
          clear hf
          go_wp2_with fail
          go_round
          case rel => exact ⟨6, by omega, by omega, by go_num, fits_next HF HQ.out⟩
          case measure => simp [intOf]
    · clear j1 j8
      by_cases hf : fitsI n 6
      · have HQ := Lib.hid hf
        rw [fitsI_6] at hf
        obtain ⟨f0, f1⟩ := hf
        have g0 : ¬ n < -140737488355328 := by omega
        have g1 : ¬ 140737488355328 ≤ n := by omega
        go_wp2_with fail
        go_ret
        exact ⟨ret_int (by rw [widI_6 (HF.out 1 (by omega) (by omega)) (HF.out 2 (by omega) (by omega)) (HF.out 3 (by omega) (by omega)) (HF.out 4 (by omega) (by omega)) (HF.out 5 (by omega) (by omega)) HQ.out]; rfl), rfl⟩
      · have HQ := Lib.hid hf
        rw [fitsI_6] at hf
        by_cases g0 : n < -140737488355328
        · go_wp2_with fail
          go_round
          case rel => exact ⟨7, by omega, by omega, by go_num, fits_next HF HQ.out⟩
          case measure => simp [intOf]
        · have g1 : 140737488355328 ≤ n := by omega
          clear hf
          go_wp2_with fail
          go_round
          case rel => exact ⟨7, by omega, by omega, by go_num, fits_next HF HQ.out⟩
          case measure => simp [intOf]
    · clear j1 j8
      by_cases hf : fitsI n 7
      · have HQ := Lib.hid hf
        rw [fitsI_7] at hf
        obtain ⟨f0, f1⟩ := hf
        have g0 : ¬ n < -36028797018963968 := by omega
        have g1 : ¬ 36028797018963968 ≤ n := by omega
        go_wp2_with fail
        go_ret
        exact ⟨ret_int (by rw [widI_7 (HF.out 1 (by omega) (by omega)) (HF.out 2 (by omega) (by omega)) (HF.out 3 (by omega) (by omega)) (HF.out 4 (by omega) (by omega)) (HF.out 5 (by omega) (by omega)) (HF.out 6 (by omega) (by omega)) HQ.out]; rfl), rfl⟩
      · have HQ := Lib.hid hf
        rw [fitsI_7] at hf
        by_cases g0 : n < -36028797018963968
        · go_wp2_with fail
          go_round
          case rel => exact ⟨8, by omega, by omega, by go_num, fits_next HF HQ.out⟩
          case measure => simp [intOf]
        · have g1 : 36028797018963968 ≤ n := by omega
          clear hf
          go_wp2_with fail
          go_round
          case rel => exact ⟨8, by omega, by omega, by go_num, fits_next HF HQ.out⟩
          case measure => simp [intOf]
    · go_wp2_with fail
      go_ret
      exact ⟨ret_int (by rw [widI_8 (HF.out 1 (by omega) (by omega)) (HF.out 2 (by omega) (by omega)) (HF.out 3 (by omega) (by omega)) (HF.out 4 (by omega) (by omega)) (HF.out 5 (by omega) (by omega)) (HF.out 6 (by omega) (by omega)) (HF.out 7 (by omega) (by omega))]; rfl), rfl⟩

theorem p2_bd (i : Nat) (h : i ≤ 55) : 1 ≤ (2 : Int) ^ i ∧ (2 : Int) ^ i ≤ 36028797018963968 := by
  have h1 : (2 : Nat) ^ i ≤ 2 ^ 55 := Nat.pow_le_pow_right (by decide) h
  have h2 : 1 ≤ (2 : Nat) ^ i := Nat.one_le_two_pow
  have e : ((2 ^ i : Nat) : Int) = (2 : Int) ^ i := by simp
  omega

set_option maxHeartbeats 8000000 in
theorem takes_any (w : World) (n : Int) (hn : i64K n) :
    Calls Try.prog 51 #[.int .i64 n] w fun e w' => e = .returned (.int .i64 (widI n : Int)) ∧ w = w' := by
  obtain ⟨n0, n1⟩ := hn
  go_enter Try.func51, Try.ntmps51
  go_wp2_with fail
  go_loop [3] (fun k => ∃ j : Nat, 1 ≤ j ∧ j ≤ 8 ∧ k = .int .i64 j ∧ Hid (∀ i, 1 ≤ i → i < j → ¬ fitsI n i)) (fun k => 8 - (intOf k).toNat)
  case atStart => exact ⟨1, by omega, by omega, rfl, fits_none n⟩
  case round =>
    obtain ⟨j, j1, j8, rfl, HF⟩ := hrel
    rcases (by omega : j = 1 ∨ j = 2 ∨ j = 3 ∨ j = 4 ∨ j = 5 ∨ j = 6 ∨ j = 7 ∨ j = 8) with rfl | rfl | rfl | rfl | rfl | rfl | rfl | rfl
    · clear j1 j8
      go_wp2_with fail
      go_loop [5, 4] (fun i t => ∃ m : Nat, m ≤ 7 ∧ i = .int .i64 m ∧ t = .int .i64 ((2 : Int) ^ m)) (fun i _ => 7 - (intOf i).toNat)
      case atStart => exact ⟨0, by omega, rfl, rfl⟩
      case round =>
        obtain ⟨m, hm, rfl, rfl⟩ := hrel
        by_cases hlt : m < 7
        · obtain ⟨b0, b1⟩ := p2_bd m (by omega)
          have hpw : (2 : Int) ^ (m + 1) = (2 : Int) ^ m * 2 := Int.pow_succ ..
          obtain ⟨t, ht⟩ : ∃ t, t = (2 : Int) ^ m := ⟨_, rfl⟩
          rw [← ht] at b0 b1 hpw ⊢
          have HPW := Lib.hid hpw
          clear hpw ht
          go_wp2_with fail
          go_round
          case rel => exact ⟨m + 1, by omega, by go_num, by rw [HPW.out]⟩
          case measure => simp [intOf]; omega
        · obtain rfl : m = 7 := by omega
          by_cases hf : fitsI n 1
          · have HQ := Lib.hid hf
            rw [fitsI_1] at hf
            obtain ⟨f0, f1⟩ := hf
            rw [show (2 : Int) ^ 7 = 128 from by decide]
            go_wp2_with fail
            go_ret
            exact ⟨ret_int (by rw [widI_1  HQ.out]; rfl), rfl⟩
          · have HQ := Lib.hid hf
            rw [fitsI_1] at hf
            rw [show (2 : Int) ^ 7 = 128 from by decide]
            by_cases g0 : -128 ≤ n
            · have g1 : ¬ n < 128 := by omega
              clear hf
              go_wp2_with fail
              go_round
              case rel => exact ⟨2, by omega, by omega, by go_num, fits_next HF HQ.out⟩
              case measure => simp [intOf]
            · clear hf
              go_wp2_with fail
              go_round
              case rel => exact ⟨2, by omega, by omega, by go_num, fits_next HF HQ.out⟩
              case measure => simp [intOf]
    · clear j1 j8
      go_wp2_with fail
      go_loop [5, 4] (fun i t => ∃ m : Nat, m ≤ 15 ∧ i = .int .i64 m ∧ t = .int .i64 ((2 : Int) ^ m)) (fun i _ => 15 - (intOf i).toNat)
      case atStart => exact ⟨0, by omega, rfl, rfl⟩
      case round =>
        obtain ⟨m, hm, rfl, rfl⟩ := hrel
        by_cases hlt : m < 15
        · obtain ⟨b0, b1⟩ := p2_bd m (by omega)
          have hpw : (2 : Int) ^ (m + 1) = (2 : Int) ^ m * 2 := Int.pow_succ ..
          obtain ⟨t, ht⟩ : ∃ t, t = (2 : Int) ^ m := ⟨_, rfl⟩
          rw [← ht] at b0 b1 hpw ⊢
          have HPW := Lib.hid hpw
          clear hpw ht
          go_wp2_with fail
          go_round
          case rel => exact ⟨m + 1, by omega, by go_num, by rw [HPW.out]⟩
          case measure => simp [intOf]; omega
        · obtain rfl : m = 15 := by omega
          by_cases hf : fitsI n 2
          · have HQ := Lib.hid hf
            rw [fitsI_2] at hf
            obtain ⟨f0, f1⟩ := hf
            rw [show (2 : Int) ^ 15 = 32768 from by decide]
            go_wp2_with fail
            go_ret
            exact ⟨ret_int (by rw [widI_2 (HF.out 1 (by omega) (by omega)) HQ.out]; rfl), rfl⟩
          · have HQ := Lib.hid hf
            rw [fitsI_2] at hf
            rw [show (2 : Int) ^ 15 = 32768 from by decide]
            by_cases g0 : -32768 ≤ n
            · have g1 : ¬ n < 32768 := by omega
              clear hf
              go_wp2_with fail
              go_round
              case rel => exact ⟨3, by omega, by omega, by go_num, fits_next HF HQ.out⟩
              case measure => simp [intOf]
            · clear hf
              go_wp2_with fail
              go_round
              case rel => exact ⟨3, by omega, by omega, by go_num, fits_next HF HQ.out⟩
              case measure => simp [intOf]
    · clear j1 j8
      go_wp2_with fail
      go_loop [5, 4] (fun i t => ∃ m : Nat, m ≤ 23 ∧ i = .int .i64 m ∧ t = .int .i64 ((2 : Int) ^ m)) (fun i _ => 23 - (intOf i).toNat)
      case atStart => exact ⟨0, by omega, rfl, rfl⟩
      case round =>
        obtain ⟨m, hm, rfl, rfl⟩ := hrel
        by_cases hlt : m < 23
        · obtain ⟨b0, b1⟩ := p2_bd m (by omega)
          have hpw : (2 : Int) ^ (m + 1) = (2 : Int) ^ m * 2 := Int.pow_succ ..
          obtain ⟨t, ht⟩ : ∃ t, t = (2 : Int) ^ m := ⟨_, rfl⟩
          rw [← ht] at b0 b1 hpw ⊢
          have HPW := Lib.hid hpw
          clear hpw ht
          go_wp2_with fail
          go_round
          case rel => exact ⟨m + 1, by omega, by go_num, by rw [HPW.out]⟩
          case measure => simp [intOf]; omega
        · obtain rfl : m = 23 := by omega
          by_cases hf : fitsI n 3
          · have HQ := Lib.hid hf
            rw [fitsI_3] at hf
            obtain ⟨f0, f1⟩ := hf
            rw [show (2 : Int) ^ 23 = 8388608 from by decide]
            go_wp2_with fail
            go_ret
            exact ⟨ret_int (by rw [widI_3 (HF.out 1 (by omega) (by omega)) (HF.out 2 (by omega) (by omega)) HQ.out]; rfl), rfl⟩
          · have HQ := Lib.hid hf
            rw [fitsI_3] at hf
            rw [show (2 : Int) ^ 23 = 8388608 from by decide]
            by_cases g0 : -8388608 ≤ n
            · have g1 : ¬ n < 8388608 := by omega
              clear hf
              go_wp2_with fail
              go_round
              case rel => exact ⟨4, by omega, by omega, by go_num, fits_next HF HQ.out⟩
              case measure => simp [intOf]
            · clear hf
              go_wp2_with fail
              go_round
              case rel => exact ⟨4, by omega, by omega, by go_num, fits_next HF HQ.out⟩
              case measure => simp [intOf]
    · clear j1 j8
      go_wp2_with fail
      go_loop [5, 4] (fun i t => ∃ m : Nat, m ≤ 31 ∧ i = .int .i64 m ∧ t = .int .i64 ((2 : Int) ^ m)) (fun i _ => 31 - (intOf i).toNat)
      case atStart => exact ⟨0, by omega, rfl, rfl⟩
      case round =>
        obtain ⟨m, hm, rfl, rfl⟩ := hrel
        by_cases hlt : m < 31
        · obtain ⟨b0, b1⟩ := p2_bd m (by omega)
          have hpw : (2 : Int) ^ (m + 1) = (2 : Int) ^ m * 2 := Int.pow_succ ..
          obtain ⟨t, ht⟩ : ∃ t, t = (2 : Int) ^ m := ⟨_, rfl⟩
          rw [← ht] at b0 b1 hpw ⊢
          have HPW := Lib.hid hpw
          clear hpw ht
          go_wp2_with fail
          go_round
          case rel => exact ⟨m + 1, by omega, by go_num, by rw [HPW.out]⟩
          case measure => simp [intOf]; omega
        · obtain rfl : m = 31 := by omega
          by_cases hf : fitsI n 4
          · have HQ := Lib.hid hf
            rw [fitsI_4] at hf
            obtain ⟨f0, f1⟩ := hf
            rw [show (2 : Int) ^ 31 = 2147483648 from by decide]
            go_wp2_with fail
            go_ret
            exact ⟨ret_int (by rw [widI_4 (HF.out 1 (by omega) (by omega)) (HF.out 2 (by omega) (by omega)) (HF.out 3 (by omega) (by omega)) HQ.out]; rfl), rfl⟩
          · have HQ := Lib.hid hf
            rw [fitsI_4] at hf
            rw [show (2 : Int) ^ 31 = 2147483648 from by decide]
            by_cases g0 : -2147483648 ≤ n
            · have g1 : ¬ n < 2147483648 := by omega
              clear hf
              go_wp2_with fail
              go_round
              case rel => exact ⟨5, by omega, by omega, by go_num, fits_next HF HQ.out⟩
              case measure => simp [intOf]
            · clear hf
              go_wp2_with fail
              go_round
              case rel => exact ⟨5, by omega, by omega, by go_num, fits_next HF HQ.out⟩
              case measure => simp [intOf]
    · clear j1 j8
      go_wp2_with fail
      go_loop [5, 4] (fun i t => ∃ m : Nat, m ≤ 39 ∧ i = .int .i64 m ∧ t = .int .i64 ((2 : Int) ^ m)) (fun i _ => 39 - (intOf i).toNat)
      case atStart => exact ⟨0, by omega, rfl, rfl⟩
      case round =>
        obtain ⟨m, hm, rfl, rfl⟩ := hrel
        by_cases hlt : m < 39
        · obtain ⟨b0, b1⟩ := p2_bd m (by omega)
          have hpw : (2 : Int) ^ (m + 1) = (2 : Int) ^ m * 2 := Int.pow_succ ..
          obtain ⟨t, ht⟩ : ∃ t, t = (2 : Int) ^ m := ⟨_, rfl⟩
          rw [← ht] at b0 b1 hpw ⊢
          have HPW := Lib.hid hpw
          clear hpw ht
          go_wp2_with fail
          go_round
          case rel => exact ⟨m + 1, by omega, by go_num, by rw [HPW.out]⟩
          case measure => simp [intOf]; omega
        · obtain rfl : m = 39 := by omega
          by_cases hf : fitsI n 5
          · have HQ := Lib.hid hf
            rw [fitsI_5] at hf
            obtain ⟨f0, f1⟩ := hf
            rw [show (2 : Int) ^ 39 = 549755813888 from by decide]
            go_wp2_with fail
            go_ret
            exact ⟨ret_int (by rw [widI_5 (HF.out 1 (by omega) (by omega)) (HF.out 2 (by omega) (by omega)) (HF.out 3 (by omega) (by omega)) (HF.out 4 (by omega) (by omega)) HQ.out]; rfl), rfl⟩
          · have HQ := Lib.hid hf
            rw [fitsI_5] at hf
            rw [show (2 : Int) ^ 39 = 549755813888 from by decide]
            by_cases g0 : -549755813888 ≤ n
            · have g1 : ¬ n < 549755813888 := by omega
              clear hf
              go_wp2_with fail
              go_round
              case rel => exact ⟨6, by omega, by omega, by go_num, fits_next HF HQ.out⟩
              case measure => simp [intOf]
            · clear hf
              go_wp2_with fail
              go_round
              case rel => exact ⟨6, by omega, by omega, by go_num, fits_next HF HQ.out⟩
              case measure => simp [intOf]
    · clear j1 j8
      go_wp2_with fail
      go_loop [5, 4] (fun i t => ∃ m : Nat, m ≤ 47 ∧ i = .int .i64 m ∧ t = .int .i64 ((2 : Int) ^ m)) (fun i _ => 47 - (intOf i).toNat)
      case atStart => exact ⟨0, by omega, rfl, rfl⟩
      case round =>
        obtain ⟨m, hm, rfl, rfl⟩ := hrel
        by_cases hlt : m < 47
        · obtain ⟨b0, b1⟩ := p2_bd m (by omega)
          have hpw : (2 : Int) ^ (m + 1) = (2 : Int) ^ m * 2 := Int.pow_succ ..
          obtain ⟨t, ht⟩ : ∃ t, t = (2 : Int) ^ m := ⟨_, rfl⟩
          rw [← ht] at b0 b1 hpw ⊢
          have HPW := Lib.hid hpw
          clear hpw ht
          go_wp2_with fail
          go_round
          case rel => exact ⟨m + 1, by omega, by go_num, by rw [HPW.out]⟩
          case measure => simp [intOf]; omega
        · obtain rfl : m = 47 := by omega
          by_cases hf : fitsI n 6
          · have HQ := Lib.hid hf
            rw [fitsI_6] at hf
            obtain ⟨f0, f1⟩ := hf
            rw [show (2 : Int) ^ 47 = 140737488355328 from by decide]
            go_wp2_with fail
            go_ret
            exact ⟨ret_int (by rw [widI_6 (HF.out 1 (by omega) (by omega)) (HF.out 2 (by omega) (by omega)) (HF.out 3 (by omega) (by omega)) (HF.out 4 (by omega) (by omega)) (HF.out 5 (by omega) (by omega)) HQ.out]; rfl), rfl⟩
          · have HQ := Lib.hid hf
            rw [fitsI_6] at hf
            rw [show (2 : Int) ^ 47 = 140737488355328 from by decide]
            by_cases g0 : -140737488355328 ≤ n
            · have g1 : ¬ n < 140737488355328 := by omega
              clear hf
              go_wp2_with fail
              go_round
              case rel => exact ⟨7, by omega, by omega, by go_num, fits_next HF HQ.out⟩
              case measure => simp [intOf]
            · clear hf
              go_wp2_with fail
              go_round
              case rel => exact ⟨7, by omega, by omega, by go_num, fits_next HF HQ.out⟩
              case measure => simp [intOf]
    · clear j1 j8
      go_wp2_with fail
      go_loop [5, 4] (fun i t => ∃ m : Nat, m ≤ 55 ∧ i = .int .i64 m ∧ t = .int .i64 ((2 : Int) ^ m)) (fun i _ => 55 - (intOf i).toNat)
      case atStart => exact ⟨0, by omega, rfl, rfl⟩
      case round =>
        obtain ⟨m, hm, rfl, rfl⟩ := hrel
        by_cases hlt : m < 55
        · obtain ⟨b0, b1⟩ := p2_bd m (by omega)
          have hpw : (2 : Int) ^ (m + 1) = (2 : Int) ^ m * 2 := Int.pow_succ ..
          obtain ⟨t, ht⟩ : ∃ t, t = (2 : Int) ^ m := ⟨_, rfl⟩
          rw [← ht] at b0 b1 hpw ⊢
          have HPW := Lib.hid hpw
          clear hpw ht
          go_wp2_with fail
          go_round
          case rel => exact ⟨m + 1, by omega, by go_num, by rw [HPW.out]⟩
          case measure => simp [intOf]; omega
        · obtain rfl : m = 55 := by omega
          by_cases hf : fitsI n 7
          · have HQ := Lib.hid hf
            rw [fitsI_7] at hf
            obtain ⟨f0, f1⟩ := hf
            rw [show (2 : Int) ^ 55 = 36028797018963968 from by decide]
            go_wp2_with fail
            go_ret
            exact ⟨ret_int (by rw [widI_7 (HF.out 1 (by omega) (by omega)) (HF.out 2 (by omega) (by omega)) (HF.out 3 (by omega) (by omega)) (HF.out 4 (by omega) (by omega)) (HF.out 5 (by omega) (by omega)) (HF.out 6 (by omega) (by omega)) HQ.out]; rfl), rfl⟩
          · have HQ := Lib.hid hf
            rw [fitsI_7] at hf
            rw [show (2 : Int) ^ 55 = 36028797018963968 from by decide]
            by_cases g0 : -36028797018963968 ≤ n
            · have g1 : ¬ n < 36028797018963968 := by omega
              clear hf
              go_wp2_with fail
              go_round
              case rel => exact ⟨8, by omega, by omega, by go_num, fits_next HF HQ.out⟩
              case measure => simp [intOf]
            · clear hf
              go_wp2_with fail
              go_round
              case rel => exact ⟨8, by omega, by omega, by go_num, fits_next HF HQ.out⟩
              case measure => simp [intOf]
    · go_wp2_with fail
      go_ret
      exact ⟨ret_int (by rw [widI_8 (HF.out 1 (by omega) (by omega)) (HF.out 2 (by omega) (by omega)) (HF.out 3 (by omega) (by omega)) (HF.out 4 (by omega) (by omega)) (HF.out 5 (by omega) (by omega)) (HF.out 6 (by omega) (by omega)) (HF.out 7 (by omega) (by omega))]; rfl), rfl⟩
end Go.Proofs.Ytbbdglikdogmhaa
