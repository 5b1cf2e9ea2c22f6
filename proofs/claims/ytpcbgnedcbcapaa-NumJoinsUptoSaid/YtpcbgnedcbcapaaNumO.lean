/- The walk of the law NumOrder. -/
import Derived.Test.YtpcbgnedcbcapaaNumF
namespace Go.Proofs.Ytpcbgnedcbcapaa
open Go.RowKit

theorem mod_split (a : Int) (k : Nat) : a % 256 ^ (k + 1) = (a / 256 ^ k % 256) * 256 ^ k + a % 256 ^ k := by
  have hp : (0 : Int) < 256 ^ k := Int.pow_pos (by decide)
  have h1 := Int.mul_ediv_add_emod a (256 ^ k)
  have h2 := Int.mul_ediv_add_emod (a / 256 ^ k) 256
  have h3 := Int.emod_nonneg a (Int.ne_of_gt hp)
  have h4 := Int.emod_lt_of_pos a hp
  have h5 : 0 ≤ a / 256 ^ k % 256 := Int.emod_nonneg _ (by decide)
  have h6 : a / 256 ^ k % 256 < 256 := Int.emod_lt_of_pos _ (by decide)
  generalize hq : a / 256 ^ k / 256 = q at *
  generalize hr : a / 256 ^ k % 256 = r at *
  generalize hs : a % 256 ^ k = s at *
  generalize ha : a / 256 ^ k = d at *
  generalize hP : (256 : Int) ^ k = p at *
  have e : a = (r * p + s) + p * 256 * q := by rw [← h1, ← h2, Int.mul_add]; rw [Int.mul_assoc p 256 q, Int.mul_comm r p]; omega
  rw [Int.pow_succ, hP, e, Int.add_mul_emod_self_left]
  refine Int.emod_eq_of_lt ?_ ?_
  · have := Int.mul_nonneg h5 (Int.le_of_lt hp); omega
  · have h7 : r * p ≤ 255 * p := Int.mul_le_mul_of_nonneg_right (by omega) (Int.le_of_lt hp)
    omega

theorem less_fx (a b : Int) (k : Nat) : Op.bytesLess ((fxL a k).map fun n => UInt8.ofNat n.toNat) ((fxL b k).map fun n => UInt8.ofNat n.toNat) = decide (a % 256 ^ k < b % 256 ^ k) := by
  induction k with
  | zero => simp [fxL, Op.bytesLess]
  | succ k ih =>
    have hp : (0 : Int) < 256 ^ k := Int.pow_pos (by decide)
    have ha := mod_split a k
    have hb := mod_split b k
    have a1 := Int.emod_nonneg a (Int.ne_of_gt hp)
    have a2 := Int.emod_lt_of_pos a hp
    have b1 := Int.emod_nonneg b (Int.ne_of_gt hp)
    have b2 := Int.emod_lt_of_pos b hp
    have a5 : 0 ≤ a / 256 ^ k % 256 := Int.emod_nonneg _ (by decide)
    have a6 : a / 256 ^ k % 256 < 256 := Int.emod_lt_of_pos _ (by decide)
    have b5 : 0 ≤ b / 256 ^ k % 256 := Int.emod_nonneg _ (by decide)
    have b6 : b / 256 ^ k % 256 < 256 := Int.emod_lt_of_pos _ (by decide)
    simp only [fxL, List.map_cons, Op.bytesLess, ih, ha, hb]
    generalize a / 256 ^ k % 256 = x at *
    generalize b / 256 ^ k % 256 = y at *
    generalize a % 256 ^ k = s at *
    generalize b % 256 ^ k = t at *
    generalize (256 : Int) ^ k = p at *
    have ex : (UInt8.ofNat x.toNat).toNat = x.toNat := by simp [UInt8.toNat_ofNat']; omega
    have ey : (UInt8.ofNat y.toNat).toNat = y.toNat := by simp [UInt8.toNat_ofNat']; omega
    rcases Int.lt_trichotomy x y with h | h | h
    · have h1 : UInt8.ofNat x.toNat < UInt8.ofNat y.toNat := by rw [UInt8.lt_iff_toNat_lt, ex, ey]; omega
      have h2 : (x + 1) * p ≤ y * p := Int.mul_le_mul_of_nonneg_right (by omega) (Int.le_of_lt hp)
      rw [Int.add_mul] at h2
      rw [decide_eq_true h1, decide_eq_true (show x * p + s < y * p + t by omega)]; rfl
    · subst h
      have h1 : ¬ UInt8.ofNat x.toNat < UInt8.ofNat x.toNat := by rw [UInt8.lt_iff_toNat_lt]; omega
      rw [decide_eq_false h1, beq_self_eq_true, Bool.false_or, Bool.true_and, decide_eq_decide]; omega
    · have h1 : ¬ UInt8.ofNat x.toNat < UInt8.ofNat y.toNat := by rw [UInt8.lt_iff_toNat_lt, ex, ey]; omega
      have h3 : (UInt8.ofNat x.toNat == UInt8.ofNat y.toNat) = false := by
        rw [beq_eq_false_iff_ne]; intro e; have := congrArg UInt8.toNat e; omega
      have h2 : (y + 1) * p ≤ x * p := Int.mul_le_mul_of_nonneg_right (by omega) (Int.le_of_lt hp)
      rw [Int.add_mul] at h2
      rw [decide_eq_false h1, h3, decide_eq_false (show ¬ x * p + s < y * p + t by omega)]; rfl

theorem order_str {a b : Int} (ha : 0 ≤ a ∧ a ≤ 18446744073709551615) (hb : 0 ≤ b ∧ b ≤ 18446744073709551615) : Op.bytesLess (strOfNums (fixedL a 8)).toList (strOfNums (fixedL b 8)).toList = decide (a < b) := by
  rw [ByteArray.toList_eq, ByteArray.toList_eq, strOfNums_data, strOfNums_data, show (8 : Int) = (8 : Nat) from rfl, fixed_nat a 8 (by decide) (by decide), fixed_nat b 8 (by decide) (by decide), less_fx]
  rw [Int.emod_eq_of_lt ha.1 (by omega), Int.emod_eq_of_lt hb.1 (by omega)]

theorem vl_mono : ∀ (a b : Nat), a ≤ b → (vl a).length ≤ (vl b).length := by
  intro a
  induction a using Nat.strongRecOn with
  | _ a ih =>
    intro b h
    by_cases ha : a < 128
    · rw [vl_small ha]; exact vl_pos b
    · rw [vl_big ha, vl_big (by omega : ¬ b < 128)]
      have := ih (a / 128) (by omega) (b / 128) (by omega)
      simp; omega
theorem varL_mono {p q : Int} (h0 : 0 ≤ p) (h : p ≤ q) : (varL p).length ≤ (varL q).length := by
  refine vl_mono _ _ ?_
  unfold zig; rw [if_neg (by omega), if_neg (by omega)]; omega
theorem varL_mono_neg {p q : Int} (h0 : 0 ≤ p) (h : p ≤ q) : (varL (-p - 1)).length ≤ (varL (-q - 1)).length := by
  refine vl_mono _ _ ?_
  unfold zig; rw [if_pos (by omega), if_pos (by omega)]; omega
theorem half (a : Int) (h : 0 ≤ a ∧ a ≤ 18446744073709551615) : IntKind.u64.wrap (a.tdiv 2) = a / 2 ∧ IntKind.i64.wrap (a / 2) = a / 2 ∧ 0 ≤ a / 2 ∧ a / 2 ≤ 9223372036854775807 := by
  have e : a.tdiv 2 = a / 2 := Int.tdiv_eq_ediv_of_nonneg h.1
  rw [e]
  exact ⟨IntWalk.u64_in _ (by omega), IntWalk.i64_in _ (by omega), by omega, by omega⟩

set_option maxRecDepth 100000 in
set_option maxHeartbeats 4000000 in
theorem norder_walk (w : World) (a b : Int) (ha : 0 ≤ a ∧ a ≤ 18446744073709551615) (hb : 0 ≤ b ∧ b ≤ 18446744073709551615) :
    Calls Try.prog 13 #[.int .u64 a, .int .u64 b] w (NYes w) := by
  have ho := order_str ha hb
  obtain ⟨a1, a2, a3, a4⟩ := half a ha
  obtain ⟨b1, b2, b3, b4⟩ := half b hb
  obtain ⟨ha0, ha1⟩ := ha
  obtain ⟨hb0, hb1⟩ := hb
  go_enter Try.func13, Try.ntmps13
  go_wp2_with fail
  refine (fixed_any _ a 8 ha0 ha1).mono ?_
  rintro e w1 ⟨A1, n1, c1, rfl, hown, hB1⟩
  have hS1 := hB1.size
  have hn : 8 = n1 := by rw [← hown.len, show (8 : Int) = (8 : Nat) from rfl, fixed_nat a 8 (by decide) (by decide), fxL_length]
  subst hn
  have HO := Lib.hid hown; clear hown
  go_wp2_with fail
  refine (fixed_any _ b 8 hb0 hb1).mono ?_
  rintro e w2 ⟨A2, n2, c2, rfl, hown, hB2⟩
  have hn : 8 = n2 := by rw [← hown.len, show (8 : Int) = (8 : Nat) from rfl, fixed_nat b 8 (by decide) (by decide), fxL_length]
  subst hn
  have hs1 := run_str w2 A1 8 c1 _ HO.out.len (HO.out.keep hB2).rd
  have hs2 := run_str w2 A2 8 c2 _ hown.len hown.rd
  have hB2 := hB1.trans (hB2.mono hS1)
  have hS2 := hB2.size
  have HO2 := Lib.hid hown; clear hown
  by_cases hlt : b / 2 < a / 2
  · have hPQ : b / 2 ≤ a / 2 := by omega
    have m1 := varL_mono b3 hPQ
    have m2 := varL_mono_neg b3 hPQ
    have m3 := varL_len (n := a / 2) (by omega)
    have w1 : IntKind.i64.wrap (-(b / 2)) = -(b / 2) := IntWalk.i64_in _ (by omega)
    have w2 : IntKind.i64.wrap (-(a / 2)) = -(a / 2) := IntWalk.i64_in _ (by omega)
    have w3 : IntKind.i64.wrap (-(b / 2) - 1) = -(b / 2) - 1 := IntWalk.i64_in _ (by omega)
    have w4 : IntKind.i64.wrap (-(a / 2) - 1) = -(a / 2) - 1 := IntWalk.i64_in _ (by omega)
    go_wp2_with fail
    refine (live_any _).mono ?_
    rintro e w3 ⟨rfl, hb⟩
    have hB3 := hB2.trans (hb.mono hS2)
    have hS3 := hB3.size
    clear hb
    go_wp2_with fail
    refine (varint_any _ (b / 2) (by omega)).mono ?_
    rintro e w4 ⟨A4, n4, c4, rfl, hown, hb⟩
    have l4 := hown.len; clear hown
    have hB4 := hB3.trans (hb.mono hS3)
    have hS4 := hB4.size
    clear hb
    go_wp2_with fail
    refine (varint_any _ (a / 2) (by omega)).mono ?_
    rintro e w5 ⟨A5, n5, c5, rfl, hown, hb⟩
    have l5 := hown.len; clear hown
    have hB5 := hB4.trans (hb.mono hS4)
    have hS5 := hB5.size
    clear hb
    rw [l4, l5] at m1
    go_wp2_with fail
    refine (varint_any _ (-(b / 2) - 1) (by omega)).mono ?_
    rintro e w6 ⟨A6, n6, c6, rfl, hown, hb⟩
    have l6 := hown.len; clear hown
    have hB6 := hB5.trans (hb.mono hS5)
    have hS6 := hB6.size
    clear hb
    go_wp2_with fail
    refine (varint_any _ (-(a / 2) - 1) (by omega)).mono ?_
    rintro e w7 ⟨A7, n7, c7, rfl, hown, hb⟩
    have l7 := hown.len; clear hown
    have hB7 := hB6.trans (hb.mono hS6)
    have hS7 := hB7.size
    clear hb
    rw [l6, l7] at m2
    go_wp2_with fail
    refine (varint_any _ (a / 2) (by omega)).mono ?_
    rintro e w8 ⟨A8, n8, c8, rfl, hown, hb⟩
    have l8 := hown.len; clear hown
    have hB8 := hB7.trans (hb.mono hS7)
    clear hb
    rw [l8] at m3
    go_wp2
    go_ret
    exact ⟨congrArg (fun b => Ending.returned (.bool b)) (decide_eq_true (by omega) : decide ((n8 : Int) ≤ 10) = true), hB8⟩
  · have hPQ : a / 2 ≤ b / 2 := by omega
    have m1 := varL_mono a3 hPQ
    have m2 := varL_mono_neg a3 hPQ
    have m3 := varL_len (n := b / 2) (by omega)
    have w1 : IntKind.i64.wrap (-(a / 2)) = -(a / 2) := IntWalk.i64_in _ (by omega)
    have w2 : IntKind.i64.wrap (-(b / 2)) = -(b / 2) := IntWalk.i64_in _ (by omega)
    have w3 : IntKind.i64.wrap (-(a / 2) - 1) = -(a / 2) - 1 := IntWalk.i64_in _ (by omega)
    have w4 : IntKind.i64.wrap (-(b / 2) - 1) = -(b / 2) - 1 := IntWalk.i64_in _ (by omega)
    go_wp2_with fail
    refine (live_any _).mono ?_
    rintro e w3 ⟨rfl, hb⟩
    have hB3 := hB2.trans (hb.mono hS2)
    have hS3 := hB3.size
    clear hb
    go_wp2_with fail
    refine (varint_any _ (a / 2) (by omega)).mono ?_
    rintro e w4 ⟨A4, n4, c4, rfl, hown, hb⟩
    have l4 := hown.len; clear hown
    have hB4 := hB3.trans (hb.mono hS3)
    have hS4 := hB4.size
    clear hb
    go_wp2_with fail
    refine (varint_any _ (b / 2) (by omega)).mono ?_
    rintro e w5 ⟨A5, n5, c5, rfl, hown, hb⟩
    have l5 := hown.len; clear hown
    have hB5 := hB4.trans (hb.mono hS4)
    have hS5 := hB5.size
    clear hb
    rw [l4, l5] at m1
    go_wp2_with fail
    refine (varint_any _ (-(a / 2) - 1) (by omega)).mono ?_
    rintro e w6 ⟨A6, n6, c6, rfl, hown, hb⟩
    have l6 := hown.len; clear hown
    have hB6 := hB5.trans (hb.mono hS5)
    have hS6 := hB6.size
    clear hb
    go_wp2_with fail
    refine (varint_any _ (-(b / 2) - 1) (by omega)).mono ?_
    rintro e w7 ⟨A7, n7, c7, rfl, hown, hb⟩
    have l7 := hown.len; clear hown
    have hB7 := hB6.trans (hb.mono hS6)
    have hS7 := hB7.size
    clear hb
    rw [l6, l7] at m2
    go_wp2_with fail
    refine (varint_any _ (b / 2) (by omega)).mono ?_
    rintro e w8 ⟨A8, n8, c8, rfl, hown, hb⟩
    have l8 := hown.len; clear hown
    have hB8 := hB7.trans (hb.mono hS7)
    clear hb
    rw [l8] at m3
    go_wp2
    go_ret
    exact ⟨congrArg (fun b => Ending.returned (.bool b)) (decide_eq_true (by omega) : decide ((n8 : Int) ≤ 10) = true), hB8⟩
end Go.Proofs.Ytpcbgnedcbcapaa
