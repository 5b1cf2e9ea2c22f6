/- Walks: num.Varint, tomeref01.Varint. -/
import Derived.Test.YtbbdglikdogmhaaNumA
namespace Go.Proofs.Ytbbdglikdogmhaa
open Go.RowKit
set_option maxRecDepth 100000

theorem xor_ones64 (c : Nat) (h : c < 18446744073709551616) : c ^^^ 18446744073709551615 = 18446744073709551615 - c := by
  have e : 18446744073709551615 - c = 2 ^ 64 - (c + 1) := by omega
  rw [e]
  apply Nat.eq_of_testBit_eq
  intro i
  rw [Nat.testBit_two_pow_sub_succ (by simpa using h), Nat.testBit_xor, show 18446744073709551615 = 2 ^ 64 - 1 from rfl, Nat.testBit_two_pow_sub_one]
  by_cases hi : i < 64
  · simp [hi]
  · have : c.testBit i = false := Nat.testBit_lt_two_pow (Nat.lt_of_lt_of_le h (by
      rw [show 18446744073709551616 = 2 ^ 64 from rfl]; exact Nat.pow_le_pow_right (by decide) (by omega)))
    simp [hi, this]
theorem zig_prog {n : Int} (h : -9223372036854775808 ≤ n ∧ n ≤ 9223372036854775807) :
    bits .xor .u64 (IntKind.u64.wrap (IntKind.u64.wrap n * 2)) (IntKind.u64.wrap (n / 9223372036854775808)) = (zig n : Nat) := by
  by_cases h0 : n < 0
  · have e1 : IntKind.u64.wrap (IntKind.u64.wrap n * 2) = ((2 * n + 18446744073709551616).toNat : Nat) := by
      rw [IntKind.wrap_u64, IntKind.wrap_u64]; omega
    have e2 : IntKind.u64.wrap (n / 9223372036854775808) = ((18446744073709551615 : Nat) : Int) := by
      rw [IntKind.wrap_u64]; omega
    rw [e1, e2, u64_xor_nat _ _ (by omega) (by decide), xor_ones64 _ (by omega), zig, if_pos h0]
    omega
  · have e1 : IntKind.u64.wrap (IntKind.u64.wrap n * 2) = ((2 * n).toNat : Nat) := by
      rw [IntKind.wrap_u64, IntKind.wrap_u64]; omega
    have e2 : IntKind.u64.wrap (n / 9223372036854775808) = ((0 : Nat) : Int) := by
      rw [IntKind.wrap_u64]; omega
    rw [e1, e2, u64_xor_nat _ _ (by omega) (by decide), Nat.xor_zero, zig, if_neg h0]
theorem or128 (z : Nat) : bits .or .u8 ((z : Int) % 256) 128 = ((z % 128 : Nat) + 128 : Int) := by
  have h := u8_or_nat (z % 256) 128 (by omega) (by decide)
  have e : z % 256 ||| 128 = z % 128 + 128 := by
    rcases (by omega : z % 256 < 128 ∨ 128 ≤ z % 256) with hz | hz
    · have := nat_join 7 128 (z % 256) (by decide) (by omega)
      rw [Nat.or_comm, this]; omega
    · have e1 : z % 256 = 128 ||| (z % 256 - 128) := by
        rw [nat_join 7 128 (z % 256 - 128) (by decide) (by omega)]; omega
      rw [e1, Nat.or_comm, ← Nat.or_assoc, Nat.or_self, ← e1]; omega
  rw [e] at h
  simpa using h

def VarRel (w : World) (z0 : Nat) (z out : Value) (wr : World) : Prop :=
  ∃ (y : Nat) (pre : List Int) (A : Option Addr) (m c : Nat), y < 18446744073709551616 ∧ z = .int .u64 y ∧ out = .slice A m c ∧ OwnB wr w.heap.size A m c pre ∧ m ≤ 10 ∧ pre ++ vl y = vl z0 ∧ Below w.heap.size w wr

theorem var_pre {m z0 y : Nat} {pre : List Int} (h0 : z0 < 18446744073709551616) (hl : pre.length = m) (h : pre ++ vl y = vl z0) : m + 1 ≤ 10 := by
  have h1 := congrArg List.length h
  rw [List.length_append, hl] at h1
  have := vl_len10 h0
  have := vl_pos y
  omega

set_option maxHeartbeats 4000000 in
set_option maxRecDepth 100000 in
theorem varint_any (w : World) (n : Int) (hn : -9223372036854775808 ≤ n ∧ n ≤ 9223372036854775807) :
    Calls Try.prog 25 #[.int .i64 n] w (BytesBack w (varL n)) := by
  have hz0 := zig_lt hn
  have HN := Lib.hid hn; clear hn
  go_enter Try.func25, Try.ntmps25
  go_wp2_with fail
  rw [zig_prog HN.out]
  obtain ⟨z0, hz⟩ : ∃ x, x = zig n := ⟨_, rfl⟩
  rw [← hz] at hz0 ⊢
  have HZ := Lib.hid hz; clear hz HN
  generalize IntKind.u64.wrap (IntKind.u64.wrap n * 2) = q2
  generalize IntKind.u64.wrap n = q1
  generalize IntKind.u64.wrap (n / 9223372036854775808) = q3
  generalize n / 9223372036854775808 = q4
  have HZ0 := Lib.hid hz0; clear hz0
  go_loopw [3, 4] (fun z out wr => VarRel w z0 z out wr) (fun z _ _ => (intOf z).toNat)
  case atStart => exact ⟨z0, [], none, 0, 0, HZ0.out, rfl, rfl, OwnB.nil _ _, by omega, rfl, Below.refl _ _⟩
  case round =>
    obtain ⟨y, pre, A, m, c, hy, rfl, rfl, hown, hm, hpre, hb⟩ := hrel
    have hm1 := var_pre HZ0.out hown.len hpre
    have hbs := hb.size
    have HP := Lib.hid hpre; clear hpre
    have HY := Lib.hid hy; clear hy
    have HO := Lib.hid hown; clear hown
    by_cases h128 : y < 128
    · go_wp2_with (at_builtin; refine wp_append rfl (.tmp 22) (.tmp 25) rfl w.heap.size A m c _ rfl (HO.out.alloc _) (some ⟨wr.heap.size, 0, none⟩) 1 1 [(y : Int)] rfl rfl (OwnB.rd (OwnB.lit wr #[.int .u8 (y : Int)] [(y : Int)] _ 1 rfl rfl (Nat.le_refl _) (by decide))) (by omega) (by simp; omega) ?_; intro A3 c3 w3 hown3 _ hb4)
      go_ret
      refine ⟨A3, m + 1, c3, rfl, ?_, (hb.alloc hbs _).trans hb4⟩
      rw [varL, ← HZ.out, ← HP.out, vl_small h128]
      exact hown3
    · have hor := or128 y
      go_wp2_with (at_builtin; refine wp_append rfl (.tmp 14) (.tmp 18) rfl w.heap.size A m c _ rfl (HO.out.alloc _) (some ⟨wr.heap.size, 0, none⟩) 1 1 [((y % 128 : Nat) : Int) + 128] rfl rfl (OwnB.rd (OwnB.lit wr #[.int .u8 (((y % 128 : Nat) : Int) + 128)] [((y % 128 : Nat) : Int) + 128] _ 1 rfl rfl (Nat.le_refl _) (by decide))) (by omega) (by simp; omega) ?_; intro A3 c3 w3 hown3 _ hb4)
      go_roundw
      case rel => exact ⟨y / 128, _, A3, m + 1, c3, Nat.lt_of_le_of_lt (Nat.div_le_self _ _) HY.out, by go_num, rfl, hown3, hm1, by rw [← HP.out, vl_big h128]; simp, (hb.alloc hbs _).trans hb4⟩
      case measure => simp [intOf]; omega

set_option maxHeartbeats 4000000 in
set_option maxRecDepth 100000 in
theorem rvarint_any (w : World) (n : Int) (hn : -9223372036854775808 ≤ n ∧ n ≤ 9223372036854775807) :
    Calls Try.prog 28 #[.int .i64 n] w (BytesBack w (varL n)) := by
  have hz0 := zig_lt hn
  obtain ⟨z0, hz⟩ : ∃ x, x = zig n := ⟨_, rfl⟩
  rw [← hz] at hz0
  by_cases h : n < 0
  · have e : -(n + 1) * 2 + 1 = (z0 : Int) := by rw [hz, zig, if_pos h]; omega
    have HZ := Lib.hid hz; clear hz
    have HZ0 := Lib.hid hz0; clear hz0
    go_enter Try.func28, Try.ntmps28
    go_wp2_with fail
    generalize IntKind.u64.wrap (IntKind.u64.wrap n * 2) = q2
    generalize IntKind.u64.wrap n = q1
    clear e hn
    go_loopw [3, 4] (fun z out wr => VarRel w z0 z out wr) (fun z _ _ => (intOf z).toNat)
    case atStart => exact ⟨z0, [], none, 0, 0, HZ0.out, rfl, rfl, OwnB.nil _ _, by omega, rfl, Below.refl _ _⟩
    case round =>
      obtain ⟨y, pre, A, m, c, hy, rfl, rfl, hown, hm, hpre, hb⟩ := hrel
      have hm1 := var_pre HZ0.out hown.len hpre
      have hbs := hb.size
      have HP := Lib.hid hpre; clear hpre
      have HY := Lib.hid hy; clear hy
      have HO := Lib.hid hown; clear hown
      by_cases h128 : y < 128
      · go_wp2_with (at_builtin; refine wp_append rfl (.tmp 27) (.tmp 30) rfl w.heap.size A m c _ rfl (HO.out.alloc _) (some ⟨wr.heap.size, 0, none⟩) 1 1 [(y : Int)] rfl rfl (OwnB.rd (OwnB.lit wr #[.int .u8 (y : Int)] [(y : Int)] _ 1 rfl rfl (Nat.le_refl _) (by decide))) (by omega) (by simp; omega) ?_; intro A3 c3 w3 hown3 _ hb4)
        go_ret
        refine ⟨A3, m + 1, c3, rfl, ?_, (hb.alloc hbs _).trans hb4⟩
        rw [varL, ← HZ.out, ← HP.out, vl_small h128]
        exact hown3
      · have hq : IntKind.u64.wrap ((y : Int) / 128) = (y : Int) / 128 := IntWalk.u64_in _ (by have := HY.out; omega)
        go_wp2_with (at_builtin; refine wp_append rfl (.tmp 18) (.tmp 23) rfl w.heap.size A m c _ rfl (HO.out.alloc _) (some ⟨wr.heap.size, 0, none⟩) 1 1 [(y : Int) % 128 + 128] rfl rfl (OwnB.rd (OwnB.lit wr #[.int .u8 ((y : Int) % 128 + 128)] [(y : Int) % 128 + 128] _ 1 rfl rfl (Nat.le_refl _) (by decide))) (by omega) (by simp; omega) ?_; intro A3 c3 w3 hown3 _ hb4)
        go_roundw
        case rel => exact ⟨y / 128, _, A3, m + 1, c3, Nat.lt_of_le_of_lt (Nat.div_le_self _ _) HY.out, by go_num, rfl, hown3, hm1, by rw [← HP.out, vl_big h128]; simp, (hb.alloc hbs _).trans hb4⟩
        case measure => simp [intOf]; omega
  · have e : n * 2 = (z0 : Int) := by rw [hz, zig, if_neg h]; omega
    have HZ := Lib.hid hz; clear hz
    have HZ0 := Lib.hid hz0; clear hz0
    go_enter Try.func28, Try.ntmps28
    go_wp2_with fail
    clear e hn
    go_loopw [3, 4] (fun z out wr => VarRel w z0 z out wr) (fun z _ _ => (intOf z).toNat)
    case atStart => exact ⟨z0, [], none, 0, 0, HZ0.out, rfl, rfl, OwnB.nil _ _, by omega, rfl, Below.refl _ _⟩
    case round =>
      obtain ⟨y, pre, A, m, c, hy, rfl, rfl, hown, hm, hpre, hb⟩ := hrel
      have hm1 := var_pre HZ0.out hown.len hpre
      have hbs := hb.size
      have HP := Lib.hid hpre; clear hpre
      have HY := Lib.hid hy; clear hy
      have HO := Lib.hid hown; clear hown
      by_cases h128 : y < 128
      · go_wp2_with (at_builtin; refine wp_append rfl (.tmp 27) (.tmp 30) rfl w.heap.size A m c _ rfl (HO.out.alloc _) (some ⟨wr.heap.size, 0, none⟩) 1 1 [(y : Int)] rfl rfl (OwnB.rd (OwnB.lit wr #[.int .u8 (y : Int)] [(y : Int)] _ 1 rfl rfl (Nat.le_refl _) (by decide))) (by omega) (by simp; omega) ?_; intro A3 c3 w3 hown3 _ hb4)
        go_ret
        refine ⟨A3, m + 1, c3, rfl, ?_, (hb.alloc hbs _).trans hb4⟩
        rw [varL, ← HZ.out, ← HP.out, vl_small h128]
        exact hown3
      · have hq : IntKind.u64.wrap ((y : Int) / 128) = (y : Int) / 128 := IntWalk.u64_in _ (by have := HY.out; omega)
        go_wp2_with (at_builtin; refine wp_append rfl (.tmp 18) (.tmp 23) rfl w.heap.size A m c _ rfl (HO.out.alloc _) (some ⟨wr.heap.size, 0, none⟩) 1 1 [(y : Int) % 128 + 128] rfl rfl (OwnB.rd (OwnB.lit wr #[.int .u8 ((y : Int) % 128 + 128)] [(y : Int) % 128 + 128] _ 1 rfl rfl (Nat.le_refl _) (by decide))) (by omega) (by simp; omega) ?_; intro A3 c3 w3 hown3 _ hb4)
        go_roundw
        case rel => exact ⟨y / 128, _, A3, m + 1, c3, Nat.lt_of_le_of_lt (Nat.div_le_self _ _) HY.out, by go_num, rfl, hown3, hm1, by rw [← HP.out, vl_big h128]; simp, (hb.alloc hbs _).trans hb4⟩
        case measure => simp [intOf]; omega
end Go.Proofs.Ytbbdglikdogmhaa
