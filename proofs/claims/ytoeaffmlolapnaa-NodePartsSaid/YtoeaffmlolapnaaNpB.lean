/- Several texts of this proof as one: NumB, NumC, NumD, NumE, ClP, Grow, Unv, SlP. Laid by merge.py. -/
import Derived.Test.YtoeaffmlolapnaaNpA
import Derived.ArgAppend
import Derived.BigQuiet
import Derived.Deep.DeepCutAuto
import Derived.Deep.QuietTactic
import Derived.Deep.RegionHeld3
import Derived.Handy
import Derived.Laws.CopyOwn
import Derived.Lib.AppendStr
import Derived.Lib.Hide
import Derived.Maps.AppendAt
import Derived.Test.YtoeaffmlolapnaaProg
import Derived.WalkKit
import Derived.WalkSpells
namespace Go.Proofs.Ytoeaffmlolapnaa
section
open Go.RowKit
set_option maxRecDepth 100000
/-- What Read gives: the number, and the error. -/
def readL (l : List Int) (at_ size : Int) : Int × Int :=
  if size < 1 ∨ 8 < size ∨ at_ < 0 then (0, 1) else if (l.length : Int) < at_ ∨ (l.length : Int) - at_ < size then (0, 6) else (beI ((l.drop at_.toNat).take size.toNat), 0)
theorem readL_arg {l : List Int} {at_ size : Int} (h : size < 1 ∨ 8 < size ∨ at_ < 0) : readL l at_ size = (0, 1) := by rw [readL, if_pos h]
theorem readL_short {l : List Int} {at_ size : Int} (h : ¬ (size < 1 ∨ 8 < size ∨ at_ < 0)) (h2 : (l.length : Int) < at_ ∨ (l.length : Int) - at_ < size) : readL l at_ size = (0, 6) := by rw [readL, if_neg h, if_pos h2]
theorem readL_ok {l : List Int} {p k : Nat} (h1 : 1 ≤ k) (h8 : k ≤ 8) (h : p + k ≤ l.length) : readL l p k = (beI ((l.drop p).take k), 0) := by
  rw [readL, if_neg (by omega), if_neg (by omega), Int.toNat_natCast, Int.toNat_natCast]
theorem bt_drop (l : List Int) (p i : Nat) : bt (l.drop p) i = bt l (p + i) := by simp [bt]
theorem be_step {l : List Int} {p j : Nat} (h : p + j < l.length) : beI ((l.drop p).take (j + 1)) = beI ((l.drop p).take j) * 256 + bt l (p + j) := by
  rw [take_succ_bt (by simp; omega), beI_snoc, bt_drop]
theorem be_bd {l : List Int} (hB : IsB l) (p j : Nat) (hj : j < 8) : 0 ≤ beI ((l.drop p).take j) ∧ beI ((l.drop p).take j) < 72057594037927936 := by
  have h := beI_lt (l := (l.drop p).take j) (fun x hx => hB x (List.mem_of_mem_drop (List.mem_of_mem_take hx))) 7 (by simp; omega)
  exact h
theorem or256 {a x : Int} (h0 : 0 ≤ a) (h1 : a < 72057594037927936) (x0 : 0 ≤ x) (x1 : x ≤ 255) : bits .or .u64 (a * 256) x = a * 256 + x := by
  obtain ⟨a, rfl⟩ := Int.eq_ofNat_of_zero_le h0
  obtain ⟨x, rfl⟩ := Int.eq_ofNat_of_zero_le x0
  have h := u64_or_nat (a * 256) x (by omega) (by omega)
  rw [nat_join 8 (a * 256) x (by omega) (by omega)] at h
  simpa using h

set_option maxRecDepth 100000 in
set_option maxHeartbeats 4000000 in
theorem read_any (w : World) (A : Option Addr) (n c : Nat) (l : List Int) (at_ size : Int) (hn : l.length = n) (hnc : n ≤ c) (hcm : c ≤ maxLen) (hA : Rd w A l) (hB : IsB l) (ha : -9223372036854775808 ≤ at_ ∧ at_ ≤ 9223372036854775807) :
    Calls Try.prog 112 #[.slice A n c, .int .i64 at_, .int .i64 size] w fun e w' => e = .returned (.tuple #[.int .u64 (readL l at_ size).1, .int .i64 (readL l at_ size).2]) ∧ w = w' := by
  unfold maxLen at hcm
  have HN := Lib.hid hn; clear hn
  have HA := Lib.hid hA; clear hA
  have HB := Lib.hid hB; clear hB
  by_cases h1 : size < 1 ∨ 8 < size ∨ at_ < 0
  · rw [readL_arg h1]
    rcases (show size < 1 ∨ (1 ≤ size ∧ 8 < size) ∨ (1 ≤ size ∧ size ≤ 8 ∧ at_ < 0) by omega) with h | ⟨h, h'⟩ | ⟨h, h', h''⟩
    all_goals
      clear h1
      go_enter Try.func112, Try.ntmps112
      go_wp2_with fail
      go_ret2
      exact ⟨rfl, rfl⟩
  by_cases h2 : (l.length : Int) < at_ ∨ (l.length : Int) - at_ < size
  · rw [readL_short h1 h2]
    rw [HN.out] at h2
    have g1 : 1 ≤ size := by omega
    have g2 : size ≤ 8 := by omega
    have g3 : 0 ≤ at_ := by omega
    clear h1
    rcases (show (n : Int) < at_ ∨ (at_ ≤ (n : Int) ∧ (n : Int) - at_ < size) by omega) with h | ⟨h, h'⟩
    all_goals
      clear h2
      go_enter Try.func112, Try.ntmps112
      go_wp2_with fail
      go_ret2
      exact ⟨rfl, rfl⟩
  · obtain ⟨k, rfl⟩ := Int.eq_ofNat_of_zero_le (show 0 ≤ size by omega)
    obtain ⟨p, rfl⟩ := Int.eq_ofNat_of_zero_le (show 0 ≤ at_ by omega)
    have k1 : 1 ≤ k := by omega
    have k8 : k ≤ 8 := by omega
    have hpk : p + k ≤ n := by have := HN.out; omega
    clear h1 h2
    rw [readL_ok k1 k8 (by rw [HN.out]; exact hpk)]
    obtain ⟨b, off, hA', _, hcell⟩ := Rd.at HA.out (by rw [HN.out]; omega)
    subst hA'
    have HC := Lib.hid hcell; clear hcell
    have hcp : ¬ c = p := by omega
    go_enter Try.func112, Try.ntmps112
    go_wp2_with fail
    go_loop [8, 42] (fun z i => ∃ j : Nat, j ≤ k ∧ i = .int .i64 j ∧ z = .int .u64 (beI ((l.drop p).take j))) (fun _ i => k - (intOf i).toNat)
    case atStart => exact ⟨0, Nat.zero_le _, rfl, by simp [beI]⟩
    case round =>
      obtain ⟨j, hj, rfl, rfl⟩ := hrel
      by_cases hlt : j < k
      · obtain ⟨b0, b1⟩ := be_bd HB.out p j (by omega)
        have hstep := be_step (l := l) (p := p) (j := j) (by rw [HN.out]; omega)
        have hx := HC.out (p + j) (by rw [HN.out]; omega)
        obtain ⟨x0, x1⟩ := IsB.bt HB.out (p + j)
        have hor := or256 b0 b1 x0 x1
        obtain ⟨a, ha'⟩ : ∃ x, x = beI ((l.drop p).take j) := ⟨_, rfl⟩
        rw [← ha'] at b0 b1 hstep hor ⊢
        have HS := Lib.hid hstep; clear hstep ha'
        rw [← Nat.add_assoc] at hx
        go_wp2_with fail
        go_round
        case rel => exact ⟨j + 1, by omega, by go_num, by rw [HS.out]⟩
        case measure => simp [intOf]; omega
      · obtain rfl : j = k := by omega
        go_wp2_with fail
        go_ret2
        exact ⟨rfl, rfl⟩

end
section
open Go.RowKit
set_option maxRecDepth 100000
theorem xor_ones64 (c : Nat) (h : c < 18446744073709551616) : c ^^^ 18446744073709551615 = 18446744073709551615 - c := by
  have e : 18446744073709551615 - c = 2 ^ 64 - (c + 1) := by omega
  rw [e]
  apply Nat.eq_of_testBit_eq
  intro i
  rw [Nat.testBit_two_pow_sub_succ (by simpa using h), Nat.testBit_xor, show 18446744073709551615 = 2 ^ 64 - 1 from rfl, Nat.testBit_two_pow_sub_one]
  by_cases hi : i < 64
  · simp [hi]
  · have : c.testBit i = false := Nat.testBit_lt_two_pow (Nat.lt_of_lt_of_le h (by
      rw [show 18446744073709551616 = 2 ^ 64 from rfl]; exact Nat.pow_le_pow_right (by decide) (by omega)))
    simp [hi, this]
theorem zig_prog {n : Int} (h : -9223372036854775808 ≤ n ∧ n ≤ 9223372036854775807) :
    bits .xor .u64 (IntKind.u64.wrap (IntKind.u64.wrap n * 2)) (IntKind.u64.wrap (n / 9223372036854775808)) = (zig n : Nat) := by
  by_cases h0 : n < 0
  · have e1 : IntKind.u64.wrap (IntKind.u64.wrap n * 2) = ((2 * n + 18446744073709551616).toNat : Nat) := by
      rw [IntKind.wrap_u64, IntKind.wrap_u64]; omega
    have e2 : IntKind.u64.wrap (n / 9223372036854775808) = ((18446744073709551615 : Nat) : Int) := by
      rw [IntKind.wrap_u64]; omega
    rw [e1, e2, u64_xor_nat _ _ (by omega) (by decide), xor_ones64 _ (by omega), zig, if_pos h0]
    omega
  · have e1 : IntKind.u64.wrap (IntKind.u64.wrap n * 2) = ((2 * n).toNat : Nat) := by
      rw [IntKind.wrap_u64, IntKind.wrap_u64]; omega
    have e2 : IntKind.u64.wrap (n / 9223372036854775808) = ((0 : Nat) : Int) := by
      rw [IntKind.wrap_u64]; omega
    rw [e1, e2, u64_xor_nat _ _ (by omega) (by decide), Nat.xor_zero, zig, if_neg h0]
theorem or128 (z : Nat) : bits .or .u8 ((z : Int) % 256) 128 = ((z % 128 : Nat) + 128 : Int) := by
  have h := u8_or_nat (z % 256) 128 (by omega) (by decide)
  have e : z % 256 ||| 128 = z % 128 + 128 := by
    rcases (by omega : z % 256 < 128 ∨ 128 ≤ z % 256) with hz | hz
    · have := nat_join 7 128 (z % 256) (by decide) (by omega)
      rw [Nat.or_comm, this]; omega
    · have e1 : z % 256 = 128 ||| (z % 256 - 128) := by
        rw [nat_join 7 128 (z % 256 - 128) (by decide) (by omega)]; omega
      rw [e1, Nat.or_comm, ← Nat.or_assoc, Nat.or_self, ← e1]; omega
  rw [e] at h
  simpa using h

def VarRel (w : World) (z0 : Nat) (z out : Value) (wr : World) : Prop :=
  ∃ (y : Nat) (pre : List Int) (A : Option Addr) (m c : Nat), y < 18446744073709551616 ∧ z = .int .u64 y ∧ out = .slice A m c ∧ OwnB wr w.heap.size A m c pre ∧ m ≤ 10 ∧ pre ++ vl y = vl z0 ∧ Below w.heap.size w wr

theorem var_pre {m z0 y : Nat} {pre : List Int} (h0 : z0 < 18446744073709551616) (hl : pre.length = m) (h : pre ++ vl y = vl z0) : m + 1 ≤ 10 := by
  have h1 := congrArg List.length h
  rw [List.length_append, hl] at h1
  have := vl_len10 h0
  have := vl_pos y
  omega

set_option maxHeartbeats 4000000 in
set_option maxRecDepth 100000 in
theorem varint_any (w : World) (n : Int) (hn : -9223372036854775808 ≤ n ∧ n ≤ 9223372036854775807) :
    Calls Try.prog 84 #[.int .i64 n] w (BytesBack w (varL n)) := by
  have hz0 := zig_lt hn
  have HN := Lib.hid hn; clear hn
  go_enter Try.func84, Try.ntmps84
  go_wp2_with fail
  rw [zig_prog HN.out]
  obtain ⟨z0, hz⟩ : ∃ x, x = zig n := ⟨_, rfl⟩
  rw [← hz] at hz0 ⊢
  have HZ := Lib.hid hz; clear hz HN
  generalize IntKind.u64.wrap (IntKind.u64.wrap n * 2) = q2
  generalize IntKind.u64.wrap n = q1
  generalize IntKind.u64.wrap (n / 9223372036854775808) = q3
  generalize n / 9223372036854775808 = q4
  have HZ0 := Lib.hid hz0; clear hz0
  go_loopw [3, 4] (fun z out wr => VarRel w z0 z out wr) (fun z _ _ => (intOf z).toNat)
  case atStart => exact ⟨z0, [], none, 0, 0, HZ0.out, rfl, rfl, OwnB.nil _ _, by omega, rfl, Below.refl _ _⟩
  case round =>
    obtain ⟨y, pre, A, m, c, hy, rfl, rfl, hown, hm, hpre, hb⟩ := hrel
    have hm1 := var_pre HZ0.out hown.len hpre
    have hbs := hb.size
    have HP := Lib.hid hpre; clear hpre
    have HY := Lib.hid hy; clear hy
    have HO := Lib.hid hown; clear hown
    by_cases h128 : y < 128
    · go_wp2_with (at_builtin; refine wp_append rfl (.tmp 22) (.tmp 25) rfl w.heap.size A m c _ rfl (HO.out.alloc _) (some ⟨wr.heap.size, 0, none⟩) 1 1 [(y : Int)] rfl rfl (OwnB.rd (OwnB.lit wr #[.int .u8 (y : Int)] [(y : Int)] _ 1 rfl rfl (Nat.le_refl _) (by decide))) (by omega) (by simp; omega) ?_; intro A3 c3 w3 hown3 _ hb4)
      go_ret
      refine ⟨A3, m + 1, c3, rfl, ?_, (hb.alloc hbs _).trans hb4⟩
      rw [varL, ← HZ.out, ← HP.out, vl_small h128]
      exact hown3
    · have hor := or128 y
      go_wp2_with (at_builtin; refine wp_append rfl (.tmp 14) (.tmp 18) rfl w.heap.size A m c _ rfl (HO.out.alloc _) (some ⟨wr.heap.size, 0, none⟩) 1 1 [((y % 128 : Nat) : Int) + 128] rfl rfl (OwnB.rd (OwnB.lit wr #[.int .u8 (((y % 128 : Nat) : Int) + 128)] [((y % 128 : Nat) : Int) + 128] _ 1 rfl rfl (Nat.le_refl _) (by decide))) (by omega) (by simp; omega) ?_; intro A3 c3 w3 hown3 _ hb4)
      go_roundw
      case rel => exact ⟨y / 128, _, A3, m + 1, c3, Nat.lt_of_le_of_lt (Nat.div_le_self _ _) HY.out, by go_num, rfl, hown3, hm1, by rw [← HP.out, vl_big h128]; simp, (hb.alloc hbs _).trans hb4⟩
      case measure => simp [intOf]; omega

set_option maxHeartbeats 4000000 in
set_option maxRecDepth 100000 in
theorem rvarint_any (w : World) (n : Int) (hn : -9223372036854775808 ≤ n ∧ n ≤ 9223372036854775807) :
    Calls Try.prog 87 #[.int .i64 n] w (BytesBack w (varL n)) := by
  have hz0 := zig_lt hn
  obtain ⟨z0, hz⟩ : ∃ x, x = zig n := ⟨_, rfl⟩
  rw [← hz] at hz0
  by_cases h : n < 0
  · have e : -(n + 1) * 2 + 1 = (z0 : Int) := by rw [hz, zig, if_pos h]; omega
    have HZ := Lib.hid hz; clear hz
    have HZ0 := Lib.hid hz0; clear hz0
    go_enter Try.func87, Try.ntmps87
    go_wp2_with fail
    generalize IntKind.u64.wrap (IntKind.u64.wrap n * 2) = q2
    generalize IntKind.u64.wrap n = q1
    clear e hn
    go_loopw [3, 4] (fun z out wr => VarRel w z0 z out wr) (fun z _ _ => (intOf z).toNat)
    case atStart => exact ⟨z0, [], none, 0, 0, HZ0.out, rfl, rfl, OwnB.nil _ _, by omega, rfl, Below.refl _ _⟩
    case round =>
      obtain ⟨y, pre, A, m, c, hy, rfl, rfl, hown, hm, hpre, hb⟩ := hrel
      have hm1 := var_pre HZ0.out hown.len hpre
      have hbs := hb.size
      have HP := Lib.hid hpre; clear hpre
      have HY := Lib.hid hy; clear hy
      have HO := Lib.hid hown; clear hown
      by_cases h128 : y < 128
      · go_wp2_with (at_builtin; refine wp_append rfl (.tmp 27) (.tmp 30) rfl w.heap.size A m c _ rfl (HO.out.alloc _) (some ⟨wr.heap.size, 0, none⟩) 1 1 [(y : Int)] rfl rfl (OwnB.rd (OwnB.lit wr #[.int .u8 (y : Int)] [(y : Int)] _ 1 rfl rfl (Nat.le_refl _) (by decide))) (by omega) (by simp; omega) ?_; intro A3 c3 w3 hown3 _ hb4)
        go_ret
        refine ⟨A3, m + 1, c3, rfl, ?_, (hb.alloc hbs _).trans hb4⟩
        rw [varL, ← HZ.out, ← HP.out, vl_small h128]
        exact hown3
      · have hq : IntKind.u64.wrap ((y : Int) / 128) = (y : Int) / 128 := IntWalk.u64_in _ (by have := HY.out; omega)
        go_wp2_with (at_builtin; refine wp_append rfl (.tmp 18) (.tmp 23) rfl w.heap.size A m c _ rfl (HO.out.alloc _) (some ⟨wr.heap.size, 0, none⟩) 1 1 [(y : Int) % 128 + 128] rfl rfl (OwnB.rd (OwnB.lit wr #[.int .u8 ((y : Int) % 128 + 128)] [(y : Int) % 128 + 128] _ 1 rfl rfl (Nat.le_refl _) (by decide))) (by omega) (by simp; omega) ?_; intro A3 c3 w3 hown3 _ hb4)
        go_roundw
        case rel => exact ⟨y / 128, _, A3, m + 1, c3, Nat.lt_of_le_of_lt (Nat.div_le_self _ _) HY.out, by go_num, rfl, hown3, hm1, by rw [← HP.out, vl_big h128]; simp, (hb.alloc hbs _).trans hb4⟩
        case measure => simp [intOf]; omega
  · have e : n * 2 = (z0 : Int) := by rw [hz, zig, if_neg h]; omega
    have HZ := Lib.hid hz; clear hz
    have HZ0 := Lib.hid hz0; clear hz0
    go_enter Try.func87, Try.ntmps87
    go_wp2_with fail
    clear e hn
    go_loopw [3, 4] (fun z out wr => VarRel w z0 z out wr) (fun z _ _ => (intOf z).toNat)
    case atStart => exact ⟨z0, [], none, 0, 0, HZ0.out, rfl, rfl, OwnB.nil _ _, by omega, rfl, Below.refl _ _⟩
    case round =>
      obtain ⟨y, pre, A, m, c, hy, rfl, rfl, hown, hm, hpre, hb⟩ := hrel
      have hm1 := var_pre HZ0.out hown.len hpre
      have hbs := hb.size
      have HP := Lib.hid hpre; clear hpre
      have HY := Lib.hid hy; clear hy
      have HO := Lib.hid hown; clear hown
      by_cases h128 : y < 128
      · go_wp2_with (at_builtin; refine wp_append rfl (.tmp 27) (.tmp 30) rfl w.heap.size A m c _ rfl (HO.out.alloc _) (some ⟨wr.heap.size, 0, none⟩) 1 1 [(y : Int)] rfl rfl (OwnB.rd (OwnB.lit wr #[.int .u8 (y : Int)] [(y : Int)] _ 1 rfl rfl (Nat.le_refl _) (by decide))) (by omega) (by simp; omega) ?_; intro A3 c3 w3 hown3 _ hb4)
        go_ret
        refine ⟨A3, m + 1, c3, rfl, ?_, (hb.alloc hbs _).trans hb4⟩
        rw [varL, ← HZ.out, ← HP.out, vl_small h128]
        exact hown3
      · have hq : IntKind.u64.wrap ((y : Int) / 128) = (y : Int) / 128 := IntWalk.u64_in _ (by have := HY.out; omega)
        go_wp2_with (at_builtin; refine wp_append rfl (.tmp 18) (.tmp 23) rfl w.heap.size A m c _ rfl (HO.out.alloc _) (some ⟨wr.heap.size, 0, none⟩) 1 1 [(y : Int) % 128 + 128] rfl rfl (OwnB.rd (OwnB.lit wr #[.int .u8 ((y : Int) % 128 + 128)] [(y : Int) % 128 + 128] _ 1 rfl rfl (Nat.le_refl _) (by decide))) (by omega) (by simp; omega) ?_; intro A3 c3 w3 hown3 _ hb4)
        go_roundw
        case rel => exact ⟨y / 128, _, A3, m + 1, c3, Nat.lt_of_le_of_lt (Nat.div_le_self _ _) HY.out, by go_num, rfl, hown3, hm1, by rw [← HP.out, vl_big h128]; simp, (hb.alloc hbs _).trans hb4⟩
        case measure => simp [intOf]; omega
end
section
open Go.RowKit
set_option maxRecDepth 100000
set_option maxRecDepth 100000 in
set_option maxHeartbeats 4000000 in
theorem unv_any (w : World) (A : Option Addr) (n c : Nat) (l : List Int) (at_ : Int) (hn : l.length = n) (hnc : n ≤ c) (hcm : c ≤ maxLen) (hA : Rd w A l) (hB : IsB l) (ha : -9223372036854775808 ≤ at_ ∧ at_ ≤ 9223372036854775807) :
    Calls Try.prog 106 #[.slice A n c, .int .i64 at_] w fun e w' => e = .returned (.tuple #[.int .i64 (unvL l at_).1, .int .i64 (unvL l at_).2.1, .int .i64 (unvL l at_).2.2]) ∧ w = w' := by
  unfold maxLen at hcm
  have HN := Lib.hid hn; clear hn
  have HA := Lib.hid hA; clear hA
  have HB := Lib.hid hB; clear hB
  by_cases h1 : at_ < 0
  · have e : unvL l at_ = (0, 0, 1) := by rw [unvL, if_pos h1]
    rw [e]
    clear e
    go_enter Try.func106, Try.ntmps106
    go_wp2_with fail
    go_ret3
    exact ⟨rfl, rfl⟩
  · obtain ⟨p, rfl⟩ := Int.eq_ofNat_of_zero_le (show 0 ≤ at_ by omega)
    have e : unvL l (p : Int) = unvG p (grp 0 (l.drop p)) := by rw [unvL, if_neg h1, Int.toNat_natCast]
    rw [e]
    obtain ⟨s, hs⟩ : ∃ s, s = l.drop p := ⟨_, rfl⟩
    rw [← hs]
    obtain ⟨R, hR⟩ : ∃ R, R = unvG p (grp 0 s) := ⟨_, rfl⟩
    rw [← hR]
    have HR := Lib.hid hR; clear hR
    have hsl : s.length = n - p := by rw [hs, List.length_drop, HN.out]
    have hsb : ∀ j, bt s j = bt l (p + j) := fun j => by rw [hs, bt_drop]
    have hsB : IsB s := by rw [hs]; exact fun x hx => HB.out x (List.mem_of_mem_drop hx)
    have HSL := Lib.hid hsl; clear hsl
    have HSB := Lib.hid hsb; clear hsb
    have HSI := Lib.hid hsB; clear hsB
    clear hs e h1
    go_enter Try.func106, Try.ntmps106
    go_wp2_with fail
    go_loop [7, 12] (fun z i => ∃ j : Nat, Pre s j ∧ i = .int .i64 j ∧ z = .int .u64 (valI (s.take j))) (fun _ i => 10 - (intOf i).toNat)
    case atStart => exact ⟨0, Pre.zero s, rfl, rfl⟩
    case round =>
      obtain ⟨j, hp, rfl, rfl⟩ := hrel
      have hj9 : j ≤ 9 := hp.1
      have HP := Lib.hid hp; clear hp
      obtain ⟨z, hz⟩ : ∃ x, x = valI (s.take j) := ⟨_, rfl⟩
      have hzb := valI_bd (s.take j)
      rw [← hz] at hzb ⊢
      have HZ := Lib.hid hz; clear hz
      have HZB := Lib.hid hzb; clear hzb
      by_cases hsh : n ≤ p + j
      · have hre := HR.out.trans (unv_short HP.out (by rw [HSL.out]; omega) p)
        have HRE := Lib.hid hre; clear hre
        rcases (show n ≤ p ∨ (p < n ∧ n - p ≤ j) by omega) with h | ⟨h, h'⟩
        all_goals
          go_wp2_with fail
          go_ret3
          exact ⟨by rw [HRE.out]; rfl, rfl⟩
      · have hjs : j < s.length := by rw [HSL.out]; omega
        have hjs' : j < n - p := by omega
        obtain ⟨b, off, hA', _, hcell⟩ := Rd.at HA.out (by rw [HN.out]; omega)
        subst hA'
        have hc := hcell (p + j) (by rw [HN.out]; omega)
        rw [← HSB.out j] at hc
        have HJ := Lib.hid hjs; clear hjs hcell
        obtain ⟨x0, x1⟩ := IsB.bt HSI.out j
        obtain ⟨x, hx⟩ : ∃ x, x = bt s j := ⟨_, rfl⟩
        rw [← hx] at hc x0 x1
        have HX := Lib.hid hx; clear hx
        by_cases h9 : j = 9 ∧ 1 < x
        · have hre := HR.out.trans (unv_over HP.out HJ.out h9.1 (by rw [← HX.out]; exact h9.2) p)
          have HRE := Lib.hid hre; clear hre
          obtain ⟨h9, hx1⟩ := h9
          subst h9
          go_wp2_with fail
          go_ret3
          exact ⟨by rw [HRE.out]; rfl, rfl⟩
        · have hn9 := and128 ⟨x0, x1⟩
          have han := andNot128 ⟨x0, x1⟩
          have hor := or_group hj9 (x := x % 128) (by have := HZB.out; rwa [List.length_take, Nat.min_eq_left (by have := HJ.out; omega)] at this) (by omega) (by omega)
          have h9s : ¬ (j = 9 ∧ 1 < bt s j) := by rw [← HX.out]; exact h9
          have H9S := Lib.hid h9s; clear h9s
          obtain ⟨y, hy⟩ : ∃ y, y = valI (s.take (j + 1)) := ⟨_, rfl⟩
          have hy0 : 0 ≤ y := by rw [hy]; exact (valI_bd _).1
          have hy1 : y ≤ 18446744073709551615 := by have := valI_fits HSI.out HP.out HJ.out H9S.out; rw [hy]; omega
          have hyz : z + x % 128 * 128 ^ j = y := by
            rw [hy, take_succ_bt HJ.out, valI_snoc, HZ.out, HX.out, List.length_take, Nat.min_eq_left (by have := HJ.out; omega)]
          rw [hyz] at hor
          have HY := Lib.hid hy; clear hy hyz
          have ha1 := and1 (z := y) ⟨hy0, by omega⟩
          have hzg := zag_prog (z := y) ⟨hy0, by omega⟩
          by_cases hbig : 128 ≤ x
          · have hd : decide (128 ≤ x) = true := by simpa using hbig
            have h9b : ((j : Int) == 9) = false := by simp; omega
            clear h9
            go_wp2_with fail
            go_round
            case rel => exact ⟨j + 1, HP.out.succ HJ.out H9S.out (by rw [← HX.out]; exact hbig), by go_num, by rw [HY.out]⟩
            case measure => simp [intOf]; omega
          · have hd : decide (128 ≤ x) = false := by simpa using hbig
            have hbs : ¬ 128 ≤ bt s j := by rw [← HX.out]; exact hbig
            have HBS := Lib.hid hbs; clear hbs
            by_cases hf : 0 < j ∧ x = 0
            · obtain ⟨hf1, hf2⟩ := hf
              subst hf2
              have hre := HR.out.trans (unv_form HP.out HJ.out H9S.out HBS.out hf1 HX.out.symm p)
              have HRE := Lib.hid hre; clear hre h9
              by_cases h9j : j = 9
              · subst h9j
                go_wp2_with fail
                go_ret3
                exact ⟨by rw [HRE.out]; rfl, rfl⟩
              · have h9b : ((j : Int) == 9) = false := by simp; omega
                go_wp2_with fail
                go_ret3
                exact ⟨by rw [HRE.out]; rfl, rfl⟩
            · have hre := HR.out.trans (unv_ok HP.out HJ.out H9S.out HBS.out (by rw [← HX.out]; exact hf) p)
              rw [← HY.out] at hre
              have HRE := Lib.hid hre; clear hre
              have hxz : 0 < j → (x == 0) = false := fun h0 => by simp; omega
              by_cases h9j : j = 9
              · have hx1 : x ≤ 1 := by omega
                have h9b : ((j : Int) == 9) = true := by simp; omega
                have hx0 := hxz (by omega)
                have hj0 : 0 < j := by omega
                clear h9 hf hxz h9j
                go_wp2_with fail
                go_ret3
                exact ⟨by rw [HRE.out]; rfl, rfl⟩
              · have h9b : ((j : Int) == 9) = false := by simp; omega
                by_cases hj0 : 0 < j
                · have hx0 := hxz hj0
                  clear h9 hf hxz h9j
                  go_wp2_with fail
                  go_ret3
                  exact ⟨by rw [HRE.out]; rfl, rfl⟩
                · clear h9 hf hxz h9j
                  go_wp2_with fail
                  go_ret3
                  exact ⟨by rw [HRE.out]; rfl, rfl⟩
end
section
open Go.RowKit
set_option maxRecDepth 100000
/-- The first j bytes are one number's. -/
def Shut (s : List Int) (j : Nat) : Prop := Pre s j ∧ j < s.length ∧ ¬ 128 ≤ bt s j ∧ ¬ (j = 9 ∧ 1 < bt s j)
end
section
open Go.RowKit
structure Cl where
  (key child total spill : Int)
  loc : List Int
deriving DecidableEq
def zeroC : Cl := ⟨0, 0, 0, 0, []⟩
def isK (k : Int) : Prop := 1 ≤ k ∧ k ≤ 4
def hasC (k : Int) : Prop := k = 2 ∨ k = 4
def hasK (k : Int) : Prop := k = 1 ∨ k = 2
instance (k : Int) : Decidable (isK k) := by unfold isK; infer_instance
instance (k : Int) : Decidable (hasC k) := by unfold hasC; infer_instance
instance (k : Int) : Decidable (hasK k) := by unfold hasK; infer_instance
def isP (n : Int) : Prop := 1 ≤ n ∧ n ≤ 1048576
instance (n : Int) : Decidable (isP n) := by unfold isP; infer_instance
/-- A payload that may be, of n bytes here. -/
def goodL (total spill : Int) (n : Nat) : Prop := 0 ≤ total ∧ total ≤ 16384 ∧ (n : Int) ≤ total ∧ ((n : Int) = total → spill = 0) ∧ ((n : Int) < total → isP spill)
instance (total spill : Int) (n : Nat) : Decidable (goodL total spill n) := by unfold goodL; infer_instance
def goodC (k : Int) (c : Cl) (n : Nat) : Prop := isK k ∧ (hasC k → isP c.child) ∧ (¬ hasC k → c.child = 0) ∧ (¬ hasK k → c.key = 0) ∧ (k ≠ 2 → goodL c.total c.spill n) ∧ (k = 2 → c.total = 0 ∧ n = 0 ∧ c.spill = 0)
instance (k : Int) (c : Cl) (n : Nat) : Decidable (goodC k c n) := by unfold goodC; infer_instance
def checkZ (k : Int) (c : Cl) (n : Nat) : Int := if goodC k c n then 0 else 1
def childB (k : Int) (c : Cl) : List Int := if hasC k then varL c.child else []
def keyB (k : Int) (c : Cl) : List Int := if hasK k then varL c.key else []
def spillB (c : Cl) : List Int := if c.spill = 0 then [] else varL c.spill
def loadB (k : Int) (c : Cl) : List Int := if k = 2 then [] else varL c.total ++ (varL (c.loc.length : Int) ++ (c.loc ++ spillB c))
def cellB (k : Int) (c : Cl) : List Int := childB k c ++ (keyB k c ++ loadB k c)
def encC (k : Int) (c : Cl) : List Int := if goodC k c c.loc.length then cellB k c else []
def Cl.ok (c : Cl) : Prop := (-9223372036854775808 ≤ c.key ∧ c.key ≤ 9223372036854775807) ∧ (-9223372036854775808 ≤ c.child ∧ c.child ≤ 9223372036854775807) ∧ (-9223372036854775808 ≤ c.total ∧ c.total ≤ 9223372036854775807) ∧ (-9223372036854775808 ≤ c.spill ∧ c.spill ≤ 9223372036854775807)
def Cl.val (c : Cl) (A : Option Addr) (n d : Nat) : Value := .agg #[.int .i64 c.key, .int .i64 c.child, .int .i64 c.total, .slice A n d, .int .i64 c.spill]

end
section
open Go.RowKit
set_option maxRecDepth 100000
/-- append onto a slice without room, whatever it is: a new row. -/
theorem run_append_full (w : World) (A : Option Addr) (n c : Nat) (l : List Int) (hl : l.length = n) (hn : 1 ≤ n) (hnc : n ≤ c) (hA : Rd w A l) (B : Option Addr) (m d : Nat) (k : List Int) (hk : k.length = m) (hr : Rd w B k) (hcm : c < n + m) (hbytes : n + m ≤ 140737488355328) (ty : TypeId) :
    ∃ A' c' w', (Builtin.append_ #[29, 29] ty #[.slice A n c, .slice B m d]).run Try.prog w = .ok (.slice A' (n + m) c') w' ∧ OwnB w' w.heap.size A' (n + m) c' (l ++ k) ∧ Below w.heap.size w w' := by
  obtain ⟨i, hi, hz, hsz, hby⟩ := info_parts info_u8
  obtain ⟨b, off, rfl, _, hc⟩ := hA.at (by omega)
  obtain ⟨b2, off2, rfl, _, hc2⟩ := hr.at (by omega)
  have hcells : ∀ (x : List Int) (b off : Nat), (∀ i, i < x.length → w.cell? ⟨b, off + i, none⟩ = some (.int .u8 (bt x i))) → ∀ j u, (vb x)[j]? = some u → w.cell? ((⟨b, off, none⟩ : Addr).add j) = some u := by
    intro x b off hx j u hu
    obtain ⟨hj, rfl⟩ := vb_get hu
    rw [Addr.add_lit]
    exact hx j hj
  obtain ⟨v', w', hrun, h2, h3⟩ := run_append_arg_grows (P := Try.prog) w 29 ty 5 i (.int .u8 0) 1 1 Try.underlying29 hi hz hsz hby rfl (by decide) ⟨b, off, none⟩ n c (vb l) (by rw [vb_length, hl, Nat.mul_one]) (hcells l b off hc) ⟨b2, off2, none⟩ m d (vb k) (by rw [vb_length, hk, Nat.mul_one]) (hcells k b2 off2 hc2) hcm (by unfold maxLen; omega) (by omega)
  have hform : ∃ A' c', v' = .slice A' (n + m) c' := by
    rcases h2.2 with ⟨hv, hn⟩ | ⟨g, cap, cur, hv, _⟩
    · exact ⟨none, 0, by rw [hv, hn]⟩
    · exact ⟨_, _, hv⟩
  obtain ⟨A', c', rfl⟩ := hform
  rw [← vb_append] at h2
  exact ⟨A', c', w', hrun, h2, (Below.refl _ _).grown h3 (Nat.le_refl _) (fun k hk => by cases hk)⟩

theorem wp_append_full {ops : Array Oper} {rest : List Oper} {o : Oper} {a : Act} {w : World} {Q : Exit → Act → World → Prop} (hgd : o.guard = none) (s x : Operand)
    (ho : o.op = .call { callee := .builtin .append, args := #[s, x], argTypes := #[29, 29] })
    (A : Option Addr) (n c : Nat) (l : List Int) (hs : a.eval s = .slice A n c) (hl : l.length = n) (hn : 1 ≤ n) (hnc : n ≤ c) (hA : Rd w A l) (B : Option Addr) (m d : Nat) (k : List Int) (hx : a.eval x = .slice B m d) (hk : k.length = m) (hr : Rd w B k) (hcm : c < n + m) (hbytes : n + m ≤ 140737488355328)
    (h : ∀ A' c' w', OwnB w' w.heap.size A' (n + m) c' (l ++ k) → Below w.heap.size w w' → wpList Try.prog ops Q rest (a.put o.dst (.slice A' (n + m) c')) w') : wpList Try.prog ops Q (o :: rest) a w := by
  obtain ⟨A', c', w', hrun, h2, hb⟩ := run_append_full w A n c l hl hn hnc hA B m d k hk hr hcm hbytes o.type
  refine wpList_plain hgd fun K hK => ?_
  unfold Oper.wp execOp
  simp only [ho, resolve, invoke, builtin, Sem.run_bind, Sem.run_pure, Result.andThen_ok, List.map_toArray, List.map_cons, List.map_nil, hs, hx, hrun]
  exact hK _ _ (h A' c' w' h2 hb)

end
section
open Go.RowKit
theorem IsB.drop' {l : List Int} (h : IsB l) (n : Nat) : IsB (l.drop n) := fun x hx => h x (List.mem_of_mem_drop hx)
theorem bt_last_cons (x : Int) {l : List Int} (h : 0 < l.length) : bt (x :: l) ((x :: l).length - 1) = bt l (l.length - 1) := by
  rw [show (x :: l).length - 1 = (l.length - 1) + 1 by simp; omega, bt_cons_succ]
theorem zig_zag {z : Int} (h : 0 ≤ z) : (zig (zag z) : Int) = z := by unfold zag zig; split <;> split <;> omega

/-- The bytes of one number: all but the last one are followed by another one. -/
def Can : List Int → Prop
  | [] => False
  | [x] => 0 ≤ x ∧ x < 128
  | x :: y :: s => (128 ≤ x ∧ x ≤ 255) ∧ Can (y :: s)
theorem grp_can : ∀ (s : List Int) (i : Nat) (g : List Int), IsB s → grp i s = (0, g) → Can g ∧ g.length ≤ s.length ∧ g = s.take g.length
  | [], i, g, _, h => by simp [grp] at h
  | x :: s, i, g, hB, h => by
    have hx := hB x (by simp)
    rw [grp] at h
    split at h
    · simp at h
    · split at h
      · simp only [Prod.mk.injEq] at h
        obtain ⟨h1, h2⟩ := h
        obtain ⟨c1, c2, c3⟩ := grp_can s (i + 1) (grp (i + 1) s).2 (fun y hy => hB y (by simp [hy])) (by rw [← h1])
        subst h2
        refine ⟨?_, by simp; omega, ?_⟩
        · cases hg : (grp (i + 1) s).2 with
          | nil => rw [hg] at c1; exact absurd c1 (by simp [Can])
          | cons y r => rw [hg] at c1; exact ⟨⟨by omega, hx.2⟩, c1⟩
        · rw [List.length_cons, List.take_succ_cons, ← c3]
      · simp only [Prod.mk.injEq, true_and] at h
        subst h
        exact ⟨⟨hx.1, by omega⟩, by simp, by simp⟩
theorem can_pos {g : List Int} (h : Can g) : 0 < g.length := by
  cases g with
  | nil => exact absurd h (by simp [Can])
  | cons x s => simp
theorem can_val : ∀ (g : List Int), Can g → bt g (g.length - 1) ≠ 0 → 1 ≤ valI g
  | [x], h, h0 => by simp [bt] at h0; simp [Can] at h; simp only [valI]; omega
  | x :: y :: s, h, h0 => by
    rw [bt_last_cons _ (by simp)] at h0
    have := can_val (y :: s) h.2 h0
    have e : valI (x :: y :: s) = x % 128 + 128 * valI (y :: s) := rfl
    rw [e]; omega
theorem can_vl : ∀ (g : List Int), Can g → ¬ (1 < g.length ∧ bt g (g.length - 1) = 0) → vl (valI g).toNat = g
  | [x], h, _ => by
    simp only [Can] at h
    have e : valI [x] = x := by simp only [valI]; omega
    rw [e, vl_small (by omega), Int.toNat_of_nonneg h.1]
  | x :: y :: s, h, h0 => by
    have h0' : bt (y :: s) ((y :: s).length - 1) ≠ 0 := fun e => h0 ⟨by simp, by rw [bt_last_cons _ (by simp)]; exact e⟩
    have hv := can_val (y :: s) h.2 h0'
    have ih := can_vl (y :: s) h.2 (fun hc => h0' hc.2)
    have hx := h.1
    have e : valI (x :: y :: s) = x % 128 + 128 * valI (y :: s) := rfl
    have e1 : (valI (x :: y :: s)).toNat / 128 = (valI (y :: s)).toNat := by rw [e]; omega
    have e2 : (((valI (x :: y :: s)).toNat % 128 : Nat) : Int) + 128 = x := by rw [e]; omega
    rw [vl_big (by rw [e]; omega), e1, e2, ih]

theorem grp_fits : ∀ (s : List Int) (k : Nat) (g : List Int), IsB s → k ≤ 9 → grp (9 - k) s = (0, g) → valI g < 2 * 128 ^ k
  | [], k, g, _, _, h => by simp [grp] at h
  | x :: s, k, g, hB, hk, h => by
    rw [grp] at h
    have hxB := hB x (by simp)
    have hp : (1 : Int) ≤ 128 ^ k := Int.pow_pos (by decide)
    split at h
    · simp at h
    · rename_i h9
      split at h
      · rename_i hx
        simp only [Prod.mk.injEq] at h
        obtain ⟨h1, h2⟩ := h
        cases k with
        | zero => exact absurd ⟨rfl, by omega⟩ h9
        | succ k =>
          have := grp_fits s k (grp (9 - (k + 1) + 1) s).2 (fun y hy => hB y (by simp [hy])) (by omega) (by rw [show 9 - k = 9 - (k + 1) + 1 by omega, ← h1])
          subst h2
          have e : valI (x :: (grp (9 - (k + 1) + 1) s).2) = x % 128 + 128 * valI (grp (9 - (k + 1) + 1) s).2 := rfl
          rw [e, Int.pow_succ]
          omega
      · rename_i hx
        simp only [Prod.mk.injEq, true_and] at h
        subst h
        simp only [valI]
        cases k with
        | zero => simp at h9; simp; omega
        | succ k =>
          have hp2 : (1 : Int) ≤ 128 ^ k := Int.pow_pos (by decide)
          rw [Int.pow_succ]; omega

theorem unv_back {l : List Int} (hB : IsB l) (h : (unvL l 0).2.2 = 0) : ∃ t : Nat, (unvL l 0).2.1 = t ∧ 0 < t ∧ t ≤ l.length ∧ varL (unvL l 0).1 = l.take t ∧ (-9223372036854775808 ≤ (unvL l 0).1 ∧ (unvL l 0).1 ≤ 9223372036854775807) := by
  rw [unvL, if_neg (by omega)] at h ⊢
  simp only [Int.toNat_zero, List.drop_zero] at h ⊢
  obtain ⟨⟨e, g⟩, hg⟩ : ∃ q, q = grp 0 l := ⟨_, rfl⟩
  rw [← hg] at h ⊢
  unfold unvG at h ⊢
  by_cases he : e ≠ 0
  · rw [if_pos he] at h; exact absurd h he
  · rw [if_neg he] at h ⊢
    by_cases h1 : 1 < g.length ∧ bt g (g.length - 1) = 0
    · rw [if_pos h1] at h; exact absurd h (by decide)
    · rw [if_neg h1] at h ⊢
      obtain rfl : e = 0 := by simpa using he
      obtain ⟨c1, c2, c3⟩ := grp_can l 0 g hB hg.symm
      have hv := can_vl g c1 h1
      refine ⟨g.length, by simp, can_pos c1, c2, ?_, ?_⟩
      · show varL (zag (valI g)) = _
        have h0 := (valI_bd g).1
        have hz := zig_zag h0
        rw [← c3, varL, show zig (zag (valI g)) = (valI g).toNat by omega, hv]
      · show -9223372036854775808 ≤ zag (valI g) ∧ zag (valI g) ≤ 9223372036854775807
        have hf := grp_fits l 9 g hB (by omega) hg.symm
        have h0 := (valI_bd g).1
        have e : (2 : Int) * 128 ^ 9 = 18446744073709551616 := by decide
        rw [e] at hf
        unfold zag; split <;> omega

/-- .. from any place on. -/
theorem unv_at {l : List Int} (hB : IsB l) (a : Nat) (h : (unvL l a).2.2 = 0) : ∃ q : Nat, (unvL l a).2.1 = (q : Int) ∧ a < q ∧ q ≤ l.length ∧ varL (unvL l a).1 = (l.drop a).take (q - a) ∧ (-9223372036854775808 ≤ (unvL l a).1 ∧ (unvL l a).1 ≤ 9223372036854775807) := by
  have e1 : unvL l a = unvG a (grp 0 (l.drop a)) := by rw [unvL, if_neg (by omega), Int.toNat_natCast]
  have e2 : unvL (l.drop a) 0 = unvG 0 (grp 0 (l.drop a)) := by rw [unvL, if_neg (by omega)]; simp
  have e3 : (unvL l a).2.2 = (unvL (l.drop a) 0).2.2 ∧ (unvL l a).1 = (unvL (l.drop a) 0).1 ∧ ((unvL l a).2.2 = 0 → (unvL l a).2.1 = a + (unvL (l.drop a) 0).2.1) := by
    rw [e1, e2]
    unfold unvG
    split
    · exact ⟨rfl, rfl, fun hh => absurd hh (by assumption)⟩
    · split
      · exact ⟨rfl, rfl, fun hh => absurd hh (by decide)⟩
      · exact ⟨rfl, rfl, fun _ => by simp⟩
  obtain ⟨t, h1, h2, h3, h4, h5⟩ := unv_back (IsB.drop' hB a) (e3.1.symm.trans h)
  refine ⟨a + t, by rw [e3.2.2 h, h1]; omega, by omega, by rw [List.length_drop] at h3; omega, ?_, ?_⟩
  · rw [e3.2.1, h4, show a + t - a = t by omega]
  · rw [e3.2.1]; exact h5
end
section
open Go.RowKit
set_option maxRecDepth 100000
set_option linter.unusedVariables false
set_option linter.unusedSimpArgs false
set_option linter.unnecessarySimpa false
/-- The number of two bytes. -/
def tw (L : List Int) (i : Nat) : Int := 256 * bt L i + bt L (i + 1)
theorem tw_bd {L : List Int} (h : IsB L) (i : Nat) : 0 ≤ tw L i ∧ tw L i ≤ 65535 := by
  have h0 := IsB.bt h i
  have h1 := IsB.bt h (i + 1)
  unfold tw
  omega
theorem read2 {L : List Int} (hB : IsB L) {i : Nat} (h : i + 2 ≤ L.length) : readL L i 2 = (tw L i, 0) := by
  have e := readL_ok (l := L) (p := i) (k := 2) (by omega) (by omega) h
  rw [show ((2 : Nat) : Int) = 2 from rfl] at e
  rw [e]
  have s1 := be_step (l := L) (p := i) (j := 0) (by omega)
  have s2 := be_step (l := L) (p := i) (j := 1) (by omega)
  rw [s2, s1]
  simp [beI, tw]
  omega

theorem bt_splice {L cs : List Int} {o : Nat} (h : o + cs.length ≤ L.length) (x : Nat) : bt (splice L o cs) x = if o ≤ x ∧ x < o + cs.length then bt cs (x - o) else bt L x := by
  unfold splice bt
  simp only [List.getD_eq_getElem?_getD]
  by_cases h1 : x < o
  · rw [if_neg (by omega), List.getElem?_append_left (by simp; omega), List.getElem?_take, if_pos h1]
  · rw [List.getElem?_append_right (by simp; omega)]
    have e : x - (L.take o).length = x - o := by rw [List.length_take]; omega
    rw [e]
    by_cases h2 : x < o + cs.length
    · rw [if_pos (by omega), List.getElem?_append_left (by omega)]
    · rw [if_neg (by omega), List.getElem?_append_right (by omega), List.getElem?_drop]
      congr 2
      omega
theorem splice_len {L cs : List Int} {o : Nat} (h : o + cs.length ≤ L.length) : (splice L o cs).length = L.length := length_splice L o cs h
theorem splice_isB {L cs : List Int} (hL : IsB L) (hc : IsB cs) (o : Nat) : IsB (splice L o cs) := by
  intro x hx
  unfold splice at hx
  rcases List.mem_append.1 hx with h | h
  · exact hL x (List.mem_of_mem_take h)
  · rcases List.mem_append.1 h with h | h
    · exact hc x h
    · exact hL x (List.mem_of_mem_drop h)
theorem splice_nil (L : List Int) (o : Nat) : splice L o [] = L := by simp [splice]
theorem vb_splice (L cs : List Int) (X : List Value) (o : Nat) (h : o + cs.length ≤ L.length) : splice (vb L ++ X) o (vb cs) = vb (splice L o cs) ++ X := by
  unfold splice
  rw [List.take_append_of_le_length (by rw [vb_length]; omega), List.drop_append_of_le_length (by rw [vb_length, vb_length]; omega)]
  simp [vb, List.map_take, List.map_drop]
theorem bt_fx2 {v : Int} (h0 : 0 ≤ v) (h1 : v ≤ 65535) : bt (fxL v 2) 0 = v / 256 ∧ bt (fxL v 2) 1 = v % 256 := by
  simp [fxL, bt]
  omega
theorem tw_set {L : List Int} {v : Int} (h0 : 0 ≤ v) (h1 : v ≤ 65535) {i : Nat} (h : i + 2 ≤ L.length) : tw (splice L i (fxL v 2)) i = v := by
  have hl := fxL_length v 2
  obtain ⟨a, b⟩ := bt_fx2 h0 h1
  unfold tw
  rw [bt_splice (by omega), bt_splice (by omega), if_pos (by omega), if_pos (by omega), Nat.sub_self, show i + 1 - i = 1 by omega, a, b]
  omega
theorem tw_out {L cs : List Int} {o i : Nat} (h : o + cs.length ≤ L.length) (hi : i + 2 ≤ o ∨ o + cs.length ≤ i) : tw (splice L o cs) i = tw L i := by
  unfold tw
  rw [bt_splice h, bt_splice h, if_neg (by omega), if_neg (by omega)]
/-- All but one block of old is as it was. -/
structure Mut (w : World) (gb : Nat) (w' : World) : Prop where
  os : w'.os = w.os
  tape : w'.tape = w.tape
  output : w'.output = w.output
  size : w.heap.size ≤ w'.heap.size
  block : ∀ k, k < w.heap.size → k ≠ gb → w'.heap[k]? = w.heap[k]?
theorem Mut.refl (w : World) (gb : Nat) : Mut w gb w := ⟨rfl, rfl, rfl, Nat.le_refl _, fun _ _ _ => rfl⟩
theorem Mut.trans {w w1 w2 : World} {gb : Nat} (h : Mut w gb w1) (k : Mut w1 gb w2) : Mut w gb w2 :=
  ⟨k.os.trans h.os, k.tape.trans h.tape, k.output.trans h.output, Nat.le_trans h.size k.size, fun i hi hg => (k.block i (Nat.lt_of_lt_of_le hi h.size) hg).trans (h.block i hi hg)⟩
theorem Mut.of {w w' : World} (h : Below w.heap.size w w') (gb : Nat) : Mut w gb w' := ⟨h.os, h.tape, h.output, h.size, fun k hk _ => h.block k hk⟩
theorem Mut.row (w : World) (gb : Nat) (cs : Array Value) : Mut w gb (w.setRow gb cs) := ⟨rfl, rfl, rfl, by simp, fun k _ hk => setRow_other w gb k cs hk⟩
theorem Mut.below {w0 w w' : World} {gb B : Nat} (h : Mut w gb w') (h0 : Below B w0 w) (hB : B ≤ gb) (hw : B ≤ w.heap.size) : Below B w0 w' :=
  h0.trans ⟨h.os, h.tape, h.output, h.size, fun k hk => h.block k (by omega) (by omega)⟩
theorem Mut.drew {w w' : World} {gb : Nat} (h : Mut w gb w') : Mut w gb w'.drew := ⟨h.os, h.tape, h.output, h.size, h.block⟩
/-- The block of a page's bytes. -/
def Row (w : World) (gb : Nat) (L : List Int) (X : List Value) : Prop := w.heap[gb]? = some (.cells (vb L ++ X).toArray 5 (0, 0))
structure Pg (w : World) (g gb c h : Nat) (L : List Int) (X : List Value) : Prop where
  head : w.heap[g]? = some (.cells #[.slice (some ⟨gb, 0, none⟩) L.length c, .int .i64 (h : Int)] 91 (0, 0))
  row : Row w gb L X
  cap : L.length + X.length = c
  most : c ≤ maxLen
  byts : IsB L
theorem Row.keep {w w' : World} {gb : Nat} {L : List Int} {X : List Value} (h : Row w gb L X) (hb : Below w.heap.size w w') : Row w' gb L X :=
  (hb.block gb (Array.getElem?_eq_some_iff.1 h).1).trans h
theorem Pg.lt {w : World} {g gb c h : Nat} {L : List Int} {X : List Value} (p : Pg w g gb c h L X) : g < w.heap.size ∧ gb < w.heap.size := ⟨(Array.getElem?_eq_some_iff.1 p.head).1, (Array.getElem?_eq_some_iff.1 p.row).1⟩
theorem Pg.ne {w : World} {g gb c h : Nat} {L : List Int} {X : List Value} (p : Pg w g gb c h L X) : g ≠ gb := by
  intro e
  have h1 := p.head
  rw [e, p.row] at h1
  injection h1 with h1
  injection h1 with _ h2 _
  exact absurd h2 (by decide)
theorem Pg.keep {w w' : World} {g gb c h : Nat} {L : List Int} {X : List Value} (p : Pg w g gb c h L X) (hb : Below w.heap.size w w') : Pg w' g gb c h L X :=
  ⟨(hb.block g p.lt.1).trans p.head, p.row.keep hb, p.cap, p.most, p.byts⟩
/-- Its bytes are others. -/
theorem Pg.mut {w w' : World} {g gb c h : Nat} {L L' : List Int} {X : List Value} (p : Pg w g gb c h L X) (hm : Mut w gb w') (hr : Row w' gb L' X) (hl : L'.length = L.length) (hB : IsB L') : Pg w' g gb c h L' X :=
  ⟨by rw [hl]; exact (hm.block g p.lt.1 p.ne).trans p.head, hr, by rw [hl]; exact p.cap, p.most, hB⟩
/-- Another page's bytes were changed. -/
theorem Pg.other {w w' : World} {g gb c h : Nat} {L : List Int} {X : List Value} (p : Pg w g gb c h L X) {gb' : Nat} (hm : Mut w gb' w') (h1 : g ≠ gb') (h2 : gb ≠ gb') : Pg w' g gb c h L X :=
  ⟨(hm.block g p.lt.1 h1).trans p.head, (hm.block gb p.lt.2 h2).trans p.row, p.cap, p.most, p.byts⟩
theorem heap_cell {w : World} {g i : Nat} {cs : Array Value} {t : TypeId} {fr : Nat × Nat} (h : w.heap[g]? = some (.cells cs t fr)) : w.cell? ⟨g, i, none⟩ = cs[i]? := by simp [World.cell?, h]
theorem Pg.m0 {w : World} {g gb c h : Nat} {L : List Int} {X : List Value} (p : Pg w g gb c h L X) : w.cell? ⟨g, 0, none⟩ = some (.slice (some ⟨gb, 0, none⟩) L.length c) := by rw [heap_cell p.head]; rfl
theorem Pg.m1 {w : World} {g gb c h : Nat} {L : List Int} {X : List Value} (p : Pg w g gb c h L X) : w.cell? ⟨g, 1, none⟩ = some (.int .i64 (h : Int)) := by rw [heap_cell p.head]; rfl
theorem Pg.rd {w : World} {g gb c h : Nat} {L : List Int} {X : List Value} (p : Pg w g gb c h L X) : Rd w (some ⟨gb, 0, none⟩) L := by
  refine .inr ⟨gb, 0, rfl, fun i hi => ?_⟩
  rw [heap_cell p.row, Nat.zero_add, List.getElem?_toArray, List.getElem?_append_left (by rw [vb_length]; exact hi), bt_lt hi]
  simp [vb, hi]
theorem Pg.len {w : World} {g gb c h : Nat} {L : List Int} {X : List Value} (p : Pg w g gb c h L X) : L.length ≤ c ∧ c ≤ 9223372036854775807 := by
  have := p.cap
  have := p.most
  unfold maxLen at this
  omega
end
end Go.Proofs.Ytoeaffmlolapnaa
