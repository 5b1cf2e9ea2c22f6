/- Walks: num.Read, tomeref01.Read. -/
import Derived.Test.YtbbdglikdogmhaaNumA
namespace Go.Proofs.Ytbbdglikdogmhaa
open Go.RowKit
set_option maxRecDepth 100000

/-- What Read gives: the number, and the error. -/
def readL (l : List Int) (at_ size : Int) : Int × Int :=
  if size < 1 ∨ 8 < size ∨ at_ < 0 then (0, 1) else if (l.length : Int) < at_ ∨ (l.length : Int) - at_ < size then (0, 6) else (beI ((l.drop at_.toNat).take size.toNat), 0)
theorem readL_arg {l : List Int} {at_ size : Int} (h : size < 1 ∨ 8 < size ∨ at_ < 0) : readL l at_ size = (0, 1) := by rw [readL, if_pos h]
theorem readL_short {l : List Int} {at_ size : Int} (h : ¬ (size < 1 ∨ 8 < size ∨ at_ < 0)) (h2 : (l.length : Int) < at_ ∨ (l.length : Int) - at_ < size) : readL l at_ size = (0, 6) := by rw [readL, if_neg h, if_pos h2]
theorem readL_ok {l : List Int} {p k : Nat} (h1 : 1 ≤ k) (h8 : k ≤ 8) (h : p + k ≤ l.length) : readL l p k = (beI ((l.drop p).take k), 0) := by
  rw [readL, if_neg (by omega), if_neg (by omega), Int.toNat_natCast, Int.toNat_natCast]
theorem bt_drop (l : List Int) (p i : Nat) : bt (l.drop p) i = bt l (p + i) := by simp [bt]
theorem be_step {l : List Int} {p j : Nat} (h : p + j < l.length) : beI ((l.drop p).take (j + 1)) = beI ((l.drop p).take j) * 256 + bt l (p + j) := by
  rw [take_succ_bt (by simp; omega), beI_snoc, bt_drop]
theorem be_bd {l : List Int} (hB : IsB l) (p j : Nat) (hj : j < 8) : 0 ≤ beI ((l.drop p).take j) ∧ beI ((l.drop p).take j) < 72057594037927936 := by
  have h := beI_lt (l := (l.drop p).take j) (fun x hx => hB x (List.mem_of_mem_drop (List.mem_of_mem_take hx))) 7 (by simp; omega)
  exact h
theorem or256 {a x : Int} (h0 : 0 ≤ a) (h1 : a < 72057594037927936) (x0 : 0 ≤ x) (x1 : x ≤ 255) : bits .or .u64 (a * 256) x = a * 256 + x := by
  obtain ⟨a, rfl⟩ := Int.eq_ofNat_of_zero_le h0
  obtain ⟨x, rfl⟩ := Int.eq_ofNat_of_zero_le x0
  have h := u64_or_nat (a * 256) x (by omega) (by omega)
  rw [nat_join 8 (a * 256) x (by omega) (by omega)] at h
  simpa using h

set_option maxRecDepth 100000 in
set_option maxHeartbeats 4000000 in
theorem read_any (w : World) (A : Option Addr) (n c : Nat) (l : List Int) (at_ size : Int) (hn : l.length = n) (hnc : n ≤ c) (hcm : c ≤ maxLen) (hA : Rd w A l) (hB : IsB l) (ha : -9223372036854775808 ≤ at_ ∧ at_ ≤ 9223372036854775807) :
    Calls Try.prog 67 #[.slice A n c, .int .i64 at_, .int .i64 size] w fun e w' => e = .returned (.tuple #[.int .u64 (readL l at_ size).1, .int .i64 (readL l at_ size).2]) ∧ w = w' := by
  unfold maxLen at hcm
  have HN := Lib.hid hn; clear hn
  have HA := Lib.hid hA; clear hA
  have HB := Lib.hid hB; clear hB
  by_cases h1 : size < 1 ∨ 8 < size ∨ at_ < 0
  · rw [readL_arg h1]
    rcases (show size < 1 ∨ (1 ≤ size ∧ 8 < size) ∨ (1 ≤ size ∧ size ≤ 8 ∧ at_ < 0) by omega) with h | ⟨h, h'⟩ | ⟨h, h', h''⟩
    all_goals
      clear h1
      go_enter Try.func67, Try.ntmps67
      go_wp2_with fail
      go_ret2
      exact ⟨rfl, rfl⟩
  by_cases h2 : (l.length : Int) < at_ ∨ (l.length : Int) - at_ < size
  · rw [readL_short h1 h2]
    rw [HN.out] at h2
    have g1 : 1 ≤ size := by omega
    have g2 : size ≤ 8 := by omega
    have g3 : 0 ≤ at_ := by omega
    clear h1
    rcases (show (n : Int) < at_ ∨ (at_ ≤ (n : Int) ∧ (n : Int) - at_ < size) by omega) with h | ⟨h, h'⟩
    all_goals
      clear h2
      go_enter Try.func67, Try.ntmps67
      go_wp2_with fail
      go_ret2
      exact ⟨rfl, rfl⟩
  · obtain ⟨k, rfl⟩ := Int.eq_ofNat_of_zero_le (show 0 ≤ size by omega)
    obtain ⟨p, rfl⟩ := Int.eq_ofNat_of_zero_le (show 0 ≤ at_ by omega)
    have k1 : 1 ≤ k := by omega
    have k8 : k ≤ 8 := by omega
    have hpk : p + k ≤ n := by have := HN.out; omega
    clear h1 h2
    rw [readL_ok k1 k8 (by rw [HN.out]; exact hpk)]
    obtain ⟨b, off, hA', _, hcell⟩ := Rd.at HA.out (by rw [HN.out]; omega)
    subst hA'
    have HC := Lib.hid hcell; clear hcell
    have hcp : ¬ c = p := by omega
    go_enter Try.func67, Try.ntmps67
    go_wp2_with fail
    go_loop [8, 42] (fun z i => ∃ j : Nat, j ≤ k ∧ i = .int .i64 j ∧ z = .int .u64 (beI ((l.drop p).take j))) (fun _ i => k - (intOf i).toNat)
    case atStart => exact ⟨0, Nat.zero_le _, rfl, by simp [beI]⟩
    case round =>
      obtain ⟨j, hj, rfl, rfl⟩ := hrel
      by_cases hlt : j < k
      · obtain ⟨b0, b1⟩ := be_bd HB.out p j (by omega)
        have hstep := be_step (l := l) (p := p) (j := j) (by rw [HN.out]; omega)
        have hx := HC.out (p + j) (by rw [HN.out]; omega)
        obtain ⟨x0, x1⟩ := IsB.bt HB.out (p + j)
        have hor := or256 b0 b1 x0 x1
        obtain ⟨a, ha'⟩ : ∃ x, x = beI ((l.drop p).take j) := ⟨_, rfl⟩
        rw [← ha'] at b0 b1 hstep hor ⊢
        have HS := Lib.hid hstep; clear hstep ha'
        rw [← Nat.add_assoc] at hx
        go_wp2_with fail
        go_round
        case rel => exact ⟨j + 1, by omega, by go_num, by rw [HS.out]⟩
        case measure => simp [intOf]; omega
      · obtain rfl : j = k := by omega
        go_wp2_with fail
        go_ret2
        exact ⟨rfl, rfl⟩

end Go.Proofs.Ytbbdglikdogmhaa
