/- Walks: num.Fixed, tomeref01.Fixed, tomeref01.Same. -/
import Derived.Test.YtbbdglikdogmhaaMem
import Derived.Test.YtbbdglikdogmhaaNumP
import Derived.BigQuiet
import Derived.Deep.QuietTactic
namespace Go.Proofs.Ytbbdglikdogmhaa
open Go.RowKit
set_option maxRecDepth 100000

theorem below_drewN {B : Nat} {a w : World} (h : Below B a w) (n : Nat) : Below B a (w.drewN n) := ⟨h.os, h.tape, h.output, h.size, h.block⟩
theorem eq_of_bt {l k : List Int} (hl : l.length = k.length) (h : ∀ q, q < l.length → bt l q = bt k q) : l = k := by
  apply List.ext_getElem hl
  intro i h1 h2
  have := h i h1
  rwa [bt_lt h1, bt_lt h2] at this
theorem fixed_nil (n size : Int) (h : size < 1 ∨ 8 < size) : fixedL n size = [] := by rw [fixedL, if_pos h]
theorem fixed_nat (n : Int) (k : Nat) (h1 : 1 ≤ k) (h8 : k ≤ 8) : fixedL n k = fxL n k := by rw [fixedL, if_neg (by omega), Int.toNat_natCast]
theorem zeros_set (k j : Nat) (hj : j < k) (s : List Int) (x : Int) : (List.replicate (k - j) 0 ++ s).set (k - 1 - j) x = List.replicate (k - (j + 1)) 0 ++ x :: s := by
  have e : k - j = (k - 1 - j) + 1 := by omega
  rw [e, List.replicate_succ', List.append_assoc, show k - (j + 1) = k - 1 - j by omega]
  rw [List.set_append_right _ _ (by simp)]
  simp

theorem pow_256 (j : Nat) : (2 : Int) ^ (8 * j) = 256 ^ j := by rw [Int.pow_mul]; rfl

def FixRel (w : World) (n : Int) (k : Nat) (i : Value) (wr : World) : Prop :=
  ∃ j : Nat, j ≤ k ∧ i = .int .i64 j ∧ OwnB wr w.heap.size (some ⟨w.heap.size, 0, none⟩) k k (List.replicate (k - j) 0 ++ fxL n j) ∧ Below w.heap.size w wr

set_option maxHeartbeats 2000000 in
theorem fixed_any (w : World) (n size : Int) (_hn0 : 0 ≤ n) (_hn1 : n ≤ 18446744073709551615) :
    Calls Try.prog 50 #[.int .u64 n, .int .i64 size] w (BytesBack w (fixedL n size)) := by
  by_cases hs : size < 1 ∨ 8 < size
  · rw [fixed_nil n size hs]
    rcases hs with hs | hs
    · go_enter Try.func50, Try.ntmps50
      go_wp2_with fail
      go_ret
      exact ⟨none, 0, 0, rfl, OwnB.nil _ _, Below.refl _ _⟩
    · have hs' : ¬ size < 1 := by omega
      go_enter Try.func50, Try.ntmps50
      go_wp2_with fail
      go_ret
      exact ⟨none, 0, 0, rfl, OwnB.nil _ _, Below.refl _ _⟩
  · obtain ⟨k, rfl⟩ := Int.eq_ofNat_of_zero_le (show 0 ≤ size by omega)
    have h1 : 1 ≤ k := by omega
    have h8 : k ≤ 8 := by omega
    clear hs
    rw [fixed_nat n k h1 h8]
    have hmk := fun W => run_mk k k (Nat.le_refl _) (by omega) W
    go_enter Try.func50, Try.ntmps50
    go_wp2_with fail
    go_loopw [16] (fun i wr => FixRel w n k i wr) (fun i _ => k - (intOf i).toNat)
    case atStart => exact ⟨0, Nat.zero_le _, rfl, by simpa [fxL] using OwnB.zeros w w.heap.size k (Nat.le_refl _) (by unfold maxLen; omega), (Below.refl _ _).alloc (Nat.le_refl _) _⟩
    case round =>
      clear hmk
      obtain ⟨j, hj, rfl, hown, hb⟩ := hrel
      by_cases hlt : j < k
      · have hc := hown.cellAt (k - 1 - j) (by omega)
        have hf := hown.frozenAt (k - 1 - j)
        have HO := Lib.hid hown; clear hown
        have ht : ((k : Int) - 1 - (j : Int)).toNat = k - 1 - j := by omega
        go_wp2_with fail
        go_roundw
        case rel =>
          refine ⟨j + 1, by omega, by go_num, ?_, hb.setCell (Nat.le_refl _) _⟩
          rw [fxL, ← zeros_set k j hlt, ← pow_256]
          exact HO.out.stored _ _
        case measure => simp [intOf]; omega
      · obtain rfl : j = k := by omega
        have HO := Lib.hid hown; clear hown
        go_wp2_with fail
        go_ret
        exact ⟨_, _, _, rfl, by simpa using HO.out, hb⟩

def RFixRel (w : World) (n : Int) (k : Nat) (m i : Value) (wr : World) : Prop :=
  ∃ j : Nat, j ≤ k ∧ i = .int .i64 ((k : Int) - 1 - (j : Int)) ∧ m = .int .u64 (n / 256 ^ j) ∧ OwnB wr w.heap.size (some ⟨w.heap.size, 0, none⟩) k k (List.replicate (k - j) 0 ++ fxL n j) ∧ Below w.heap.size w wr

theorem div256 (n : Int) (j : Nat) : n / 256 ^ j / 256 = n / 256 ^ (j + 1) := by
  rw [Int.pow_succ, Int.ediv_ediv_of_nonneg (Int.le_of_lt (Int.pow_pos (by decide)))]
theorem div256_bd (n : Int) (j : Nat) (h0 : 0 ≤ n) (h1 : n ≤ 18446744073709551615) : 0 ≤ n / 256 ^ j ∧ n / 256 ^ j ≤ 18446744073709551615 := by
  have hp : (0 : Int) < 256 ^ j := Int.pow_pos (by decide)
  refine ⟨Int.ediv_nonneg h0 (Int.le_of_lt hp), ?_⟩
  have := Int.ediv_le_self (256 ^ j) h0
  omega

set_option maxHeartbeats 2000000 in
theorem rfixed_any (w : World) (n size : Int) (hn0 : 0 ≤ n) (hn1 : n ≤ 18446744073709551615) :
    Calls Try.prog 52 #[.int .u64 n, .int .i64 size] w (BytesBack w (fixedL n size)) := by
  by_cases hs : size < 1 ∨ 8 < size
  · rw [fixed_nil n size hs]
    rcases hs with hs | hs
    · go_enter Try.func52, Try.ntmps52
      go_wp2_with fail
      go_ret
      exact ⟨none, 0, 0, rfl, OwnB.nil _ _, Below.refl _ _⟩
    · have hs' : ¬ size < 1 := by omega
      go_enter Try.func52, Try.ntmps52
      go_wp2_with fail
      go_ret
      exact ⟨none, 0, 0, rfl, OwnB.nil _ _, Below.refl _ _⟩
  · obtain ⟨k, rfl⟩ := Int.eq_ofNat_of_zero_le (show 0 ≤ size by omega)
    have h1 : 1 ≤ k := by omega
    have h8 : k ≤ 8 := by omega
    clear hs
    rw [fixed_nat n k h1 h8]
    have hmk := fun W => run_mk k k (Nat.le_refl _) (by omega) W
    go_enter Try.func52, Try.ntmps52
    go_wp2_with fail
    go_loopw [0, 6] (fun m i wr => RFixRel w n k m i wr) (fun _ i _ => ((intOf i) + 1).toNat)
    case atStart => exact ⟨0, Nat.zero_le _, by go_num, by simp, by simpa [fxL] using OwnB.zeros w w.heap.size k (Nat.le_refl _) (by unfold maxLen; omega), (Below.refl _ _).alloc (Nat.le_refl _) _⟩
    case round =>
      clear hmk
      obtain ⟨j, hj, rfl, rfl, hown, hb⟩ := hrel
      obtain ⟨d0, d1⟩ := div256_bd n j hn0 hn1
      obtain ⟨m, hm⟩ : ∃ x, x = n / 256 ^ j := ⟨_, rfl⟩
      rw [← hm] at d0 d1 ⊢
      have HM := Lib.hid hm; clear hm
      by_cases hlt : j < k
      · have hc := hown.cellAt (k - 1 - j) (by omega)
        have hf := hown.frozenAt (k - 1 - j)
        have HO := Lib.hid hown; clear hown
        have ht : ((k : Int) - 1 - (j : Int)).toNat = k - 1 - j := by omega
        go_wp2_with fail
        go_roundw
        case rel =>
          refine ⟨j + 1, by omega, by go_num, by rw [← div256, ← HM.out], ?_, hb.setCell (Nat.le_refl _) _⟩
          rw [fxL, ← zeros_set k j hlt, ← HM.out]
          exact HO.out.stored _ _
        case measure => simp [intOf]; omega
      · obtain rfl : j = k := by omega
        have HO := Lib.hid hown; clear hown
        go_wp2_with fail
        go_ret
        exact ⟨_, _, _, rfl, by simpa using HO.out, hb⟩

set_option maxHeartbeats 2000000 in
theorem same1_any (w : World) (A B : Option Addr) (n c m d : Nat) (l k : List Int) (hl : l.length = n) (hk : k.length = m) (hn : n ≤ 9223372036854775807) (hA : Rd w A l) (hB : Rd w B k) :
    Calls Try.prog 13 #[.slice A n c, .slice B m d] w fun e w' => e = .returned (.bool (beqL l k)) ∧ Below w.heap.size w w' := by
  have HL := Lib.hid hl; clear hl
  have HK := Lib.hid hk; clear hk
  have HA := Lib.hid hA; clear hA
  have HB := Lib.hid hB; clear hB
  by_cases hnm : n = m
  · subst hnm
    have hne : ((n : Int) != (n : Int)) = false := by simp
    go_enter Try.func13, Try.ntmps13
    go_wp2_with fail
    go_loopw [5] (fun i wr => ∃ j : Nat, j ≤ n ∧ i = .int .i64 j ∧ Hid (∀ q, q < j → bt l q = bt k q) ∧ Below w.heap.size w wr) (fun i _ => n - (intOf i).toNat)
    case atStart => exact ⟨0, Nat.zero_le _, rfl, fun q hq => absurd hq (by omega), Below.refl _ _⟩
    case round =>
      obtain ⟨j, hj, rfl, HE, hb⟩ := hrel
      by_cases hlt : j < n
      · obtain ⟨b1, o1, hA', _, hc1⟩ := Rd.at (HA.out.keep hb) (by rw [HL.out]; omega)
        obtain ⟨b2, o2, hB', _, hc2⟩ := Rd.at (HB.out.keep hb) (by rw [HK.out]; omega)
        have c1 := hc1 j (by rw [HL.out]; omega)
        have c2 := hc2 j (by rw [HK.out]; omega)
        subst hA'
        subst hB'
        clear hc1 hc2
        have i0 : (0 : Int) ≤ (j : Int) := by omega
        have i1 : (j : Int) < (n : Int) := by omega
        by_cases he : bt l j = bt k j
        · have hne2 : (bt l j != bt k j) = false := by simp [he]
          have HEE := Lib.hid he; clear he
          go_wp2_with fail
          go_quiet (fail)
          go_wp2_with fail
          go_roundw
          case rel =>
            refine ⟨j + 1, by omega, by go_num, fun q hq => ?_, below_drewN hb _⟩
            by_cases hqj : q < j
            · exact HE.out q hqj
            · obtain rfl : q = j := by omega
              exact HEE.out
          case measure => simp [intOf]; omega
        · have hne2 : (bt l j != bt k j) = true := by simp [he]
          go_wp2_with fail
          go_quiet (fail)
          go_wp2
          go_ret
          refine ⟨ret_bool ?_, below_drewN hb _⟩
          rw [eq_comm, beqL_no]
          rintro rfl
          exact he rfl
      · obtain rfl : j = n := by omega
        go_wp2_with fail
        go_ret
        refine ⟨ret_bool ?_, hb⟩
        rw [eq_comm, beqL_iff]
        exact eq_of_bt (by rw [HL.out, HK.out]) (by rw [HL.out]; exact HE.out)
  · have hne : ((n : Int) != (m : Int)) = true := by simp; omega
    go_enter Try.func13, Try.ntmps13
    go_wp2_with fail
    go_ret
    refine ⟨ret_bool ?_, Below.refl _ _⟩
    rw [eq_comm, beqL_no]
    rintro rfl
    exact hnm (HL.out.symm.trans HK.out)
end Go.Proofs.Ytbbdglikdogmhaa
