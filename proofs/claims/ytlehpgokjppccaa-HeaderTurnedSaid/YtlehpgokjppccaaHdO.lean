/- The walk of the law HeaderTurned. -/
import Derived.Test.YtlehpgokjppccaaHdN
import Derived.Test.YtlehpgokjppccaaSumD
namespace Go.Proofs.Ytlehpgokjppccaa
open Go.RowKit
set_option maxRecDepth 100000

set_option maxHeartbeats 8000000 in
theorem hturned_walk (w : World) (h : Hd) (a b : Int) (hok : h.ok) (_ha : -9223372036854775808 ≤ a ∧ a ≤ 9223372036854775807) (hb : 0 ≤ b ∧ b ≤ 4294967295) :
    Calls Try.prog 5 #[h.val, .int .i64 a, .int .u32 b] w (HYes w) := by
  have HOK := Lib.hid hok; clear hok
  obtain ⟨hb0, hb1⟩ := hb
  obtain ⟨W1, hW1⟩ : ∃ W, W = w.alloc (.cells #[.int .i64 h.s, .int .i64 h.p, .int .i64 h.f, .int .i64 h.m, .int .i64 h.c, .int .i64 h.v] 23) := ⟨_, rfl⟩
  have hbW : Below w.heap.size w W1 := by rw [hW1]; exact (Below.refl _ _).alloc (Nat.le_refl _) _
  have hsW : W1.heap.size = w.heap.size + 1 := by rw [hW1]; simp
  have hat : HdAt W1 w.heap.size h := by
    rw [hW1]
    exact HdAt.of (by simp [go_sem]) (by simp [go_sem]) (by simp [go_sem]) (by simp [go_sem]) (by simp [go_sem]) (by simp [go_sem])
  have HT := Lib.hid hat; clear hat
  have HW := Lib.hid hW1
  unfold Hd.val
  go_enter Try.func5, Try.ntmps5
  go_wp2_with fail
  rw [← hW1]
  clear hW1 HW
  refine (hawake_any _).mono ?_
  rintro e w1 ⟨rfl, hb1'⟩
  have hB1 : Below w.heap.size w w1 := hbW.trans (hb1'.mono (by omega))
  have HT1 := Lib.hid (HT.out.keep hb1' (by omega)); clear HT
  have hz1 := hb1'.size
  clear hb1'
  obtain ⟨k0, k1, k2, k3, k4, k5⟩ := HT1.out.all
  go_wp2_with fail
  refine (rcheck_any _ h HOK.out).mono ?_
  rintro e w2 ⟨rfl, hb2⟩
  have hB2 := hB1.trans (hb2.mono hB1.size)
  have hz2 := hb2.size
  have HT2 := Lib.hid (HT1.out.keep hb2 (by omega)); clear HT1
  clear hb2 k0 k1 k2 k3 k4 k5
  by_cases hg : h.good
  · have hc : checkI h = 0 := check_yes hg
    have HG := Lib.hid hg; clear hg
    simp only [hc]
    obtain ⟨k0, k1, k2, k3, k4, k5⟩ := HT2.out.all
    go_wp2_with fail
    refine (rencode_any _ h HOK.out).mono ?_
    rintro e w3 ⟨A3, n3, c3, rfl, hown, hb3⟩
    simp only [hc]
    clear hc
    rw [encL_yes HG.out] at hown
    have hn3 : 64 = n3 := by rw [← hown.len, headL_length]
    subst hn3
    have hB3 := hB2.trans (hb3.mono hB2.size)
    have hz3 := hb3.size
    have HT3 := Lib.hid (HT2.out.keep hb3 (by omega)); clear HT2
    have HO3 := Lib.hid hown; clear hown hb3 k0 k1 k2 k3 k4 k5
    obtain ⟨i, hi, hrem⟩ := rem_nat (IntKind.u64.wrap a) 41 (by decide)
    have hrem' : IntKind.u64.wrap a % 41 = (i : Int) := hrem
    clear hrem
    obtain ⟨q, hqi⟩ : ∃ q : Nat, q = 16 + i := ⟨_, rfl⟩
    have hq40 : q ≤ 56 := by omega
    obtain ⟨m0, m1⟩ := u64_wrap_bd a
    have hq : wrap64 (16 + wrap64 ((IntKind.u64.wrap a).tmod 41)) = (q : Int) := by
      rw [Int.tmod_eq_emod_of_nonneg m0, hrem', show wrap64 (i : Int) = (i : Int) from IntWalk.wrap64_in _ (by omega), hqi]
      exact IntWalk.wrap64_in _ (by omega)
    have HQQ := Lib.hid hq; clear hq hrem' m0 m1
    have HQI := Lib.hid hqi; clear hqi
    obtain ⟨C, hC⟩ : ∃ C, C = (turnN q (headL h) b 4).1 := ⟨_, rfl⟩
    have HCe := Lib.hid hC
    have hCl : C.length = 64 := by rw [hC, turnN_length, headL_length]
    have hCB : IsB C := by rw [hC]; exact turnN_isB (headL_isB h) _ _ _
    have HCB := Lib.hid hCB; clear hCB
    have HCL := Lib.hid hCl; clear hCl
    go_wp2_with fail
    rw [HQQ.out]
    refine (turned_any _ A3 64 c3 (headL h) q b (headL_length h) (by decide) (by omega) hb0 hb1 HO3.out.rd).mono ?_
    rintro e w4 ⟨A4, n4, c4, rfl, hown, hb4⟩
    rw [← hC] at hown
    clear hC
    have hn4 : 64 = n4 := by rw [← hown.len, HCL.out]
    subst hn4
    have hB4 := hB3.trans (hb4.mono hB3.size)
    have hz4 := hb4.size
    have HT4 := Lib.hid (HT3.out.keep hb4 (by omega)); clear HT3
    have HO4 := Lib.hid hown; clear hown
    have HO5 := Lib.hid (HO3.out.keep hb4); clear HO3 hb4
    go_wp2_with fail
    refine (decode_any _ A4 64 c4 C HCL.out HO4.out.cap.1 HO4.out.cap.2 HO4.out.rd HCB.out).mono ?_
    rintro e w5 ⟨rfl, hb5⟩
    have hB5 := hB4.trans (hb5.mono hB4.size)
    have hz5 := hb5.size
    have HT5 := Lib.hid (HT4.out.keep hb5 (by omega)); clear HT4
    have HO6 := Lib.hid (HO4.out.keep hb5); clear HO4
    have HO7 := Lib.hid (HO5.out.keep hb5); clear HO5 hb5
    by_cases he : headL h = C
    · have hd : decL C = (h, 0) := by
        have := decL_back HG.out []
        rwa [List.append_nil, he] at this
      have hq : beqL (headL h) C = true := by rw [he, beqL_self]
      simp only [hd, Hd.val]
      clear hd he
      have hat : HdAt (w5.alloc (.cells #[.int .i64 h.s, .int .i64 h.p, .int .i64 h.f, .int .i64 h.m, .int .i64 h.c, .int .i64 h.v] 23)) w5.heap.size h :=
        HdAt.of (by simp [go_sem]) (by simp [go_sem]) (by simp [go_sem]) (by simp [go_sem]) (by simp [go_sem]) (by simp [go_sem])
      have HT6 := Lib.hid hat; clear hat
      have HQ := Lib.hid hq; clear hq
      have hbx : Below w5.heap.size w5 (w5.alloc (.cells #[.int .i64 h.s, .int .i64 h.p, .int .i64 h.f, .int .i64 h.m, .int .i64 h.c, .int .i64 h.v] 23)) := (Below.refl _ _).alloc (Nat.le_refl _) _
      go_wp2_with fail
      refine (same1_any _ A3 A4 64 c3 64 c4 _ C HO7.out.len HO6.out.len (by decide) (HO7.out.keep hbx).rd (HO6.out.keep hbx).rd).mono ?_
      rintro e w6 ⟨rfl, hb6⟩
      simp only [HQ.out]
      have HT7 := Lib.hid (HT6.out.keep hb6 (by simp)); clear HT6
      have HT8 := Lib.hid ((HT5.out.keep hbx (by omega)).keep hb6 (by simp; omega)); clear HT5
      have hB6 : Below w.heap.size w w6 := (hB5.trans (hbx.mono hB5.size)).trans (hb6.mono (by simp; omega))
      clear hb6
      obtain ⟨k0, k1, k2, k3, k4, k5⟩ := HT7.out.all
      obtain ⟨m0, m1, m2, m3, m4, m5⟩ := HT8.out.all
      go_wp2
      go_ret
      exact ⟨rfl, hB6⟩
    · have hd : decL C = (zeroH, 14) := by
        have := decL_turned HG.out (i := i) (by omega) b (by rw [← HQI.out, ← HCe.out]; exact fun e => he e.symm)
        rwa [← HQI.out, ← HCe.out] at this
      have hq : beqL (headL h) C = false := by rw [beqL_no]; exact he
      simp only [hd, Hd.val, zeroH]
      clear hd he
      have HQ := Lib.hid hq; clear hq
      have hat : HdAt (w5.alloc (.cells #[.int .i64 0, .int .i64 0, .int .i64 0, .int .i64 0, .int .i64 0, .int .i64 0] 23)) w5.heap.size zeroH :=
        HdAt.of (by simp [go_sem, zeroH]) (by simp [go_sem, zeroH]) (by simp [go_sem, zeroH]) (by simp [go_sem, zeroH]) (by simp [go_sem, zeroH]) (by simp [go_sem, zeroH])
      have HT6 := Lib.hid hat; clear hat
      have hbx : Below w5.heap.size w5 (w5.alloc (.cells #[.int .i64 0, .int .i64 0, .int .i64 0, .int .i64 0, .int .i64 0, .int .i64 0] 23)) := (Below.refl _ _).alloc (Nat.le_refl _) _
      go_wp2_with fail
      refine (same1_any _ A3 A4 64 c3 64 c4 _ C HO7.out.len HO6.out.len (by decide) (HO7.out.keep hbx).rd (HO6.out.keep hbx).rd).mono ?_
      rintro e w6 ⟨rfl, hb6⟩
      simp only [HQ.out]
      have HT7 := Lib.hid (HT6.out.keep hb6 (by simp)); clear HT6
      have hB6 : Below w.heap.size w w6 := (hB5.trans (hbx.mono hB5.size)).trans (hb6.mono (by simp; omega))
      clear hb6
      obtain ⟨k0, k1, k2, k3, k4, k5⟩ := HT7.out.all
      simp only [zeroH] at k0 k1 k2 k3 k4 k5
      go_wp2
      go_ret
      exact ⟨rfl, hB6⟩
  · have hc : checkI h = 1 := check_no hg
    clear hg
    simp only [hc]
    clear hc
    go_wp2_with fail
    refine (hawake_any _).mono ?_
    rintro e w3 ⟨rfl, hb3⟩
    have hB3 := hB2.trans (hb3.mono hB2.size)
    go_wp2
    go_ret
    exact ⟨rfl, hB3⟩
end Go.Proofs.Ytlehpgokjppccaa
