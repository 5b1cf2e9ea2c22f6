/- The walk of the law HeaderEncodes. -/
import Derived.Test.YtlehpgokjppccaaHdL
import Derived.Test.YtlehpgokjppccaaHdK
namespace Go.Proofs.Ytlehpgokjppccaa
open Go.RowKit
set_option maxRecDepth 100000

set_option maxHeartbeats 8000000 in
theorem hencodes_walk (w : World) (h : Hd) (A : Option Addr) (n c : Nat) (l : List Int) (hok : h.ok) (hn : l.length = n) (_hnc : n ≤ c) (_hcm : c ≤ maxLen) (hA : Rd w A l) (hB : IsB l) :
    Calls Try.prog 3 #[h.val, .slice A n c] w (HYes w) := by
  have HOK := Lib.hid hok; clear hok
  have HN := Lib.hid hn; clear hn
  have HA := Lib.hid hA; clear hA
  have HB := Lib.hid hB; clear hB
  obtain ⟨W1, hW1⟩ : ∃ W, W = w.alloc (.cells #[.int .i64 h.s, .int .i64 h.p, .int .i64 h.f, .int .i64 h.m, .int .i64 h.c, .int .i64 h.v] 23) := ⟨_, rfl⟩
  have hbW : Below w.heap.size w W1 := by rw [hW1]; exact (Below.refl _ _).alloc (Nat.le_refl _) _
  have hsW : W1.heap.size = w.heap.size + 1 := by rw [hW1]; simp
  have hat : HdAt W1 w.heap.size h := by
    rw [hW1]
    exact HdAt.of (by simp [go_sem]) (by simp [go_sem]) (by simp [go_sem]) (by simp [go_sem]) (by simp [go_sem]) (by simp [go_sem])
  have HT := Lib.hid hat; clear hat
  have HW := Lib.hid hW1
  unfold Hd.val
  go_enter Try.func3, Try.ntmps3
  go_wp2_with fail
  rw [← hW1]
  clear hW1 HW
  refine (hawake_any _).mono ?_
  rintro e w1 ⟨rfl, hb1⟩
  have hB1 : Below w.heap.size w w1 := hbW.trans (hb1.mono (by omega))
  have HT1 := Lib.hid (HT.out.keep hb1 (by omega)); clear HT
  have hz1 := hb1.size
  clear hb1
  by_cases hg : 5000 < n
  · go_wp2_with fail
    refine (hawake_any _).mono ?_
    rintro e w2 ⟨rfl, hb2⟩
    have hB2 := hB1.trans (hb2.mono hB1.size)
    go_wp2
    go_ret
    exact ⟨rfl, hB2⟩
  · obtain ⟨k0, k1, k2, k3, k4, k5⟩ := HT1.out.all
    go_wp2_with fail
    refine (encode_any _ h HOK.out).mono ?_
    rintro e w2 ⟨A2, n2, c2, rfl, hown, hb2⟩
    have hB2 := hB1.trans (hb2.mono hB1.size)
    have hz2 := hb2.size
    have HT2 := Lib.hid (HT1.out.keep hb2 (by omega)); clear HT1
    have HO := Lib.hid hown; clear hown hb2 k0 k1 k2 k3 k4 k5
    obtain ⟨k0, k1, k2, k3, k4, k5⟩ := HT2.out.all
    go_wp2_with fail
    refine (rencode_any _ h HOK.out).mono ?_
    rintro e w3 ⟨A3, n3, c3, rfl, hown, hb3⟩
    have hB3 := hB2.trans (hb3.mono hB2.size)
    have hz3 := hb3.size
    have HT3 := Lib.hid (HT2.out.keep hb3 (by omega)); clear HT2
    have HO3 := Lib.hid hown; clear hown
    have HO2 := Lib.hid (HO.out.keep hb3); clear HO hb3 k0 k1 k2 k3 k4 k5
    obtain ⟨k0, k1, k2, k3, k4, k5⟩ := HT3.out.all
    go_wp2_with fail
    refine (check_any _ h HOK.out).mono ?_
    rintro e w4 ⟨rfl, hb4⟩
    have hB4 := hB3.trans (hb4.mono hB3.size)
    have hz4 := hb4.size
    have HT4 := Lib.hid (HT3.out.keep hb4 (by omega)); clear HT3
    have HO4 := Lib.hid (HO2.out.keep hb4); clear HO2
    have HO5 := Lib.hid (HO3.out.keep hb4); clear HO3 hb4 k0 k1 k2 k3 k4 k5
    obtain ⟨k0, k1, k2, k3, k4, k5⟩ := HT4.out.all
    by_cases hgd : h.good
    · have hc : checkI h = 0 := check_yes hgd
      have HE := Lib.hid (encL_yes hgd)
      have HBK := Lib.hid (decL_back hgd l)
      have HG := Lib.hid hgd; clear hgd
      simp only [hc]
      clear hc
      go_wp2_with fail
      refine (same1_any _ A2 A3 n2 c2 n3 c3 _ _ HO4.out.len HO5.out.len (by have := HO4.out.cap; unfold maxLen at this; omega) HO4.out.rd HO5.out.rd).mono ?_
      rintro e w5 ⟨rfl, hb5⟩
      simp only [beqL_self]
      have hB5 := hB4.trans (hb5.mono hB4.size)
      have hz5 := hb5.size
      have HT5 := Lib.hid (HT4.out.keep hb5 (by omega)); clear HT4
      have HO6 := Lib.hid (HO4.out.keep hb5); clear HO4 HO5 hb5 k0 k1 k2 k3 k4 k5
      have hO := HO6.out
      rw [HE.out] at hO
      have hn2 : 64 = n2 := by rw [← hO.len, headL_length]
      subst hn2
      have HO7 := Lib.hid hO; clear hO HO6
      have hba : Below w5.heap.size w5 (w5.alloc (.cells #[] 5)) := (Below.refl _ _).alloc (Nat.le_refl _) _
      have HRA := Lib.hid ((HO7.out.keep hba).rd)
      have HAA := Lib.hid (HA.out.keep hB5)
      go_wp2_with (at_builtin; first
        | (refine wp_append rfl (.tmp 47) (.tmp 48) rfl w5.heap.size _ _ _ [] rfl (OwnB.lit w5 #[] [] _ 0 rfl rfl (Nat.le_refl _) (by decide)) A2 64 c2 (headL h) rfl HO7.out.len HRA.out (by omega) (by simp) ?_; intro A6 c6 w6 hown6 _ hb6; have hb6' : Below w5.heap.size w5 w6 := hba.trans hb6; clear hb6; have HO8 := Lib.hid hown6; clear hown6; have hz6 := hb6'.size)
        | (refine wp_append rfl (.tmp 49) (.tmp 50) rfl w5.heap.size A6 (0 + 64) c6 _ rfl HO8.out A n c l rfl HN.out (HAA.out.keep hb6') (by omega) (by omega) ?_; intro A7 c7 w7 hown7 _ hb7; have hb7' : Below w5.heap.size w5 w7 := hb6'.trans hb7; have HO9 := Lib.hid hown7; clear hown7 hb7; have hz7 := hb7'.size))
      have hO9 : OwnB w7 w5.heap.size A7 (64 + n) c7 (headL h ++ l) := by simpa using HO9.out
      have HO10 := Lib.hid hO9; clear hO9 HO9 HO8
      refine (decode_any _ A7 (64 + n) c7 (headL h ++ l) HO10.out.len HO10.out.cap.1 HO10.out.cap.2 HO10.out.rd (isB_append (headL_isB h) HB.out)).mono ?_
      rintro e w8 ⟨rfl, hb8⟩
      simp only [HBK.out, Hd.val]
      have hB7 : Below w.heap.size w w7 := hB5.trans (hb7'.mono hB5.size)
      have hB8 := hB7.trans (hb8.mono hB7.size)
      have HT8 := Lib.hid ((HT5.out.keep hb7' (by omega)).keep hb8 (by omega)); clear HT5
      have hlt : w.heap.size < w8.heap.size := by have := hb8.size; omega
      clear hb8
      obtain ⟨k0, k1, k2, k3, k4, k5⟩ := HT8.out.all
      go_wp2
      go_ret
      exact ⟨rfl, hB8.alloc hB8.size _⟩
    · have hc : checkI h = 1 := check_no hgd
      clear hgd
      simp only [hc]
      clear hc
      go_wp2_with fail
      refine (same1_any _ A2 A3 n2 c2 n3 c3 _ _ HO4.out.len HO5.out.len (by have := HO4.out.cap; unfold maxLen at this; omega) HO4.out.rd HO5.out.rd).mono ?_
      rintro e w5 ⟨rfl, hb5⟩
      simp only [beqL_self]
      have hB5 := hB4.trans (hb5.mono hB4.size)
      clear hb5
      go_wp2
      go_ret
      exact ⟨rfl, hB5⟩
end Go.Proofs.Ytlehpgokjppccaa
