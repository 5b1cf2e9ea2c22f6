/- The walk of the law HeaderDecodes. -/
import Derived.Test.YtlehpgokjppccaaHdL
import Derived.Test.YtlehpgokjppccaaHdK
namespace Go.Proofs.Ytlehpgokjppccaa
open Go.RowKit
set_option maxRecDepth 100000

theorem good_ok {h : Hd} (hg : h.good) : h.ok := by
  have b0 := hg.fields 0
  have b1 := hg.fields 1
  have b2 := hg.fields 2
  have b3 := hg.fields 3
  have b4 := hg.fields 4
  have b5 := hg.fields 5
  simp only [Hd.list, List.getD_cons_zero, List.getD_cons_succ] at b0 b1 b2 b3 b4 b5
  unfold Hd.ok i64ok
  omega

set_option maxHeartbeats 8000000 in
theorem hdecodes_walk (w : World) (A : Option Addr) (n c : Nat) (l : List Int) (hn : l.length = n) (hnc : n ≤ c) (hcm : c ≤ maxLen) (hA : Rd w A l) (hB : IsB l) :
    Calls Try.prog 4 #[.slice A n c] w (HYes w) := by
  have HN := Lib.hid hn; clear hn
  have HA := Lib.hid hA; clear hA
  have HB := Lib.hid hB; clear hB
  obtain ⟨⟨⟨s, p, f, m, k, v⟩, z⟩, hD⟩ : ∃ D, decL l = D := ⟨_, rfl⟩
  have HD := Lib.hid hD; clear hD
  go_enter Try.func4, Try.ntmps4
  go_wp2_with fail
  refine (hawake_any _).mono ?_
  rintro e w1 ⟨rfl, hB1⟩
  by_cases hg : 5000 < n
  · go_wp2_with fail
    refine (hawake_any _).mono ?_
    rintro e w2 ⟨rfl, hb2⟩
    have hB2 := hB1.trans (hb2.mono hB1.size)
    go_wp2
    go_ret
    exact ⟨rfl, hB2⟩
  · go_wp2_with fail
    refine (decode_any _ A n c l HN.out hnc hcm (HA.out.keep hB1) HB.out).mono ?_
    rintro e w2 ⟨rfl, hb2⟩
    simp only [HD.out, Hd.val]
    have hB2 := hB1.trans (hb2.mono hB1.size)
    have hz1 := hB1.size
    have hz2 := hb2.size
    clear hb2
    have hat : HdAt (w2.alloc (.cells #[.int .i64 s, .int .i64 p, .int .i64 f, .int .i64 m, .int .i64 k, .int .i64 v] 23)) w2.heap.size ⟨s, p, f, m, k, v⟩ :=
      HdAt.of (by simp [go_sem]) (by simp [go_sem]) (by simp [go_sem]) (by simp [go_sem]) (by simp [go_sem]) (by simp [go_sem])
    have HT := Lib.hid hat; clear hat
    go_wp2_with fail
    refine (rdecode_any _ A n c l HN.out hnc hcm ((HA.out.keep hB2).keep ((Below.refl _ _).alloc (Nat.le_refl _) _)) HB.out).mono ?_
    rintro e w3 ⟨rfl, hb3⟩
    simp only [HD.out, Hd.val]
    have hB3 : Below w.heap.size w w3 := (hB2.alloc hB2.size _).trans (hb3.mono (by simp; omega))
    have HT3 := Lib.hid (HT.out.keep hb3 (by simp)); clear HT
    have hz3 : w2.heap.size + 1 ≤ w3.heap.size := by simpa using hb3.size
    clear hb3
    obtain ⟨k0, k1, k2, k3, k4, k5⟩ := HT3.out.all
    have hlt : w2.heap.size < w3.heap.size := by omega
    by_cases hz : z = 0
    · subst hz
      obtain ⟨hgd, hhd, h64⟩ := decL_ok (b := l) (by rw [HD.out])
      rw [HD.out] at hgd hhd
      simp only at hgd hhd
      rw [HN.out] at h64
      have HG := Lib.hid hgd; clear hgd
      have HH := Lib.hid hhd; clear hhd
      have hc64 : 64 ≤ c := by omega
      obtain ⟨b, off, rfl, _, _⟩ := HA.out.at (by rw [HN.out]; omega)
      have hA3 := HA.out.keep hB3
      have HA3 := Lib.hid hA3; clear hA3
      go_wp2_with fail
      refine (encode_any _ ⟨s, p, f, m, k, v⟩ (good_ok HG.out)).mono ?_
      rintro e w4 ⟨A4, n4, c4, rfl, hown, hb4⟩
      rw [encL_yes HG.out, HH.out] at hown
      have hc : checkI ⟨s, p, f, m, k, v⟩ = 0 := check_yes HG.out
      simp only [hc]
      clear hc
      have hB4 : Below w.heap.size w w4 := (hB3.alloc hB3.size _).trans (hb4.mono (by simp; omega))
      have hA4 := (HA3.out.keep ((Below.refl _ _).alloc (Nat.le_refl _) _)).keep hb4
      have HA4 := Lib.hid hA4; clear hA4
      have HO := Lib.hid hown; clear hown hb4
      go_wp2_with fail
      refine (same1_any _ A4 _ n4 c4 64 _ (l.take 64) (l.take 64) HO.out.len (by rw [List.length_take, HN.out]; omega) (by have := HO.out.cap; unfold maxLen at this; omega) HO.out.rd (rd_take HA4.out 64)).mono ?_
      rintro e w5 ⟨rfl, hb5⟩
      simp only [beqL_self]
      have hB5 := hB4.trans (hb5.mono hB4.size)
      clear hb5
      go_wp2
      go_ret
      exact ⟨rfl, hB5⟩
    · have hne : (z != 0) = true := by simp [hz]
      go_wp2
      go_ret
      exact ⟨rfl, hB3.alloc hB3.size _⟩
end Go.Proofs.Ytlehpgokjppccaa
