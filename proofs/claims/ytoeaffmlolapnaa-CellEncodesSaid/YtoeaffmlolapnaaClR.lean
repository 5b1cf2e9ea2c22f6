/- Walk: CellEncodes. -/
import Derived.Test.YtoeaffmlolapnaaClQ
namespace Go.Proofs.Ytoeaffmlolapnaa
open Go.RowKit
set_option maxRecDepth 100000
set_option linter.unusedVariables false
set_option linter.unusedSimpArgs false

set_option maxHeartbeats 16000000 in
theorem cellEncodes_walk (w : World) (k : Int) (c : Cl) (A : Option Addr) (n d : Nat) (_hk : -9223372036854775808 ≤ k ∧ k ≤ 9223372036854775807) (hc : c.ok) (hl : c.loc.length = n) (hnd : n ≤ d) (hd : d ≤ maxLen) (hA : Rd w A c.loc) (hB : IsB c.loc) :
    Calls Try.prog 10 #[.int .i64 k, c.val A n d] w (CYes w) := by
  have HC := Lib.hid hc; clear hc
  have HL := Lib.hid hl; clear hl
  have HB := Lib.hid hB; clear hB
  have HND := Lib.hid hnd
  have HD := Lib.hid hd
  have hn9 : (n : Int) ≤ 9223372036854775807 := by unfold maxLen at hd; omega
  have hn8 : n ≤ 9223372036854775807 := by omega
  obtain ⟨W1, hW1⟩ : ∃ W, W = w.alloc (.cells #[.int .i64 c.key, .int .i64 c.child, .int .i64 c.total, .slice A n d, .int .i64 c.spill] 55) := ⟨_, rfl⟩
  have hbW : Below w.heap.size w W1 := by rw [hW1]; exact (Below.refl _ _).alloc (Nat.le_refl _) _
  have hsW : W1.heap.size = w.heap.size + 1 := by rw [hW1]; simp
  have hat : ClAt W1 w.heap.size c A n d := by rw [hW1]; exact ⟨by simp [go_sem], by simp [go_sem], by simp [go_sem], by simp [go_sem], by simp [go_sem]⟩
  have HT := Lib.hid hat; clear hat
  have HA := Lib.hid hA; clear hA
  have HW := Lib.hid hW1
  unfold Cl.val
  go_enter Try.func10, Try.ntmps10
  go_wp2_with fail
  rw [← hW1]
  clear hW1 HW
  refine (cawake_any _).mono ?_
  rintro e w1 ⟨rfl, hb1⟩
  have hB1 : Below w.heap.size w w1 := hbW.trans (hb1.mono (by omega))
  have HT1 := Lib.hid (HT.out.keep hb1); clear HT
  clear hb1 hbW
  have hz1 := hB1.size
  obtain ⟨k0, k1, k2, k3, k4⟩ := HT1.out
  by_cases hg : 20000 < n
  · go_wp2_with fail
    refine (cawake_any _).mono ?_
    rintro e w2 ⟨rfl, hb2⟩
    have hB2 := hB1.trans (hb2.mono hB1.size)
    go_wp2
    go_ret
    exact ⟨rfl, hB2⟩
  go_upto_region 3 with fail
  clear k0 k1 k2 k3 k4
  iterate 4 go_step
  refine wp_load_cl rfl _ rfl w.heap.size c A n d rfl HT1.out ?_
  go_wp2_with fail
  refine (cencC_any _ k c A n d HC.out HND.out HD.out HL.out (HA.out.keep hB1)).mono ?_
  rintro e w2 ⟨A2, n2, c2, rfl, a1, a2, a3, a4, hb2, _⟩
  obtain ⟨z, hz⟩ : ∃ z, checkZ k c n = z := ⟨_, rfl⟩
  have HZ := Lib.hid hz
  rw [hz]
  clear hz
  obtain ⟨L, hL⟩ : ∃ L, encC k c = L := ⟨_, rfl⟩
  have HE := Lib.hid hL
  rw [hL] at a1 a4
  clear hL
  have HR2 := Lib.hid a4; clear a4
  have HN2 := Lib.hid a1; clear a1
  have HM2 := Lib.hid a3
  have hn2 : n2 ≤ 9223372036854775807 := by unfold maxLen at a3; omega
  clear a3
  have hB2 : Below w.heap.size w w2 := hB1.trans (hb2.mono hB1.size)
  have HT2 := Lib.hid (HT1.out.keep hb2)
  clear hb2 HT1
  have hz2 := hB2.size
  go_upto_region 4 with fail
  iterate 4 go_step
  refine wp_load_cl rfl _ rfl w.heap.size c A n d rfl HT2.out ?_
  go_wp2_with fail
  refine (rcencC_any _ k c A n d HC.out HND.out HD.out HL.out (HA.out.keep hB2)).mono ?_
  rintro e w3 ⟨A3, n3, c3, rfl, hown3, hb3⟩
  rw [HZ.out]
  rw [HE.out] at hown3
  have HR3 := Lib.hid hown3.rd
  have HN3 := Lib.hid hown3.len
  clear hown3
  have hB3 : Below w.heap.size w w3 := hB2.trans (hb3.mono hB2.size)
  have HT3 := Lib.hid (HT2.out.keep hb3)
  have HR2' := Lib.hid (HR2.out.keep hb3)
  clear hb3 HT2 HR2
  have hz3 := hB3.size
  go_upto_region 5 with fail
  iterate 4 go_step
  refine wp_load_cl rfl _ rfl w.heap.size c A n d rfl HT3.out ?_
  go_wp2_with fail
  refine (checkC_any _ k c A n d HC.out hn9).mono ?_
  rintro e w4 ⟨rfl, hb4⟩
  rw [HZ.out]
  have hzz : (z != z) = false := by simp
  have hB4 : Below w.heap.size w w4 := hB3.trans (hb4.mono hB3.size)
  have HT4 := Lib.hid (HT3.out.keep hb4)
  have HR2 := Lib.hid (HR2'.out.keep hb4)
  have HR3' := Lib.hid (HR3.out.keep hb4)
  clear hb4 HT3 HR2' HR3
  have hz4 := hB4.size
  go_wp2_with fail
  refine (same1_any _ A2 A3 n2 c2 n3 c3 L L HN2.out HN3.out hn2 HR2.out HR3'.out).mono ?_
  rintro e w5 ⟨rfl, hb5⟩
  simp only [beqL_self]
  have hB5 : Below w.heap.size w w5 := hB4.trans (hb5.mono hB4.size)
  have HT5 := Lib.hid (HT4.out.keep hb5)
  have HR2' := Lib.hid (HR2.out.keep hb5)
  clear hb5 HT4 HR2 HR3'
  have hz5 := hB5.size
  iterate 11 go_step
  refine wp_load_clg (by kernel_rfl) _ rfl w.heap.size c A n d rfl HT5.out ?_
  go_wp2_with fail
  refine (csizeC_any _ k c A n d HC.out HND.out HD.out HL.out (HA.out.keep hB5) _ rfl).mono ?_
  rintro e w6 ⟨rfl, hb6⟩
  have hB6 : Below w.heap.size w w6 := hB5.trans (hb6.mono hB5.size)
  have HT6 := Lib.hid (HT5.out.keep hb6)
  have HR2 := Lib.hid (HR2'.out.keep hb6)
  clear hb6 HT5 HR2'
  have hz6 := hB6.size
  have hll : (encC k c).length = n3 := by rw [HE.out]; exact HN3.out
  rw [hll]
  have hnn : ((n3 : Int) != (n3 : Int)) = false := by simp
  clear hll
  by_cases h0 : z = 0
  rotate_left
  · have h0b : (z != 0) = true := by simp [h0]
    go_wp2
    go_ret
    exact ⟨rfl, hB6⟩
  subst h0
  have hgood : goodC k c n := by
    have := HZ.out
    unfold checkZ at this
    by_cases hg2 : goodC k c n
    · exact hg2
    · rw [if_neg hg2] at this; exact absurd this (by decide)
  have hLc : cellB k c = L := by
    have := HE.out
    unfold encC at this
    rwa [if_pos (by rw [HL.out]; exact hgood)] at this
  have hdec : decC k L = (c, 0) := by rw [← hLc]; exact decC_put k c HC.out (by rw [HL.out]; exact hgood)
  have hLB : IsB L := by rw [← hLc]; exact cellB_isB k c HB.out
  have HDEC := Lib.hid hdec
  clear hdec hgood hLc
  go_wp2_with fail
  refine (cdecC_any _ k A2 n2 c2 L HN2.out a2 HM2.out HR2.out hLB).mono ?_
  rintro e w7 ⟨A7, n7, c7, rfl, hown7, hb7⟩
  rw [HDEC.out] at hown7
  rw [HDEC.out]
  have hB7 : Below w.heap.size w w7 := hB6.trans (hb7.mono hB6.size)
  have HT7 := Lib.hid (HT6.out.keep hb7)
  have HO7 := Lib.hid hown7
  clear hb7 HT6 HR2 hown7
  have hz7 := hB7.size
  obtain ⟨W8, hW8⟩ : ∃ W, W = w7.alloc (.cells #[.int .i64 0, .int .i64 0, .int .i64 0, .slice none 0 0, .int .i64 0] 55) := ⟨_, rfl⟩
  have hb8 : Below w7.heap.size w7 W8 := by rw [hW8]; exact (Below.refl _ _).alloc (Nat.le_refl _) _
  have HTH := Lib.hid (show W8.there w7.heap.size 0 5 by
    rw [hW8]
    intro j hj
    rcases (by omega : j = 0 ∨ j = 1 ∨ j = 2 ∨ j = 3 ∨ j = 4) with rfl | rfl | rfl | rfl | rfl <;> simp [go_sem])
  have HW := Lib.hid hW8
  dsimp only
  iterate 13 go_step
  rw [← hW8]
  clear hW8 HW
  refine wp_store_cl rfl _ _ rfl w7.heap.size c A7 n7 c7 rfl rfl HTH.out ?_
  obtain ⟨W9, hW9⟩ : ∃ W, W = W8.setCells w7.heap.size 0 (clC c A7 n7 c7) := ⟨_, rfl⟩
  have hb9 : Below w7.heap.size w7 W9 := by rw [hW9]; exact below_setCellsC hb8 (Nat.le_refl _) _ _
  have HC9 := Lib.hid (show ClAt W9 w7.heap.size c A7 n7 c7 by rw [hW9]; exact ClAt.stored HTH.out c A7 n7 c7)
  rw [← hW9]
  clear hW9 hb8 HTH
  have hB9 := hB7.trans (hb9.mono hB7.size)
  have HT9 := Lib.hid (HT7.out.keep hb9)
  have HO9 := Lib.hid (HO7.out.keep hb9)
  clear HT7 HO7 hb9
  have h77 : n7 ≤ maxLen := Nat.le_trans HO9.out.cap.1 HO9.out.cap.2
  go_upto_region 10 with fail
  iterate 10 go_step
  refine wp_load_clg (by kernel_rfl) _ rfl w7.heap.size c A7 n7 c7 rfl HC9.out ?_
  refine wp_load_clg (by kernel_rfl) _ rfl w.heap.size c A n d rfl HT9.out ?_
  go_wp2_with fail
  refine (sameC_any _ c c A7 A n7 c7 n d HO9.out.len HL.out h77 HO9.out.rd (HA.out.keep hB9)).mono ?_
  rintro e w10 ⟨rfl, hb10⟩
  simp only [decide_true]
  have hB10 := hB9.trans (hb10.mono hB9.size)
  go_wp2
  go_ret
  exact ⟨rfl, hB10⟩
end Go.Proofs.Ytoeaffmlolapnaa
