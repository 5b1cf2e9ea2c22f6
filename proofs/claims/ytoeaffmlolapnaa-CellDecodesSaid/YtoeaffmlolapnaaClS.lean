/- Walk: CellDecodes. -/
import Derived.Test.YtoeaffmlolapnaaClQ
namespace Go.Proofs.Ytoeaffmlolapnaa
open Go.RowKit
set_option maxRecDepth 100000
set_option linter.unusedVariables false
set_option linter.unusedSimpArgs false

set_option maxHeartbeats 16000000 in
theorem cellDecodes_walk (w : World) (k : Int) (A : Option Addr) (n d : Nat) (l : List Int) (_hk : -9223372036854775808 ≤ k ∧ k ≤ 9223372036854775807) (hl : l.length = n) (hnd : n ≤ d) (hd : d ≤ maxLen) (hA : Rd w A l) (hB : IsB l) :
    Calls Try.prog 8 #[.int .i64 k, .slice A n d] w (CYes w) := by
  have HL := Lib.hid hl; clear hl
  have HB := Lib.hid hB; clear hB
  have HND := Lib.hid hnd
  have HD := Lib.hid hd
  have hn9 : (n : Int) ≤ 9223372036854775807 := by unfold maxLen at hd; omega
  have hn8 : n ≤ 9223372036854775807 := by omega
  have HA := Lib.hid hA; clear hA
  go_enter Try.func8, Try.ntmps8
  go_wp2_with fail
  refine (cawake_any _).mono ?_
  rintro e w1 ⟨rfl, hB1⟩
  have hz1 := hB1.size
  by_cases hg : 20000 < n
  · go_wp2_with fail
    refine (cawake_any _).mono ?_
    rintro e w2 ⟨rfl, hb2⟩
    have hB2 := hB1.trans (hb2.mono hB1.size)
    go_wp2
    go_ret
    exact ⟨rfl, hB2⟩
  obtain ⟨⟨c, z⟩, hE⟩ : ∃ E, decC k l = E := ⟨_, rfl⟩
  have HE := Lib.hid hE
  clear hE
  go_wp2_with fail
  refine (cdecC_any _ k A n d l HL.out HND.out HD.out (HA.out.keep hB1) HB.out).mono ?_
  rintro e w7 ⟨A7, n7, c7, rfl, hown7, hb7⟩
  rw [HE.out] at hown7
  rw [HE.out]
  have hB7 : Below w.heap.size w w7 := hB1.trans (hb7.mono hB1.size)
  have HO7 := Lib.hid hown7
  clear hb7 hown7
  have hz7 := hB7.size
  obtain ⟨W8, hW8⟩ : ∃ W, W = w7.alloc (.cells #[.int .i64 0, .int .i64 0, .int .i64 0, .slice none 0 0, .int .i64 0] 55) := ⟨_, rfl⟩
  have hb8 : Below w7.heap.size w7 W8 := by rw [hW8]; exact (Below.refl _ _).alloc (Nat.le_refl _) _
  have HTH := Lib.hid (show W8.there w7.heap.size 0 5 by
    rw [hW8]
    intro j hj
    rcases (by omega : j = 0 ∨ j = 1 ∨ j = 2 ∨ j = 3 ∨ j = 4) with rfl | rfl | rfl | rfl | rfl <;> simp [go_sem])
  have HW := Lib.hid hW8
  dsimp only
  iterate 13 go_step
  rw [← hW8]
  clear hW8 HW
  refine wp_store_cl rfl _ _ rfl w7.heap.size c A7 n7 c7 rfl rfl HTH.out ?_
  obtain ⟨W9, hW9⟩ : ∃ W, W = W8.setCells w7.heap.size 0 (clC c A7 n7 c7) := ⟨_, rfl⟩
  have hb9 : Below w7.heap.size w7 W9 := by rw [hW9]; exact below_setCellsC hb8 (Nat.le_refl _) _ _
  have HC9 := Lib.hid (show ClAt W9 w7.heap.size c A7 n7 c7 by rw [hW9]; exact ClAt.stored HTH.out c A7 n7 c7)
  have hz9 : w7.heap.size < W9.heap.size := World.block_lt_of_cell? _ _ HC9.out.1
  rw [← hW9]
  clear hW9 hb8 HTH
  have hB9 := hB7.trans (hb9.mono hB7.size)
  have HO9 := Lib.hid (HO7.out.keep hb9)
  clear HO7 hb9
  go_wp2_with fail
  refine (rdecC_any _ k A n d l HL.out HND.out HD.out (HA.out.keep hB9) HB.out).mono ?_
  rintro e w10 ⟨A10, n10, c10, rfl, hown10, hb10⟩
  rw [HE.out] at hown10
  rw [HE.out]
  have hB10 : Below w.heap.size w w10 := hB9.trans (hb10.mono hB9.size)
  have HO10 := Lib.hid hown10
  have HO9' := Lib.hid (HO9.out.keep hb10)
  have HC10 := Lib.hid (HC9.out.keep hb10)
  have hz10 := hb10.size
  clear hb10 hown10 HO9 HC9
  obtain ⟨W8, hW8⟩ : ∃ W, W = w10.alloc (.cells #[.int .i64 0, .int .i64 0, .int .i64 0, .slice none 0 0, .int .i64 0] 55) := ⟨_, rfl⟩
  have hb8 : Below w10.heap.size w10 W8 := by rw [hW8]; exact (Below.refl _ _).alloc (Nat.le_refl _) _
  have HTH := Lib.hid (show W8.there w10.heap.size 0 5 by
    rw [hW8]
    intro j hj
    rcases (by omega : j = 0 ∨ j = 1 ∨ j = 2 ∨ j = 3 ∨ j = 4) with rfl | rfl | rfl | rfl | rfl <;> simp [go_sem])
  have HW := Lib.hid hW8
  dsimp only
  iterate 13 go_step
  rw [← hW8]
  clear hW8 HW
  refine wp_store_cl rfl _ _ rfl w10.heap.size c A10 n10 c10 rfl rfl HTH.out ?_
  obtain ⟨W11, hW11⟩ : ∃ W, W = W8.setCells w10.heap.size 0 (clC c A10 n10 c10) := ⟨_, rfl⟩
  have hb11 : Below w10.heap.size w10 W11 := by rw [hW11]; exact below_setCellsC hb8 (Nat.le_refl _) _ _
  have HC11 := Lib.hid (show ClAt W11 w10.heap.size c A10 n10 c10 by rw [hW11]; exact ClAt.stored HTH.out c A10 n10 c10)
  rw [← hW11]
  clear hW11 hb8 HTH
  have hB11 := hB10.trans (hb11.mono hB10.size)
  have HO11 := Lib.hid (HO10.out.keep hb11)
  have HO9 := Lib.hid (HO9'.out.keep hb11)
  have HC9 := Lib.hid (HC10.out.keep hb11)
  clear HO10 hb11 HO9' HC10
  have h77 : n7 ≤ maxLen := Nat.le_trans HO9.out.cap.1 HO9.out.cap.2
  have hzz : (z != z) = false := by simp
  go_upto_region 5 with fail
  iterate 13 go_step
  refine wp_load_clg (by kernel_rfl) _ rfl w7.heap.size c A7 n7 c7 rfl HC9.out ?_
  refine wp_load_clg (by kernel_rfl) _ rfl w10.heap.size c A10 n10 c10 rfl HC11.out ?_
  go_wp2_with fail
  refine (sameC_any _ c c A7 A10 n7 c7 n10 c10 HO9.out.len HO11.out.len h77 HO9.out.rd HO11.out.rd).mono ?_
  rintro e w12 ⟨rfl, hb12⟩
  simp only [decide_true]
  have hB12 := hB11.trans (hb12.mono hB11.size)
  have HO9' := Lib.hid (HO9.out.keep hb12)
  have HC9' := Lib.hid (HC9.out.keep hb12)
  clear HO9 HC9 hb12 HO11 HC11
  by_cases h0 : z = 0
  rotate_left
  · have h0b : (z != 0) = true := by simp [h0]
    go_wp2
    go_ret
    exact ⟨rfl, hB12⟩
  subst h0
  obtain ⟨q1, q2, q3⟩ := decC_back HB.out k (by rw [HE.out])
  rw [HE.out] at q1 q2 q3
  have hl2 : c.loc.length = n7 := HO9'.out.len
  have hEnc : encC k c = l := by unfold encC; rw [if_pos q2]; exact q1
  have hChk : checkZ k c n7 = 0 := by rw [← hl2]; exact if_pos q2
  have HEnc := Lib.hid hEnc
  have HChk := Lib.hid hChk
  have HOk := Lib.hid q3
  clear q1 q2 q3 hEnc hChk
  have HL2 := Lib.hid hl2; clear hl2
  go_upto_region 9 with fail
  iterate 4 go_step
  refine wp_load_cl rfl _ rfl w7.heap.size c A7 n7 c7 rfl HC9'.out ?_
  go_wp2_with fail
  refine (cencC_any _ k c A7 n7 c7 HOk.out HO9'.out.cap.1 HO9'.out.cap.2 HL2.out HO9'.out.rd).mono ?_
  rintro e w13 ⟨A13, n13, c13, rfl, a1, a2, a3, a4, hb13, _⟩
  rw [HChk.out]
  rw [HEnc.out] at a1 a4
  have HR13 := Lib.hid a4; clear a4
  have HN13 := Lib.hid a1; clear a1
  have hB13 := hB12.trans (hb13.mono hB12.size)
  have hn13 : n13 ≤ 9223372036854775807 := by unfold maxLen at a3; omega
  clear hb13 a3 a2
  go_wp2_with fail
  refine (same1_any _ A13 A n13 c13 n d l l HN13.out HL.out hn13 HR13.out (HA.out.keep hB13)).mono ?_
  rintro e w14 ⟨rfl, hb14⟩
  simp only [beqL_self]
  have hB14 := hB13.trans (hb14.mono hB13.size)
  go_wp2
  go_ret
  exact ⟨rfl, hB14⟩
end Go.Proofs.Ytoeaffmlolapnaa
