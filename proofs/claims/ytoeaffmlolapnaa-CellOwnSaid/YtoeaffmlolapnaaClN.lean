/- Walk: tomeref18.Decode. Printed by genCd.py. -/
import Derived.Test.YtoeaffmlolapnaaClL
namespace Go.Proofs.Ytoeaffmlolapnaa
open Go.RowKit
set_option maxRecDepth 100000
set_option linter.unusedVariables false
set_option linter.unusedSimpArgs false

theorem rpay_at (w : World) (ky ch : Int) (A : Option Addr) (n c : Nat) (l : List Int) (x : Int) (a : Nat) (hx : x = a) (hn : l.length = n) (hnc : n ≤ c) (hcm : c ≤ maxLen) (hA : Rd w A l) (hB : IsB l) (ha : a ≤ n) :
    Calls Try.prog 83 #[.agg #[.int .i64 ky, .int .i64 ch, .int .i64 0, .slice none 0 0, .int .i64 0], .slice A n c, .int .i64 x] w (RPayBack w ky ch (payD l x)) := by
  subst hx
  exact rpay_any w ky ch A n c l a hn hnc hcm hA hB ha _ rfl

set_option maxHeartbeats 4000000 in
theorem rdec_no (w : World) (k : Int) (A : Option Addr) (n c : Nat) (l : List Int) (hno : ¬ isK k) (R : Ending → World → Prop) (hP : R = DecCBack w k l) :
    Calls Try.prog 33 #[.int .i64 k, .slice A n c] w R := by
  have HP := Lib.hid hP; clear hP
  have hd : decC k l = (zeroC, 1) := if_pos hno
  have HD := Lib.hid hd; clear hd
  have hf : decide (isK k) = false := decide_eq_false hno
  have HF := Lib.hid hf; clear hf
  go_enter Try.func33, Try.ntmps33
  go_wp2_with fail
  refine (rkind_any _ k).mono ?_
  rintro e w1 ⟨rfl, rfl⟩
  simp only [HF.out]
  go_wp2
  refine ret_cl (c := zeroC) (A := none) (n := 0) (d := 0) rfl rfl ⟨by simp [go_sem, zeroC], by simp [go_sem, zeroC], by simp [go_sem, zeroC], by simp [go_sem, zeroC], by simp [go_sem, zeroC]⟩ rfl ?_
  rw [HP.out]
  exact ⟨none, 0, 0, by rw [HD.out]; rfl, by rw [HD.out]; exact OwnB.nil _ _, (Below.refl _ _).alloc (Nat.le_refl _) _⟩

set_option maxHeartbeats 16000000 in
theorem rdec_one (w : World) (A : Option Addr) (n c : Nat) (l : List Int) (hn : l.length = n) (hnc : n ≤ c) (hcm : c ≤ maxLen) (hA : Rd w A l) (hB : IsB l) (R : Ending → World → Prop) (hP : R = DecCBack w 1 l) :
    Calls Try.prog 33 #[.int .i64 1, .slice A n c] w R := by
  have HP := Lib.hid hP; clear hP
  have HN := Lib.hid hn; clear hn
  have HB := Lib.hid hB; clear hB
  have HCM := Lib.hid hcm
  unfold maxLen at hcm
  have HA0 := Lib.hid hA; clear hA
  obtain ⟨W2, hW2⟩ : ∃ W, W = (w.alloc (.cells #[.int .i64 0, .int .i64 0, .int .i64 0, .slice none 0 0, .int .i64 0] 55)).alloc (.cells #[.int .i64 0, .int .i64 0, .int .i64 0, .slice none 0 0, .int .i64 0] 55) := ⟨_, rfl⟩
  have hbW : Below w.heap.size w W2 := by rw [hW2]; exact ((Below.refl _ _).alloc (Nat.le_refl _) _).alloc (by simp) _
  have hzW : W2.heap.size = w.heap.size + 2 := by rw [hW2]; simp
  have HC0 := Lib.hid (show ClAt W2 (w.heap.size + 1) ⟨0, 0, 0, 0, []⟩ none 0 0 by
    rw [hW2]
    exact ⟨by simp [go_sem], by simp [go_sem], by simp [go_sem], by simp [go_sem], by simp [go_sem]⟩)
  have HT0 := Lib.hid (show W2.there (w.heap.size + 1) 0 5 by
    rw [hW2]
    intro j hj
    rcases (by omega : j = 0 ∨ j = 1 ∨ j = 2 ∨ j = 3 ∨ j = 4) with rfl | rfl | rfl | rfl | rfl <;> simp [go_sem])
  have HG0 := Lib.hid (show W2.there w.heap.size 0 5 by
    rw [hW2]
    intro j hj
    rcases (by omega : j = 0 ∨ j = 1 ∨ j = 2 ∨ j = 3 ∨ j = 4) with rfl | rfl | rfl | rfl | rfl <;> simp [go_sem])
  have HW := Lib.hid hW2
  have hfin : ∀ (W : World) (e' : Int), decC 1 l = (zeroC, e') → Below w.heap.size w W → R (.returned (.tuple #[zeroC.val none 0 0, .int .i64 e'])) (W.setCells w.heap.size 0 (clC zeroC none 0 0)) := by
    intro W e' h1 h2
    rw [HP.out]
    exact ⟨none, 0, 0, by rw [h1], by rw [h1]; exact OwnB.nil _ _, below_setCellsC h2 (Nat.le_refl _) _ _⟩
  have HFIN := Lib.hid hfin; clear hfin
  go_enter Try.func33, Try.ntmps33
  go_wp2_with fail
  refine (rkind_any _ 1).mono ?_
  rintro e w1 ⟨rfl, rfl⟩
  simp only [show decide (isK 1) = true from rfl]
  go_wp2_with fail
  rw [← hW2]
  clear hW2 HW
  refine (rchild_any _ _).mono ?_
  rintro e w0 ⟨rfl, rfl⟩
  simp only [show decide (hasC 1) = false from rfl]
  have HCD := Lib.hid (show childD 1 l = (0, 0, 0) from rfl)
  go_wp2_with fail
  refine (rkeyed_any _ _).mono ?_
  rintro e w0 ⟨rfl, rfl⟩
  simp only [show decide (hasK 1) = true from rfl]
  go_wp2_with fail
  refine (runv_any _ A n c l 0 HN.out (by omega) (HA0.out.keep hbW) HB.out (by omega)).mono ?_
  rintro e w4 ⟨rfl, hb4⟩
  obtain ⟨⟨ky, p2, z⟩, hV⟩ : ∃ U, unvL l 0 = U := ⟨_, rfl⟩
  have HV := Lib.hid hV
  have HKD := Lib.hid (show keyD 1 l 0 = (ky, p2, z) from (if_pos (by decide)).trans hV)
  simp only [hV]
  clear hV
  have hB4 : Below w.heap.size w w4 := hbW.trans (hb4.mono hbW.size)
  have HG4 := Lib.hid (there_keepC HG0.out hb4 (by omega))
  have HT4 := Lib.hid (there_keepC HT0.out hb4 (by omega))
  have HC4 := Lib.hid (HC0.out.keep hb4)
  have hz4 := hb4.size
  clear hb4
  have x0 := HC4.out.1
  have y0 : w4.frozen? ⟨w.heap.size + 1, 0, none⟩ = false := by simpa using (HT4.out 0 (by decide)).2
  go_upto_region 13 with fail
  obtain ⟨W4, hW4⟩ : ∃ W, W = w4.setCell ⟨w.heap.size + 1, 0, none⟩ (.int .i64 ky) := ⟨_, rfl⟩
  rw [← hW4]
  have HCs4 := Lib.hid (show ClAt W4 (w.heap.size + 1) ⟨ky, 0, 0, 0, []⟩ none 0 0 by rw [hW4]; exact ClAt.setKey HC4.out ky)
  have HTs4 := Lib.hid (show W4.there (w.heap.size + 1) 0 5 by rw [hW4]; exact there_setC HT4.out _ _)
  have HGs4 := Lib.hid (show W4.there w.heap.size 0 5 by rw [hW4]; exact there_setC HG4.out _ _)
  have hBs4 : Below w.heap.size w W4 := by rw [hW4]; exact hB4.setCell (by simp only; omega) _
  have hzs4 : w4.heap.size ≤ W4.heap.size := by rw [hW4]; simp only [World.setCell, Array.size_modify]; exact Nat.le_refl _
  clear hW4 x0 y0
  by_cases hz : z = 0
  rotate_left
  · have z1 : (z != 0) = true := by simp [hz]
    have z2 : (z == 0) = false := by simp [hz]
    have HD := Lib.hid (show decC 1 l = (zeroC, z) by rw [dec_key 1 l (by decide) (by rw [HCD.out]) (by rw [HCD.out, HKD.out]; exact hz), HCD.out, HKD.out])
    clear hz
    go_upto_region 16 with fail
    iterate 7 go_step
    refine wp_store_cl rfl _ _ rfl w.heap.size zeroC none 0 0 rfl rfl HGs4.out ?_
    repeat go_step
    refine ret_cl rfl rfl (ClAt.stored HGs4.out zeroC none 0 0) rfl ?_
    exact HFIN.out _ _ HD.out hBs4
  subst hz
  obtain ⟨q2, hq2, k1, k2, _, _⟩ := unv_at HB.out 0 (by first | (rw [HV.out]) | (have := HV.out; simp only [Int.ofNat_zero, Int.cast_ofNat_Int] at this ⊢; rw [this]))
  have hq2' : p2 = (q2 : Int) := by
    have h1 := HV.out
    have h2 : unvL l 0 = unvL l ((0 : Nat) : Int) := rfl
    rw [h2] at h1
    rw [h1] at hq2
    exact hq2
  subst hq2'
  rw [HN.out] at k2
  clear hq2
  go_wp2_with fail
  refine (rpays_any _ _).mono ?_
  rintro e w0 ⟨rfl, rfl⟩
  simp only [show decide ((1 : Int) ≠ 2) = true from rfl]
  go_upto_region 14 with fail
  go_step
  refine wp_load_cl rfl _ rfl (w.heap.size + 1) ⟨ky, 0, 0, 0, []⟩ none 0 0 rfl HCs4.out ?_
  go_wp2_with fail
  refine (rpay_at _ ky 0 A n c l (q2 : Int) q2 rfl HN.out hnc HCM.out (HA0.out.keep hBs4) HB.out (by omega)).mono ?_
  rintro e w5 ⟨D, m, dc, rfl, hr5, hb5⟩
  have HR5 := Lib.hid hr5; clear hr5
  obtain ⟨y, hy⟩ : ∃ y, payD l (q2 : Int) = y := ⟨_, rfl⟩
  have HY := Lib.hid hy
  have HYD := Lib.hid (show loadD 1 l (q2 : Int) = y from (if_neg (by decide)).trans hy)
  simp only [hy]
  rw [hy] at HR5
  clear hy
  have hB5 : Below w.heap.size w w5 := hBs4.trans (hb5.mono hBs4.size)
  have HG5 := Lib.hid (there_keepC HGs4.out hb5 (by omega))
  have HT5 := Lib.hid (there_keepC HTs4.out hb5 (by omega))
  have HC5 := Lib.hid (HCs4.out.keep hb5)
  have hz5 := hb5.size
  clear hb5
  obtain ⟨cc, hcc⟩ : ∃ cc, payC ky 0 y = cc := ⟨_, rfl⟩
  rw [hcc] at HR5 ⊢
  have HCC := Lib.hid hcc; clear hcc
  iterate 13 go_step
  refine wp_store_cl rfl _ _ rfl (w.heap.size + 1) cc D m dc rfl rfl HT5.out ?_
  obtain ⟨W7, hW7⟩ : ∃ W, W = w5.setCells (w.heap.size + 1) 0 (clC cc D m dc) := ⟨_, rfl⟩
  have HC7 := Lib.hid (show ClAt W7 (w.heap.size + 1) cc D m dc by rw [hW7]; exact ClAt.stored HT5.out cc D m dc)
  have HG7 := Lib.hid (show W7.there w.heap.size 0 5 by rw [hW7]; exact World.there_setCells HG5.out _ _ _)
  have hB7 : Below w.heap.size w W7 := by rw [hW7]; exact below_setCellsC hB5 (by omega) _ _
  have HR7 := Lib.hid (show OwnB W7 (w.heap.size + 2) D m dc cc.loc by rw [hW7]; exact (HR5.out.mono (base' := w.heap.size + 2) (by omega)).apartC (fun i hi => heap_setCellsC _ _ _ _ _ (by omega)))
  rw [← hW7]
  clear hW7
  obtain ⟨yt, ysp, yl, ya, ye⟩ := y
  by_cases hz : ye = 0
  rotate_left
  · have z1 : (ye != 0) = true := by simp [hz]
    have z2 : (ye == 0) = false := by simp [hz]
    have HD := Lib.hid (show decC 1 l = (zeroC, ye) by rw [dec_load 1 l (by decide) (by rw [HCD.out]) (by rw [HCD.out, HKD.out]) (by rw [HCD.out, HKD.out, HYD.out]; exact hz), HCD.out, HKD.out, HYD.out])
    clear hz
    go_upto_region 16 with fail
    iterate 7 go_step
    refine wp_store_cl rfl _ _ rfl w.heap.size zeroC none 0 0 rfl rfl HG7.out ?_
    repeat go_step
    refine ret_cl rfl rfl (ClAt.stored HG7.out zeroC none 0 0) rfl ?_
    exact HFIN.out _ _ HD.out hB7
  subst hz
  by_cases hq : ya = (n : Int)
  rotate_left
  · have hqb : (ya != (n : Int)) = true := by simp [hq]
    have HD := Lib.hid (show decC 1 l = (zeroC, 8) from dec_long 1 l (by decide) (by rw [HCD.out]) (by rw [HCD.out, HKD.out]) (by rw [HCD.out, HKD.out, HYD.out]) (by rw [HCD.out, HKD.out, HYD.out, HN.out]; exact hq))
    clear hq
    go_upto_region 18 with fail
    iterate 4 go_step
    refine wp_store_cl rfl _ _ rfl w.heap.size zeroC none 0 0 rfl rfl HG7.out ?_
    repeat go_step
    refine ret_cl rfl rfl (ClAt.stored HG7.out zeroC none 0 0) rfl ?_
    exact HFIN.out _ _ HD.out hB7
  have hqb : (ya != (n : Int)) = false := by simp [hq]
  have hcc : cc = ⟨ky, 0, yt, ysp, yl⟩ := HCC.out.symm.trans (if_pos rfl)
  subst hcc
  have HD := Lib.hid (show decC 1 l = (⟨ky, 0, yt, ysp, yl⟩, 0) by rw [dec_ok 1 l (by decide) (by rw [HCD.out]) (by rw [HCD.out, HKD.out]) (by rw [HCD.out, HKD.out, HYD.out]) (by rw [HCD.out, HKD.out, HYD.out, HN.out]; exact hq), HCD.out, HKD.out, HYD.out])
  clear hq
  go_upto_region 19 with fail
  go_step
  refine wp_load_cl rfl _ rfl (w.heap.size + 1) ⟨ky, 0, yt, ysp, yl⟩ D m dc rfl HC7.out ?_
  refine wp_store_cl rfl _ _ rfl w.heap.size ⟨ky, 0, yt, ysp, yl⟩ D m dc rfl rfl HG7.out ?_
  repeat go_step
  refine ret_cl rfl rfl (ClAt.stored HG7.out ⟨ky, 0, yt, ysp, yl⟩ D m dc) rfl ?_
  rw [HP.out]
  exact ⟨D, m, dc, by rw [HD.out] <;> rfl, by rw [HD.out]; exact (HR7.out.apartC (fun i hi => heap_setCellsC _ _ _ _ _ (by omega))).mono (by omega), below_setCellsC hB7 (Nat.le_refl _) _ _⟩
set_option maxHeartbeats 16000000 in
theorem rdec_two (w : World) (A : Option Addr) (n c : Nat) (l : List Int) (hn : l.length = n) (hnc : n ≤ c) (hcm : c ≤ maxLen) (hA : Rd w A l) (hB : IsB l) (R : Ending → World → Prop) (hP : R = DecCBack w 2 l) :
    Calls Try.prog 33 #[.int .i64 2, .slice A n c] w R := by
  have HP := Lib.hid hP; clear hP
  have HN := Lib.hid hn; clear hn
  have HB := Lib.hid hB; clear hB
  have HCM := Lib.hid hcm
  unfold maxLen at hcm
  have HA0 := Lib.hid hA; clear hA
  obtain ⟨W2, hW2⟩ : ∃ W, W = (w.alloc (.cells #[.int .i64 0, .int .i64 0, .int .i64 0, .slice none 0 0, .int .i64 0] 55)).alloc (.cells #[.int .i64 0, .int .i64 0, .int .i64 0, .slice none 0 0, .int .i64 0] 55) := ⟨_, rfl⟩
  have hbW : Below w.heap.size w W2 := by rw [hW2]; exact ((Below.refl _ _).alloc (Nat.le_refl _) _).alloc (by simp) _
  have hzW : W2.heap.size = w.heap.size + 2 := by rw [hW2]; simp
  have HC0 := Lib.hid (show ClAt W2 (w.heap.size + 1) ⟨0, 0, 0, 0, []⟩ none 0 0 by
    rw [hW2]
    exact ⟨by simp [go_sem], by simp [go_sem], by simp [go_sem], by simp [go_sem], by simp [go_sem]⟩)
  have HT0 := Lib.hid (show W2.there (w.heap.size + 1) 0 5 by
    rw [hW2]
    intro j hj
    rcases (by omega : j = 0 ∨ j = 1 ∨ j = 2 ∨ j = 3 ∨ j = 4) with rfl | rfl | rfl | rfl | rfl <;> simp [go_sem])
  have HG0 := Lib.hid (show W2.there w.heap.size 0 5 by
    rw [hW2]
    intro j hj
    rcases (by omega : j = 0 ∨ j = 1 ∨ j = 2 ∨ j = 3 ∨ j = 4) with rfl | rfl | rfl | rfl | rfl <;> simp [go_sem])
  have HW := Lib.hid hW2
  have hfin : ∀ (W : World) (e' : Int), decC 2 l = (zeroC, e') → Below w.heap.size w W → R (.returned (.tuple #[zeroC.val none 0 0, .int .i64 e'])) (W.setCells w.heap.size 0 (clC zeroC none 0 0)) := by
    intro W e' h1 h2
    rw [HP.out]
    exact ⟨none, 0, 0, by rw [h1], by rw [h1]; exact OwnB.nil _ _, below_setCellsC h2 (Nat.le_refl _) _ _⟩
  have HFIN := Lib.hid hfin; clear hfin
  go_enter Try.func33, Try.ntmps33
  go_wp2_with fail
  refine (rkind_any _ 2).mono ?_
  rintro e w1 ⟨rfl, rfl⟩
  simp only [show decide (isK 2) = true from rfl]
  go_wp2_with fail
  rw [← hW2]
  clear hW2 HW
  refine (rchild_any _ _).mono ?_
  rintro e w0 ⟨rfl, rfl⟩
  simp only [show decide (hasC 2) = true from rfl]
  go_wp2_with fail
  refine (within_any _ A n c l 0 1 1048576 HN.out (by omega) (HA0.out.keep hbW) HB.out (by omega) _ rfl).mono ?_
  rintro e w3 ⟨rfl, hb3⟩
  obtain ⟨⟨ch, p1, z⟩, hU⟩ : ∃ U, wn l 0 1 1048576 = U := ⟨_, rfl⟩
  have HU := Lib.hid hU
  have HCD := Lib.hid (show childD 2 l = (ch, p1, z) from (if_pos (by decide)).trans hU)
  simp only [hU]
  clear hU
  have hB3 : Below w.heap.size w w3 := hbW.trans (hb3.mono hbW.size)
  have HG3 := Lib.hid (there_keepC HG0.out hb3 (by omega))
  have HT3 := Lib.hid (there_keepC HT0.out hb3 (by omega))
  have HC3 := Lib.hid (HC0.out.keep hb3)
  have hz3 := hb3.size
  clear hb3
  have x1 := HC3.out.2.1
  have y1 : w3.frozen? ⟨w.heap.size + 1, 1, none⟩ = false := by simpa using (HT3.out 1 (by decide)).2
  go_upto_region 8 with fail
  obtain ⟨W3, hW3⟩ : ∃ W, W = w3.setCell ⟨w.heap.size + 1, 1, none⟩ (.int .i64 ch) := ⟨_, rfl⟩
  rw [← hW3]
  have HCs3 := Lib.hid (show ClAt W3 (w.heap.size + 1) ⟨0, ch, 0, 0, []⟩ none 0 0 by rw [hW3]; exact ClAt.setChild HC3.out ch)
  have HTs3 := Lib.hid (show W3.there (w.heap.size + 1) 0 5 by rw [hW3]; exact there_setC HT3.out _ _)
  have HGs3 := Lib.hid (show W3.there w.heap.size 0 5 by rw [hW3]; exact there_setC HG3.out _ _)
  have hBs3 : Below w.heap.size w W3 := by rw [hW3]; exact hB3.setCell (by simp only; omega) _
  have hzs3 : w3.heap.size ≤ W3.heap.size := by rw [hW3]; simp only [World.setCell, Array.size_modify]; exact Nat.le_refl _
  clear hW3 x1 y1
  by_cases hz : z = 0
  rotate_left
  · have z1 : (z != 0) = true := by simp [hz]
    have z2 : (z == 0) = false := by simp [hz]
    have HD := Lib.hid (show decC 2 l = (zeroC, z) by rw [dec_child 2 l (by decide) (by rw [HCD.out]; exact hz), HCD.out])
    clear hz
    go_upto_region 16 with fail
    iterate 7 go_step
    refine wp_store_cl rfl _ _ rfl w.heap.size zeroC none 0 0 rfl rfl HGs3.out ?_
    repeat go_step
    refine ret_cl rfl rfl (ClAt.stored HGs3.out zeroC none 0 0) rfl ?_
    exact HFIN.out _ _ HD.out hBs3
  subst hz
  obtain ⟨q1, rfl, l1, l2, _, _, _, _⟩ := wn_at (a := 0) HB.out (by simpa using HU.out)
  rw [HN.out] at l2
  go_wp2_with fail
  refine (rkeyed_any _ _).mono ?_
  rintro e w0 ⟨rfl, rfl⟩
  simp only [show decide (hasK 2) = true from rfl]
  go_wp2_with fail
  refine (runv_any _ A n c l (q1 : Int) HN.out (by omega) (HA0.out.keep hBs3) HB.out (by omega)).mono ?_
  rintro e w4 ⟨rfl, hb4⟩
  obtain ⟨⟨ky, p2, z⟩, hV⟩ : ∃ U, unvL l (q1 : Int) = U := ⟨_, rfl⟩
  have HV := Lib.hid hV
  have HKD := Lib.hid (show keyD 2 l (q1 : Int) = (ky, p2, z) from (if_pos (by decide)).trans hV)
  simp only [hV]
  clear hV
  have hB4 : Below w.heap.size w w4 := hBs3.trans (hb4.mono hBs3.size)
  have HG4 := Lib.hid (there_keepC HGs3.out hb4 (by omega))
  have HT4 := Lib.hid (there_keepC HTs3.out hb4 (by omega))
  have HC4 := Lib.hid (HCs3.out.keep hb4)
  have hz4 := hb4.size
  clear hb4
  have x0 := HC4.out.1
  have y0 : w4.frozen? ⟨w.heap.size + 1, 0, none⟩ = false := by simpa using (HT4.out 0 (by decide)).2
  go_upto_region 13 with fail
  obtain ⟨W4, hW4⟩ : ∃ W, W = w4.setCell ⟨w.heap.size + 1, 0, none⟩ (.int .i64 ky) := ⟨_, rfl⟩
  rw [← hW4]
  have HCs4 := Lib.hid (show ClAt W4 (w.heap.size + 1) ⟨ky, ch, 0, 0, []⟩ none 0 0 by rw [hW4]; exact ClAt.setKey HC4.out ky)
  have HTs4 := Lib.hid (show W4.there (w.heap.size + 1) 0 5 by rw [hW4]; exact there_setC HT4.out _ _)
  have HGs4 := Lib.hid (show W4.there w.heap.size 0 5 by rw [hW4]; exact there_setC HG4.out _ _)
  have hBs4 : Below w.heap.size w W4 := by rw [hW4]; exact hB4.setCell (by simp only; omega) _
  have hzs4 : w4.heap.size ≤ W4.heap.size := by rw [hW4]; simp only [World.setCell, Array.size_modify]; exact Nat.le_refl _
  clear hW4 x0 y0
  by_cases hz : z = 0
  rotate_left
  · have z1 : (z != 0) = true := by simp [hz]
    have z2 : (z == 0) = false := by simp [hz]
    have HD := Lib.hid (show decC 2 l = (zeroC, z) by rw [dec_key 2 l (by decide) (by rw [HCD.out]) (by rw [HCD.out, HKD.out]; exact hz), HCD.out, HKD.out])
    clear hz
    go_upto_region 16 with fail
    iterate 7 go_step
    refine wp_store_cl rfl _ _ rfl w.heap.size zeroC none 0 0 rfl rfl HGs4.out ?_
    repeat go_step
    refine ret_cl rfl rfl (ClAt.stored HGs4.out zeroC none 0 0) rfl ?_
    exact HFIN.out _ _ HD.out hBs4
  subst hz
  obtain ⟨q2, hq2, k1, k2, _, _⟩ := unv_at HB.out q1 (by first | (rw [HV.out]) | (have := HV.out; simp only [Int.ofNat_zero, Int.cast_ofNat_Int] at this ⊢; rw [this]))
  have hq2' : p2 = (q2 : Int) := by
    have h1 := HV.out
    have h2 : unvL l (q1 : Int) = unvL l ((q1 : Nat) : Int) := rfl
    rw [h2] at h1
    rw [h1] at hq2
    exact hq2
  subst hq2'
  rw [HN.out] at k2
  clear hq2
  go_wp2_with fail
  refine (rpays_any _ _).mono ?_
  rintro e w0 ⟨rfl, rfl⟩
  simp only [show decide ((2 : Int) ≠ 2) = false from rfl]
  have HYD := Lib.hid (show loadD 2 l (q2 : Int) = ⟨0, 0, [], (q2 : Int), 0⟩ from rfl)
  by_cases hq : (q2 : Int) = (n : Int)
  rotate_left
  · have hqb : ((q2 : Int) != (n : Int)) = true := by simp [hq]
    have HD := Lib.hid (show decC 2 l = (zeroC, 8) from dec_long 2 l (by decide) (by rw [HCD.out]) (by rw [HCD.out, HKD.out]) (by rw [HCD.out, HKD.out, HYD.out]) (by rw [HCD.out, HKD.out, HYD.out, HN.out]; exact hq))
    clear hq
    go_upto_region 18 with fail
    iterate 4 go_step
    refine wp_store_cl rfl _ _ rfl w.heap.size zeroC none 0 0 rfl rfl HGs4.out ?_
    repeat go_step
    refine ret_cl rfl rfl (ClAt.stored HGs4.out zeroC none 0 0) rfl ?_
    exact HFIN.out _ _ HD.out hBs4
  have hqb : ((q2 : Int) != (n : Int)) = false := by simp [hq]
  have HD := Lib.hid (show decC 2 l = (⟨ky, ch, 0, 0, []⟩, 0) by rw [dec_ok 2 l (by decide) (by rw [HCD.out]) (by rw [HCD.out, HKD.out]) (by rw [HCD.out, HKD.out, HYD.out]) (by rw [HCD.out, HKD.out, HYD.out, HN.out]; exact hq), HCD.out, HKD.out, HYD.out])
  clear hq
  go_upto_region 19 with fail
  go_step
  refine wp_load_cl rfl _ rfl (w.heap.size + 1) ⟨ky, ch, 0, 0, []⟩ none 0 0 rfl HCs4.out ?_
  refine wp_store_cl rfl _ _ rfl w.heap.size ⟨ky, ch, 0, 0, []⟩ none 0 0 rfl rfl HGs4.out ?_
  repeat go_step
  refine ret_cl rfl rfl (ClAt.stored HGs4.out ⟨ky, ch, 0, 0, []⟩ none 0 0) rfl ?_
  rw [HP.out]
  exact ⟨none, 0, 0, by rw [HD.out] <;> rfl, by rw [HD.out]; exact OwnB.nil _ _, below_setCellsC hBs4 (Nat.le_refl _) _ _⟩
set_option maxHeartbeats 16000000 in
theorem rdec_three (w : World) (A : Option Addr) (n c : Nat) (l : List Int) (hn : l.length = n) (hnc : n ≤ c) (hcm : c ≤ maxLen) (hA : Rd w A l) (hB : IsB l) (R : Ending → World → Prop) (hP : R = DecCBack w 3 l) :
    Calls Try.prog 33 #[.int .i64 3, .slice A n c] w R := by
  have HP := Lib.hid hP; clear hP
  have HN := Lib.hid hn; clear hn
  have HB := Lib.hid hB; clear hB
  have HCM := Lib.hid hcm
  unfold maxLen at hcm
  have HA0 := Lib.hid hA; clear hA
  obtain ⟨W2, hW2⟩ : ∃ W, W = (w.alloc (.cells #[.int .i64 0, .int .i64 0, .int .i64 0, .slice none 0 0, .int .i64 0] 55)).alloc (.cells #[.int .i64 0, .int .i64 0, .int .i64 0, .slice none 0 0, .int .i64 0] 55) := ⟨_, rfl⟩
  have hbW : Below w.heap.size w W2 := by rw [hW2]; exact ((Below.refl _ _).alloc (Nat.le_refl _) _).alloc (by simp) _
  have hzW : W2.heap.size = w.heap.size + 2 := by rw [hW2]; simp
  have HC0 := Lib.hid (show ClAt W2 (w.heap.size + 1) ⟨0, 0, 0, 0, []⟩ none 0 0 by
    rw [hW2]
    exact ⟨by simp [go_sem], by simp [go_sem], by simp [go_sem], by simp [go_sem], by simp [go_sem]⟩)
  have HT0 := Lib.hid (show W2.there (w.heap.size + 1) 0 5 by
    rw [hW2]
    intro j hj
    rcases (by omega : j = 0 ∨ j = 1 ∨ j = 2 ∨ j = 3 ∨ j = 4) with rfl | rfl | rfl | rfl | rfl <;> simp [go_sem])
  have HG0 := Lib.hid (show W2.there w.heap.size 0 5 by
    rw [hW2]
    intro j hj
    rcases (by omega : j = 0 ∨ j = 1 ∨ j = 2 ∨ j = 3 ∨ j = 4) with rfl | rfl | rfl | rfl | rfl <;> simp [go_sem])
  have HW := Lib.hid hW2
  have hfin : ∀ (W : World) (e' : Int), decC 3 l = (zeroC, e') → Below w.heap.size w W → R (.returned (.tuple #[zeroC.val none 0 0, .int .i64 e'])) (W.setCells w.heap.size 0 (clC zeroC none 0 0)) := by
    intro W e' h1 h2
    rw [HP.out]
    exact ⟨none, 0, 0, by rw [h1], by rw [h1]; exact OwnB.nil _ _, below_setCellsC h2 (Nat.le_refl _) _ _⟩
  have HFIN := Lib.hid hfin; clear hfin
  go_enter Try.func33, Try.ntmps33
  go_wp2_with fail
  refine (rkind_any _ 3).mono ?_
  rintro e w1 ⟨rfl, rfl⟩
  simp only [show decide (isK 3) = true from rfl]
  go_wp2_with fail
  rw [← hW2]
  clear hW2 HW
  refine (rchild_any _ _).mono ?_
  rintro e w0 ⟨rfl, rfl⟩
  simp only [show decide (hasC 3) = false from rfl]
  have HCD := Lib.hid (show childD 3 l = (0, 0, 0) from rfl)
  go_wp2_with fail
  refine (rkeyed_any _ _).mono ?_
  rintro e w0 ⟨rfl, rfl⟩
  simp only [show decide (hasK 3) = false from rfl]
  have HKD := Lib.hid (show keyD 3 l 0 = (0, 0, 0) from rfl)
  go_wp2_with fail
  refine (rpays_any _ _).mono ?_
  rintro e w0 ⟨rfl, rfl⟩
  simp only [show decide ((3 : Int) ≠ 2) = true from rfl]
  go_upto_region 14 with fail
  go_step
  refine wp_load_cl rfl _ rfl (w.heap.size + 1) ⟨0, 0, 0, 0, []⟩ none 0 0 rfl HC0.out ?_
  go_wp2_with fail
  refine (rpay_at _ 0 0 A n c l 0 0 rfl HN.out hnc HCM.out (HA0.out.keep hbW) HB.out (by omega)).mono ?_
  rintro e w5 ⟨D, m, dc, rfl, hr5, hb5⟩
  have HR5 := Lib.hid hr5; clear hr5
  obtain ⟨y, hy⟩ : ∃ y, payD l 0 = y := ⟨_, rfl⟩
  have HY := Lib.hid hy
  have HYD := Lib.hid (show loadD 3 l 0 = y from (if_neg (by decide)).trans hy)
  simp only [hy]
  rw [hy] at HR5
  clear hy
  have hB5 : Below w.heap.size w w5 := hbW.trans (hb5.mono hbW.size)
  have HG5 := Lib.hid (there_keepC HG0.out hb5 (by omega))
  have HT5 := Lib.hid (there_keepC HT0.out hb5 (by omega))
  have HC5 := Lib.hid (HC0.out.keep hb5)
  have hz5 := hb5.size
  clear hb5
  obtain ⟨cc, hcc⟩ : ∃ cc, payC 0 0 y = cc := ⟨_, rfl⟩
  rw [hcc] at HR5 ⊢
  have HCC := Lib.hid hcc; clear hcc
  iterate 13 go_step
  refine wp_store_cl rfl _ _ rfl (w.heap.size + 1) cc D m dc rfl rfl HT5.out ?_
  obtain ⟨W7, hW7⟩ : ∃ W, W = w5.setCells (w.heap.size + 1) 0 (clC cc D m dc) := ⟨_, rfl⟩
  have HC7 := Lib.hid (show ClAt W7 (w.heap.size + 1) cc D m dc by rw [hW7]; exact ClAt.stored HT5.out cc D m dc)
  have HG7 := Lib.hid (show W7.there w.heap.size 0 5 by rw [hW7]; exact World.there_setCells HG5.out _ _ _)
  have hB7 : Below w.heap.size w W7 := by rw [hW7]; exact below_setCellsC hB5 (by omega) _ _
  have HR7 := Lib.hid (show OwnB W7 (w.heap.size + 2) D m dc cc.loc by rw [hW7]; exact (HR5.out.mono (base' := w.heap.size + 2) (by omega)).apartC (fun i hi => heap_setCellsC _ _ _ _ _ (by omega)))
  rw [← hW7]
  clear hW7
  obtain ⟨yt, ysp, yl, ya, ye⟩ := y
  by_cases hz : ye = 0
  rotate_left
  · have z1 : (ye != 0) = true := by simp [hz]
    have z2 : (ye == 0) = false := by simp [hz]
    have HD := Lib.hid (show decC 3 l = (zeroC, ye) by rw [dec_load 3 l (by decide) (by rw [HCD.out]) (by rw [HCD.out, HKD.out]) (by rw [HCD.out, HKD.out, HYD.out]; exact hz), HCD.out, HKD.out, HYD.out])
    clear hz
    go_upto_region 16 with fail
    iterate 7 go_step
    refine wp_store_cl rfl _ _ rfl w.heap.size zeroC none 0 0 rfl rfl HG7.out ?_
    repeat go_step
    refine ret_cl rfl rfl (ClAt.stored HG7.out zeroC none 0 0) rfl ?_
    exact HFIN.out _ _ HD.out hB7
  subst hz
  by_cases hq : ya = (n : Int)
  rotate_left
  · have hqb : (ya != (n : Int)) = true := by simp [hq]
    have HD := Lib.hid (show decC 3 l = (zeroC, 8) from dec_long 3 l (by decide) (by rw [HCD.out]) (by rw [HCD.out, HKD.out]) (by rw [HCD.out, HKD.out, HYD.out]) (by rw [HCD.out, HKD.out, HYD.out, HN.out]; exact hq))
    clear hq
    go_upto_region 18 with fail
    iterate 4 go_step
    refine wp_store_cl rfl _ _ rfl w.heap.size zeroC none 0 0 rfl rfl HG7.out ?_
    repeat go_step
    refine ret_cl rfl rfl (ClAt.stored HG7.out zeroC none 0 0) rfl ?_
    exact HFIN.out _ _ HD.out hB7
  have hqb : (ya != (n : Int)) = false := by simp [hq]
  have hcc : cc = ⟨0, 0, yt, ysp, yl⟩ := HCC.out.symm.trans (if_pos rfl)
  subst hcc
  have HD := Lib.hid (show decC 3 l = (⟨0, 0, yt, ysp, yl⟩, 0) by rw [dec_ok 3 l (by decide) (by rw [HCD.out]) (by rw [HCD.out, HKD.out]) (by rw [HCD.out, HKD.out, HYD.out]) (by rw [HCD.out, HKD.out, HYD.out, HN.out]; exact hq), HCD.out, HKD.out, HYD.out])
  clear hq
  go_upto_region 19 with fail
  go_step
  refine wp_load_cl rfl _ rfl (w.heap.size + 1) ⟨0, 0, yt, ysp, yl⟩ D m dc rfl HC7.out ?_
  refine wp_store_cl rfl _ _ rfl w.heap.size ⟨0, 0, yt, ysp, yl⟩ D m dc rfl rfl HG7.out ?_
  repeat go_step
  refine ret_cl rfl rfl (ClAt.stored HG7.out ⟨0, 0, yt, ysp, yl⟩ D m dc) rfl ?_
  rw [HP.out]
  exact ⟨D, m, dc, by rw [HD.out] <;> rfl, by rw [HD.out]; exact (HR7.out.apartC (fun i hi => heap_setCellsC _ _ _ _ _ (by omega))).mono (by omega), below_setCellsC hB7 (Nat.le_refl _) _ _⟩
set_option maxHeartbeats 16000000 in
theorem rdec_four (w : World) (A : Option Addr) (n c : Nat) (l : List Int) (hn : l.length = n) (hnc : n ≤ c) (hcm : c ≤ maxLen) (hA : Rd w A l) (hB : IsB l) (R : Ending → World → Prop) (hP : R = DecCBack w 4 l) :
    Calls Try.prog 33 #[.int .i64 4, .slice A n c] w R := by
  have HP := Lib.hid hP; clear hP
  have HN := Lib.hid hn; clear hn
  have HB := Lib.hid hB; clear hB
  have HCM := Lib.hid hcm
  unfold maxLen at hcm
  have HA0 := Lib.hid hA; clear hA
  obtain ⟨W2, hW2⟩ : ∃ W, W = (w.alloc (.cells #[.int .i64 0, .int .i64 0, .int .i64 0, .slice none 0 0, .int .i64 0] 55)).alloc (.cells #[.int .i64 0, .int .i64 0, .int .i64 0, .slice none 0 0, .int .i64 0] 55) := ⟨_, rfl⟩
  have hbW : Below w.heap.size w W2 := by rw [hW2]; exact ((Below.refl _ _).alloc (Nat.le_refl _) _).alloc (by simp) _
  have hzW : W2.heap.size = w.heap.size + 2 := by rw [hW2]; simp
  have HC0 := Lib.hid (show ClAt W2 (w.heap.size + 1) ⟨0, 0, 0, 0, []⟩ none 0 0 by
    rw [hW2]
    exact ⟨by simp [go_sem], by simp [go_sem], by simp [go_sem], by simp [go_sem], by simp [go_sem]⟩)
  have HT0 := Lib.hid (show W2.there (w.heap.size + 1) 0 5 by
    rw [hW2]
    intro j hj
    rcases (by omega : j = 0 ∨ j = 1 ∨ j = 2 ∨ j = 3 ∨ j = 4) with rfl | rfl | rfl | rfl | rfl <;> simp [go_sem])
  have HG0 := Lib.hid (show W2.there w.heap.size 0 5 by
    rw [hW2]
    intro j hj
    rcases (by omega : j = 0 ∨ j = 1 ∨ j = 2 ∨ j = 3 ∨ j = 4) with rfl | rfl | rfl | rfl | rfl <;> simp [go_sem])
  have HW := Lib.hid hW2
  have hfin : ∀ (W : World) (e' : Int), decC 4 l = (zeroC, e') → Below w.heap.size w W → R (.returned (.tuple #[zeroC.val none 0 0, .int .i64 e'])) (W.setCells w.heap.size 0 (clC zeroC none 0 0)) := by
    intro W e' h1 h2
    rw [HP.out]
    exact ⟨none, 0, 0, by rw [h1], by rw [h1]; exact OwnB.nil _ _, below_setCellsC h2 (Nat.le_refl _) _ _⟩
  have HFIN := Lib.hid hfin; clear hfin
  go_enter Try.func33, Try.ntmps33
  go_wp2_with fail
  refine (rkind_any _ 4).mono ?_
  rintro e w1 ⟨rfl, rfl⟩
  simp only [show decide (isK 4) = true from rfl]
  go_wp2_with fail
  rw [← hW2]
  clear hW2 HW
  refine (rchild_any _ _).mono ?_
  rintro e w0 ⟨rfl, rfl⟩
  simp only [show decide (hasC 4) = true from rfl]
  go_wp2_with fail
  refine (within_any _ A n c l 0 1 1048576 HN.out (by omega) (HA0.out.keep hbW) HB.out (by omega) _ rfl).mono ?_
  rintro e w3 ⟨rfl, hb3⟩
  obtain ⟨⟨ch, p1, z⟩, hU⟩ : ∃ U, wn l 0 1 1048576 = U := ⟨_, rfl⟩
  have HU := Lib.hid hU
  have HCD := Lib.hid (show childD 4 l = (ch, p1, z) from (if_pos (by decide)).trans hU)
  simp only [hU]
  clear hU
  have hB3 : Below w.heap.size w w3 := hbW.trans (hb3.mono hbW.size)
  have HG3 := Lib.hid (there_keepC HG0.out hb3 (by omega))
  have HT3 := Lib.hid (there_keepC HT0.out hb3 (by omega))
  have HC3 := Lib.hid (HC0.out.keep hb3)
  have hz3 := hb3.size
  clear hb3
  have x1 := HC3.out.2.1
  have y1 : w3.frozen? ⟨w.heap.size + 1, 1, none⟩ = false := by simpa using (HT3.out 1 (by decide)).2
  go_upto_region 8 with fail
  obtain ⟨W3, hW3⟩ : ∃ W, W = w3.setCell ⟨w.heap.size + 1, 1, none⟩ (.int .i64 ch) := ⟨_, rfl⟩
  rw [← hW3]
  have HCs3 := Lib.hid (show ClAt W3 (w.heap.size + 1) ⟨0, ch, 0, 0, []⟩ none 0 0 by rw [hW3]; exact ClAt.setChild HC3.out ch)
  have HTs3 := Lib.hid (show W3.there (w.heap.size + 1) 0 5 by rw [hW3]; exact there_setC HT3.out _ _)
  have HGs3 := Lib.hid (show W3.there w.heap.size 0 5 by rw [hW3]; exact there_setC HG3.out _ _)
  have hBs3 : Below w.heap.size w W3 := by rw [hW3]; exact hB3.setCell (by simp only; omega) _
  have hzs3 : w3.heap.size ≤ W3.heap.size := by rw [hW3]; simp only [World.setCell, Array.size_modify]; exact Nat.le_refl _
  clear hW3 x1 y1
  by_cases hz : z = 0
  rotate_left
  · have z1 : (z != 0) = true := by simp [hz]
    have z2 : (z == 0) = false := by simp [hz]
    have HD := Lib.hid (show decC 4 l = (zeroC, z) by rw [dec_child 4 l (by decide) (by rw [HCD.out]; exact hz), HCD.out])
    clear hz
    go_upto_region 16 with fail
    iterate 7 go_step
    refine wp_store_cl rfl _ _ rfl w.heap.size zeroC none 0 0 rfl rfl HGs3.out ?_
    repeat go_step
    refine ret_cl rfl rfl (ClAt.stored HGs3.out zeroC none 0 0) rfl ?_
    exact HFIN.out _ _ HD.out hBs3
  subst hz
  obtain ⟨q1, rfl, l1, l2, _, _, _, _⟩ := wn_at (a := 0) HB.out (by simpa using HU.out)
  rw [HN.out] at l2
  go_wp2_with fail
  refine (rkeyed_any _ _).mono ?_
  rintro e w0 ⟨rfl, rfl⟩
  simp only [show decide (hasK 4) = false from rfl]
  have HKD := Lib.hid (show keyD 4 l (q1 : Int) = (0, (q1 : Int), 0) from rfl)
  go_wp2_with fail
  refine (rpays_any _ _).mono ?_
  rintro e w0 ⟨rfl, rfl⟩
  simp only [show decide ((4 : Int) ≠ 2) = true from rfl]
  go_upto_region 14 with fail
  go_step
  refine wp_load_cl rfl _ rfl (w.heap.size + 1) ⟨0, ch, 0, 0, []⟩ none 0 0 rfl HCs3.out ?_
  go_wp2_with fail
  refine (rpay_at _ 0 ch A n c l (q1 : Int) q1 rfl HN.out hnc HCM.out (HA0.out.keep hBs3) HB.out (by omega)).mono ?_
  rintro e w5 ⟨D, m, dc, rfl, hr5, hb5⟩
  have HR5 := Lib.hid hr5; clear hr5
  obtain ⟨y, hy⟩ : ∃ y, payD l (q1 : Int) = y := ⟨_, rfl⟩
  have HY := Lib.hid hy
  have HYD := Lib.hid (show loadD 4 l (q1 : Int) = y from (if_neg (by decide)).trans hy)
  simp only [hy]
  rw [hy] at HR5
  clear hy
  have hB5 : Below w.heap.size w w5 := hBs3.trans (hb5.mono hBs3.size)
  have HG5 := Lib.hid (there_keepC HGs3.out hb5 (by omega))
  have HT5 := Lib.hid (there_keepC HTs3.out hb5 (by omega))
  have HC5 := Lib.hid (HCs3.out.keep hb5)
  have hz5 := hb5.size
  clear hb5
  obtain ⟨cc, hcc⟩ : ∃ cc, payC 0 ch y = cc := ⟨_, rfl⟩
  rw [hcc] at HR5 ⊢
  have HCC := Lib.hid hcc; clear hcc
  iterate 13 go_step
  refine wp_store_cl rfl _ _ rfl (w.heap.size + 1) cc D m dc rfl rfl HT5.out ?_
  obtain ⟨W7, hW7⟩ : ∃ W, W = w5.setCells (w.heap.size + 1) 0 (clC cc D m dc) := ⟨_, rfl⟩
  have HC7 := Lib.hid (show ClAt W7 (w.heap.size + 1) cc D m dc by rw [hW7]; exact ClAt.stored HT5.out cc D m dc)
  have HG7 := Lib.hid (show W7.there w.heap.size 0 5 by rw [hW7]; exact World.there_setCells HG5.out _ _ _)
  have hB7 : Below w.heap.size w W7 := by rw [hW7]; exact below_setCellsC hB5 (by omega) _ _
  have HR7 := Lib.hid (show OwnB W7 (w.heap.size + 2) D m dc cc.loc by rw [hW7]; exact (HR5.out.mono (base' := w.heap.size + 2) (by omega)).apartC (fun i hi => heap_setCellsC _ _ _ _ _ (by omega)))
  rw [← hW7]
  clear hW7
  obtain ⟨yt, ysp, yl, ya, ye⟩ := y
  by_cases hz : ye = 0
  rotate_left
  · have z1 : (ye != 0) = true := by simp [hz]
    have z2 : (ye == 0) = false := by simp [hz]
    have HD := Lib.hid (show decC 4 l = (zeroC, ye) by rw [dec_load 4 l (by decide) (by rw [HCD.out]) (by rw [HCD.out, HKD.out]) (by rw [HCD.out, HKD.out, HYD.out]; exact hz), HCD.out, HKD.out, HYD.out])
    clear hz
    go_upto_region 16 with fail
    iterate 7 go_step
    refine wp_store_cl rfl _ _ rfl w.heap.size zeroC none 0 0 rfl rfl HG7.out ?_
    repeat go_step
    refine ret_cl rfl rfl (ClAt.stored HG7.out zeroC none 0 0) rfl ?_
    exact HFIN.out _ _ HD.out hB7
  subst hz
  by_cases hq : ya = (n : Int)
  rotate_left
  · have hqb : (ya != (n : Int)) = true := by simp [hq]
    have HD := Lib.hid (show decC 4 l = (zeroC, 8) from dec_long 4 l (by decide) (by rw [HCD.out]) (by rw [HCD.out, HKD.out]) (by rw [HCD.out, HKD.out, HYD.out]) (by rw [HCD.out, HKD.out, HYD.out, HN.out]; exact hq))
    clear hq
    go_upto_region 18 with fail
    iterate 4 go_step
    refine wp_store_cl rfl _ _ rfl w.heap.size zeroC none 0 0 rfl rfl HG7.out ?_
    repeat go_step
    refine ret_cl rfl rfl (ClAt.stored HG7.out zeroC none 0 0) rfl ?_
    exact HFIN.out _ _ HD.out hB7
  have hqb : (ya != (n : Int)) = false := by simp [hq]
  have hcc : cc = ⟨0, ch, yt, ysp, yl⟩ := HCC.out.symm.trans (if_pos rfl)
  subst hcc
  have HD := Lib.hid (show decC 4 l = (⟨0, ch, yt, ysp, yl⟩, 0) by rw [dec_ok 4 l (by decide) (by rw [HCD.out]) (by rw [HCD.out, HKD.out]) (by rw [HCD.out, HKD.out, HYD.out]) (by rw [HCD.out, HKD.out, HYD.out, HN.out]; exact hq), HCD.out, HKD.out, HYD.out])
  clear hq
  go_upto_region 19 with fail
  go_step
  refine wp_load_cl rfl _ rfl (w.heap.size + 1) ⟨0, ch, yt, ysp, yl⟩ D m dc rfl HC7.out ?_
  refine wp_store_cl rfl _ _ rfl w.heap.size ⟨0, ch, yt, ysp, yl⟩ D m dc rfl rfl HG7.out ?_
  repeat go_step
  refine ret_cl rfl rfl (ClAt.stored HG7.out ⟨0, ch, yt, ysp, yl⟩ D m dc) rfl ?_
  rw [HP.out]
  exact ⟨D, m, dc, by rw [HD.out] <;> rfl, by rw [HD.out]; exact (HR7.out.apartC (fun i hi => heap_setCellsC _ _ _ _ _ (by omega))).mono (by omega), below_setCellsC hB7 (Nat.le_refl _) _ _⟩
end Go.Proofs.Ytoeaffmlolapnaa
