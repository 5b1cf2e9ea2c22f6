/- Walks: tomeref05.Decode, First. -/
import Derived.Test.YtbbdglikdogmhaaRcX
namespace Go.Proofs.Ytbbdglikdogmhaa
open Go.RowKit
set_option maxRecDepth 100000
set_option linter.unusedVariables false
set_option linter.unusedSimpArgs false
set_option linter.unnecessarySimpa false

theorem heads_back {l : List Int} (hB : IsB l) (t : Int) (h : (headsV l t).2.2 = 0) : ∃ q : Nat, (headsV l t).2.1 = q ∧ q ≤ l.length ∧ (headsV l t).1.length ≤ 64 ∧ t ≤ ((headsV l t).1.length : Int) ∧ GoodC (headsV l t).1 := by
  unfold headsV at h ⊢
  by_cases h1 : (unvL l 0).2.2 = 0
  case neg => rw [if_pos h1] at h; exact absurd h h1
  rw [if_neg (by simp [h1])] at h ⊢
  by_cases h2 : (unvL l 0).1 < 0
  · rw [if_pos h2] at h; exact absurd h (by decide)
  rw [if_neg h2] at h ⊢
  by_cases h3 : 64 < (unvL l 0).1
  · rw [if_pos h3] at h; exact absurd h (by decide)
  rw [if_neg h3] at h ⊢
  by_cases h4 : (unvL l 0).1 < t
  · rw [if_pos h4] at h; exact absurd h (by decide)
  rw [if_neg h4] at h ⊢
  obtain ⟨q2, e1, e2, e3, e4, e5⟩ := unv_at hB 0 h1
  have e1' : (unvL l 0).2.1 = (q2 : Int) := e1
  rw [e1'] at h ⊢
  obtain ⟨q3, b1, b2, b3, b4, b5, _⟩ := codes_back hB (unvL l 0).1.toNat q2 e3 h
  exact ⟨q3, b1, b3, by rw [b4]; omega, by rw [b4]; omega, b5⟩
theorem dec_heads {l : List Int} (hl : ¬ 16384 < l.length) : decV l =
    if (headsV l 0).2.2 ≠ 0 then ([], (headsV l 0).2.2) else
    if (valsV l (headsV l 0).1 (headsV l 0).2.1).2.2 ≠ 0 then ([], (valsV l (headsV l 0).1 (headsV l 0).2.1).2.2) else
    if (valsV l (headsV l 0).1 (headsV l 0).2.1).2.1 ≠ (l.length : Int) then ([], 8) else ((valsV l (headsV l 0).1 (headsV l 0).2.1).1, 0) := by
  unfold decV headV headsV
  rw [if_neg hl]
  by_cases h1 : (unvL l 0).2.2 = 0
  case neg => simp only [if_pos h1]
  simp only [h1, ne_eq, not_true_eq_false, if_false]
  by_cases h2 : (unvL l 0).1 < 0
  · simp [if_pos h2]
  simp only [if_neg h2]
  by_cases h3 : 64 < (unvL l 0).1
  · simp [if_pos h3]
  simp only [if_neg h3, not_true_eq_false, if_false]
theorem first_heads {l : List Int} {t : Int} (ht : ¬ t < 0) (hl : ¬ 16384 < l.length) : firstV l t =
    if (headsV l t).2.2 ≠ 0 then ([], (headsV l t).2.2) else
    ((valsV l ((headsV l t).1.take t.toNat) (headsV l t).2.1).1, (valsV l ((headsV l t).1.take t.toNat) (headsV l t).2.1).2.2) := by
  unfold firstV headV headsV
  rw [if_neg ht, if_neg hl]
  by_cases h1 : (unvL l 0).2.2 = 0
  case neg => simp only [if_pos h1]
  simp only [h1, ne_eq, not_true_eq_false, if_false]
  by_cases h2 : (unvL l 0).1 < 0
  · simp [if_pos h2]
  simp only [if_neg h2]
  by_cases h3 : 64 < (unvL l 0).1
  · simp [if_pos h3]
  simp only [if_neg h3]
  by_cases h4 : (unvL l 0).1 < t
  · simp [if_pos h4]
  simp [if_neg h4]

set_option maxHeartbeats 8000000 in
theorem rdec_any (w : World) (A : Option Addr) (n c : Nat) (l : List Int) (hn : l.length = n) (hnc : n ≤ c) (hcm : c ≤ maxLen) (hA : Rd w A l) (hB : IsB l) (R : Ending → World → Prop) (hR : R = DecVBack w (decV l)) :
    Calls Try.prog 17 #[.slice A n c] w R := by
  have HR := Lib.hid hR; clear hR
  have HL := Lib.hid hn; clear hn
  have HB := Lib.hid hB; clear hB
  have HA := Lib.hid hA; clear hA
  have HC := Lib.hid hcm
  unfold maxLen at hcm
  have hfin : ∀ W z, decV l = ([], z) → Below w.heap.size w W → R (.returned (.tuple #[.slice none 0 0, .int .i64 z])) W := fun W z h1 h2 => by
    rw [HR.out]
    exact ⟨none, 0, 0, by rw [h1], by rw [h1]; exact OwnV.nil _ _, h2⟩
  have HFIN := Lib.hid hfin; clear hfin
  by_cases hbig : 16384 < n
  · have HF := Lib.hid (show decV l = ([], 3) by
      have h3 : headV l = (0, 0, 3) := if_pos (by rw [HL.out]; exact hbig)
      unfold decV
      rw [h3]
      exact if_pos (by decide))
    go_enter Try.func17, Try.ntmps17
    go_wp2
    exact HFIN.out _ _ HF.out (Below.refl _ _)
  have HD := Lib.hid (dec_heads (l := l) (by rw [HL.out]; exact hbig))
  obtain ⟨⟨cs, p, z⟩, hH⟩ : ∃ H, headsV l 0 = H := ⟨_, rfl⟩
  have HH := Lib.hid hH
  clear hH
  go_enter Try.func17, Try.ntmps17
  go_wp2_with fail
  refine (heads_any _ A n c l HL.out hnc HC.out HA.out HB.out 0 ⟨by omega, by omega⟩ _ rfl).mono ?_
  rintro e w1 ⟨E, m, d, rfl, hown1, hb1⟩
  rw [HH.out] at hown1
  simp only [HH.out]
  have HO1 := Lib.hid hown1
  clear hown1
  have hz1 := hb1.size
  obtain ⟨W3, hW3⟩ : ∃ W, W = w1.alloc (.cells #[.slice none 0 0, .int .i64 0] 68) := ⟨_, rfl⟩
  have hb3 : Below w1.heap.size w1 W3 := by rw [hW3]; exact (Below.refl _ _).alloc (Nat.le_refl _) _
  have HTH := Lib.hid (show W3.there w1.heap.size 0 2 by
    rw [hW3]
    intro j hj
    rcases (by omega : j = 0 ∨ j = 1) with rfl | rfl <;> simp [go_sem])
  have HW := Lib.hid hW3
  iterate 13 go_step
  rw [← hW3]
  clear hW3 HW
  refine wp_store_pt rfl _ _ rfl w1.heap.size E m d p rfl rfl HTH.out ?_
  obtain ⟨W4, hW4⟩ : ∃ W, W = W3.setCells w1.heap.size 0 (ptC E m d p) := ⟨_, rfl⟩
  have hb4 : Below w1.heap.size w1 W4 := by rw [hW4]; exact below_setCellsV hb3 (Nat.le_refl _) _ _
  have hpt : PtAt W4 w1.heap.size E m d p := by rw [hW4]; exact PtAt.stored HTH.out E m d p
  have HPT := Lib.hid hpt
  rw [← hW4]
  clear hW4 hb3 HTH
  have hB4 := hb1.trans (hb4.mono hz1)
  have HO4 := Lib.hid (HO1.out.keep hb4)
  have hz4 := hB4.size
  clear hb4 HO1
  by_cases hz : z = 0
  rotate_left
  · have hzb : (z != 0) = true := by simp [hz]
    have HF := Lib.hid (show decV l = ([], z) by rw [HD.out, HH.out]; exact if_pos hz)
    clear hz hpt
    go_wp2
    exact HFIN.out _ _ HF.out hB4
  subst hz
  obtain ⟨q, a1, a2, a3, _, a5⟩ := heads_back HB.out 0 (by rw [HH.out])
  rw [HH.out] at a1 a3 a5
  simp only at a1 a3 a5
  subst a1
  rw [HL.out] at a2
  have hml : cs.length = m := HO4.out.1
  rw [hml] at a3
  have HML := Lib.hid hml
  have HG := Lib.hid a5
  clear hml a5
  obtain ⟨⟨vs, p3, z⟩, hV⟩ : ∃ V, valsV l cs q = V := ⟨_, rfl⟩
  have HV := Lib.hid hV
  clear hV
  obtain ⟨m0, m1⟩ := hpt
  go_upto_region 6 with fail
  iterate 4 go_step
  refine wp_load_pt rfl _ rfl w1.heap.size E m d (q : Int) rfl HPT.out ?_
  go_wp2_with fail
  refine (values_any _ A n c l HL.out hnc HC.out (HA.out.keep hB4) HB.out E m d cs HML.out a3 HO4.out.rd HG.out q m a2 (Nat.le_refl _) _ rfl).mono ?_
  rintro e w5 ⟨D, k, cD, rfl, hown5, hb5⟩
  have htk : cs.take m = cs := List.take_of_length_le (by rw [HML.out]; exact Nat.le_refl _)
  rw [htk, HV.out] at hown5
  simp only [htk, HV.out]
  clear htk m0 m1
  have hB5 := hB4.trans (hb5.mono hz4)
  have HO5 := Lib.hid (hown5.mono hz4)
  clear hown5 hb5 HPT
  by_cases hz : z = 0
  rotate_left
  · have hzb : (z != 0) = true := by simp [hz]
    have HF := Lib.hid (show decV l = ([], z) by rw [HD.out, HH.out, HV.out, if_neg (by simp)]; exact if_pos hz)
    clear hz
    go_wp2
    exact HFIN.out _ _ HF.out hB5
  subst hz
  obtain ⟨q3, c1, c2, c3, _⟩ := vals_back HB.out cs q HG.out (by rw [HL.out]; exact a2) (by rw [HV.out])
  rw [HV.out] at c1
  simp only at c1
  subst c1
  rw [HL.out] at c3
  by_cases hend : q3 = n
  rotate_left
  · have hne : ((q3 : Int) != (n : Int)) = true := by simp; omega
    have HF := Lib.hid (show decV l = ([], 8) by rw [HD.out, HH.out, HV.out, if_neg (by simp), if_neg (by simp)]; exact if_pos (by rw [HL.out]; simp only; omega))
    clear hend
    go_wp2
    exact HFIN.out _ _ HF.out hB5
  · have hne : ((q3 : Int) != (n : Int)) = false := by simp; omega
    have HF := Lib.hid (show decV l = (vs, 0) by rw [HD.out, HH.out, HV.out, if_neg (by simp), if_neg (by simp)]; exact if_neg (by rw [HL.out]; simp only; omega))
    clear hend
    go_wp2
    rw [HR.out]
    exact ⟨D, k, cD, by rw [HF.out], by rw [HF.out]; exact HO5.out, hB5⟩

set_option maxHeartbeats 8000000 in
theorem rfirst_any (w : World) (A : Option Addr) (n c : Nat) (l : List Int) (hn : l.length = n) (hnc : n ≤ c) (hcm : c ≤ maxLen) (hA : Rd w A l) (hB : IsB l) (t : Int) (ht : i64K t) (R : Ending → World → Prop) (hR : R = DecVBack w (firstV l t)) :
    Calls Try.prog 19 #[.slice A n c, .int .i64 t] w R := by
  have HR := Lib.hid hR; clear hR
  have HL := Lib.hid hn; clear hn
  have HB := Lib.hid hB; clear hB
  have HA := Lib.hid hA; clear hA
  have HC := Lib.hid hcm
  unfold maxLen at hcm
  have HT := Lib.hid ht
  obtain ⟨t0, t1⟩ := ht
  have hfin : ∀ W z, firstV l t = ([], z) → Below w.heap.size w W → R (.returned (.tuple #[.slice none 0 0, .int .i64 z])) W := fun W z h1 h2 => by
    rw [HR.out]
    exact ⟨none, 0, 0, by rw [h1], by rw [h1]; exact OwnV.nil _ _, h2⟩
  have HFIN := Lib.hid hfin; clear hfin
  by_cases hneg : t < 0
  · have HF := Lib.hid (show firstV l t = ([], 1) from if_pos hneg)
    go_enter Try.func19, Try.ntmps19
    go_wp2
    exact HFIN.out _ _ HF.out (Below.refl _ _)
  by_cases hbig : 16384 < n
  · have HF := Lib.hid (show firstV l t = ([], 3) by
      have h3 : headV l = (0, 0, 3) := if_pos (by rw [HL.out]; exact hbig)
      unfold firstV
      rw [if_neg hneg, h3]
      exact if_pos (by decide))
    go_enter Try.func19, Try.ntmps19
    go_wp2
    exact HFIN.out _ _ HF.out (Below.refl _ _)
  have HD := Lib.hid (first_heads (l := l) hneg (by rw [HL.out]; exact hbig))
  obtain ⟨⟨cs, p, z⟩, hH⟩ : ∃ H, headsV l t = H := ⟨_, rfl⟩
  have HH := Lib.hid hH
  clear hH
  go_enter Try.func19, Try.ntmps19
  go_wp2_with fail
  refine (heads_any _ A n c l HL.out hnc HC.out HA.out HB.out t HT.out _ rfl).mono ?_
  rintro e w1 ⟨E, m, d, rfl, hown1, hb1⟩
  rw [HH.out] at hown1
  simp only [HH.out]
  have HO1 := Lib.hid hown1
  clear hown1
  have hz1 := hb1.size
  obtain ⟨W3, hW3⟩ : ∃ W, W = w1.alloc (.cells #[.slice none 0 0, .int .i64 0] 68) := ⟨_, rfl⟩
  have hb3 : Below w1.heap.size w1 W3 := by rw [hW3]; exact (Below.refl _ _).alloc (Nat.le_refl _) _
  have HTH := Lib.hid (show W3.there w1.heap.size 0 2 by
    rw [hW3]
    intro j hj
    rcases (by omega : j = 0 ∨ j = 1) with rfl | rfl <;> simp [go_sem])
  have HW := Lib.hid hW3
  iterate 13 go_step
  rw [← hW3]
  clear hW3 HW
  refine wp_store_pt rfl _ _ rfl w1.heap.size E m d p rfl rfl HTH.out ?_
  obtain ⟨W4, hW4⟩ : ∃ W, W = W3.setCells w1.heap.size 0 (ptC E m d p) := ⟨_, rfl⟩
  have hb4 : Below w1.heap.size w1 W4 := by rw [hW4]; exact below_setCellsV hb3 (Nat.le_refl _) _ _
  have HPT := Lib.hid (show PtAt W4 w1.heap.size E m d p by rw [hW4]; exact PtAt.stored HTH.out E m d p)
  rw [← hW4]
  clear hW4 hb3 HTH
  have hB4 := hb1.trans (hb4.mono hz1)
  have HO4 := Lib.hid (HO1.out.keep hb4)
  have hz4 := hB4.size
  clear hb4 HO1
  by_cases hz : z = 0
  rotate_left
  · have hzb : (z != 0) = true := by simp [hz]
    have HF := Lib.hid (show firstV l t = ([], z) by rw [HD.out, HH.out]; exact if_pos hz)
    clear hz
    go_wp2
    exact HFIN.out _ _ HF.out hB4
  subst hz
  obtain ⟨q, a1, a2, a3, a4, a5⟩ := heads_back HB.out t (by rw [HH.out])
  rw [HH.out] at a1 a3 a4 a5
  simp only at a1 a3 a4 a5
  subst a1
  rw [HL.out] at a2
  have hml : cs.length = m := HO4.out.1
  rw [hml] at a3 a4
  have HML := Lib.hid hml
  have HG := Lib.hid a5
  clear hml a5
  obtain ⟨N, rfl⟩ := Int.eq_ofNat_of_zero_le (show 0 ≤ t by omega)
  have hNm : N ≤ m := by omega
  clear a4 hneg
  obtain ⟨⟨vs, p3, z⟩, hV⟩ : ∃ V, valsV l (cs.take N) q = V := ⟨_, rfl⟩
  have HV := Lib.hid hV
  clear hV
  have HF := Lib.hid (show firstV l (N : Int) = (vs, z) by rw [HD.out, HH.out, if_neg (by simp), Int.toNat_natCast, HV.out])
  go_upto_region 8 with fail
  iterate 4 go_step
  refine wp_load_pt rfl _ rfl w1.heap.size E m d (q : Int) rfl HPT.out ?_
  go_wp2_with fail
  refine (values_any _ A n c l HL.out hnc HC.out (HA.out.keep hB4) HB.out E m d cs HML.out a3 HO4.out.rd HG.out q N a2 hNm _ rfl).mono ?_
  rintro e w5 ⟨D, k, cD, rfl, hown5, hb5⟩
  rw [HV.out] at hown5
  simp only [HV.out]
  have hB5 := hB4.trans (hb5.mono hz4)
  have HO5 := Lib.hid (hown5.mono hz4)
  clear hown5 hb5 HPT
  go_wp2
  rw [HR.out]
  exact ⟨D, k, cD, by rw [HF.out] <;> rfl, by rw [HF.out]; exact HO5.out, hB5⟩
end Go.Proofs.Ytbbdglikdogmhaa
