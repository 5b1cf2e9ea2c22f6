/- Walk: tomeref11.Scan, where it tells no frames. -/
import Derived.Test.YtlehpgokjppccaaJrI
import Derived.Test.YtlehpgokjppccaaJrL
namespace Go.Proofs.Ytlehpgokjppccaa
open Go.RowKit
set_option maxRecDepth 100000

def RScanBack (w : World) (l : List Int) (e : Ending) (w' : World) : Prop :=
  ∃ A m c, e = .returned (.tuple #[.agg #[.int .i64 (scanL l).s, .int .i64 (scanL l).p, .int .u64 (scanL l).k, .slice A m c], .int .i64 (scanL l).e]) ∧ (scanL l).F.length = m ∧ m ≤ maxLen ∧ RdFr w' A (scanL l).F ∧ Below w.heap.size w w'

theorem rscan_short (w : World) (A : Option Addr) (n c : Nat) (l : List Int) (hn : l.length = n) (hs : n < 28) (R : Ending → World → Prop) (hR : R = RScanBack w l) :
    Calls Try.prog 23 #[.slice A n c] w R := by
  have HR := Lib.hid hR; clear hR
  have HN := Lib.hid hn; clear hn
  have hsc : scanL l = jr0 6 := by rw [scanL, if_pos (by rw [HN.out]; exact hs)]
  have HSC := Lib.hid hsc; clear hsc
  go_enter Try.func23, Try.ntmps23
  go_wp2
  refine ret_jn (s := 0) (p := 0) (k := 0) (A := none) (m := 0) (c := 0) rfl rfl ⟨by simp [go_sem], by simp [go_sem], by simp [go_sem], by simp [go_sem]⟩ rfl ?_
  rw [HR.out]
  exact ⟨none, 0, 0, by rw [HSC.out]; rfl, by rw [HSC.out]; rfl, by decide, by rw [HSC.out]; exact .inl rfl, (Below.refl _ _).alloc (Nat.le_refl _) _⟩

set_option maxHeartbeats 4000000 in
theorem rscan_sign (w : World) (A : Option Addr) (n c : Nat) (l : List Int) (hn : l.length = n) (hnc : n ≤ c) (hA : Rd w A l) (hB : IsB l) (h28 : 28 ≤ n) (hs : l.take 8 ≠ jsign) (R : Ending → World → Prop) (hR : R = RScanBack w l) :
    Calls Try.prog 23 #[.slice A n c] w R := by
  have HR := Lib.hid hR; clear hR
  have hsc : scanL l = jr0 8 := by rw [scanL, if_neg (by omega), if_pos hs]
  have HSC := Lib.hid hsc; clear hsc
  have hs1 := run_str (w.alloc (.cells #[.int .i64 0, .int .i64 0, .int .u64 0, .slice none 0 0] 48)) A 8 c (l.take 8) (by rw [List.length_take, hn]; omega) (rd_take (hA.keep ((Below.refl _ _).alloc (Nat.le_refl _) _)) 8)
  have hcmp : ((strOfNums (l.take 8)).toList == ([116, 111, 109, 101, 32, 106, 110, 108] : List UInt8)) = false := by
    rw [← jsign_const, str_beq (isB_take hB 8) jsign_isB, beqL_no]
    exact hs
  obtain ⟨b, off, rfl, _, hcells⟩ := hA.at (by rw [hn]; omega)
  clear hcells hA hs hn
  have hc8 : 8 ≤ c := by omega
  go_enter Try.func23, Try.ntmps23
  go_wp2
  refine ret_jn (s := 0) (p := 0) (k := 0) (A := none) (m := 0) (c := 0) rfl rfl ⟨by simp [go_sem], by simp [go_sem], by simp [go_sem], by simp [go_sem]⟩ rfl ?_
  rw [HR.out]
  exact ⟨none, 0, 0, by rw [HSC.out]; rfl, by rw [HSC.out]; rfl, by decide, by rw [HSC.out]; exact .inl rfl, (Below.refl _ _).alloc (Nat.le_refl _) _⟩

set_option maxHeartbeats 8000000 in
theorem rscan_bad (w : World) (A : Option Addr) (n c : Nat) (l : List Int) (hn : l.length = n) (hnc : n ≤ c) (hcm : c ≤ maxLen) (hA : Rd w A l) (hB : IsB l) (h28 : 28 ≤ n) (hs : l.take 8 = jsign) (hno : ¬ hdOk l) (R : Ending → World → Prop) (hR : R = RScanBack w l) :
    Calls Try.prog 23 #[.slice A n c] w R := by
  have HR := Lib.hid hR; clear hR
  have hsc : scanL l = jr0 14 := by rw [scanL, if_neg (by omega), if_neg (by simp [hs]), if_neg hno]
  have HSC := Lib.hid hsc; clear hsc
  obtain ⟨W0, hW0⟩ : ∃ W, W = w.alloc (.cells #[.int .i64 0, .int .i64 0, .int .u64 0, .slice none 0 0] 48) := ⟨_, rfl⟩
  have hB0 : Below w.heap.size w W0 := by rw [hW0]; exact (Below.refl _ _).alloc (Nat.le_refl _) _
  have hz0 : W0.heap.size = w.heap.size + 1 := by rw [hW0]; simp
  have hth : W0.there w.heap.size 0 4 := by
    rw [hW0]
    intro j hj
    rcases (by omega : j = 0 ∨ j = 1 ∨ j = 2 ∨ j = 3) with rfl | rfl | rfl | rfl <;> simp [go_sem]
  have HTH := Lib.hid hth; clear hth
  have hA0 := hA.keep hB0
  clear hA
  have hs1 := run_str W0 A 8 c (l.take 8) (by rw [List.length_take, hn]; omega) (rd_take hA0 8)
  rw [hs] at hs1
  have hcmp : ((strOfNums jsign).toList == ([116, 111, 109, 101, 32, 106, 110, 108] : List UInt8)) = true := by
    rw [jsign_const]; rfl
  obtain ⟨b, off, rfl, _, hcells⟩ := hA0.at (by rw [hn]; omega)
  clear hcells hs
  have hc8 : 8 ≤ c := by omega
  have hc28 : 28 ≤ c := by omega
  have HN := Lib.hid hn; clear hn
  have HA := Lib.hid hA0; clear hA0
  have HB := Lib.hid hB; clear hB
  have HC := Lib.hid hcm
  have HNO := Lib.hid hno; clear hno
  obtain ⟨s0, s1⟩ := four_bd HB.out 8
  obtain ⟨p0, p1⟩ := four_bd HB.out 12
  obtain ⟨k0, k1⟩ := eight_bd HB.out 16
  have r1 := read_at l 8 4 (fourI l 8) (by rw [HN.out]; omega) (by decide) (by decide) rfl
  have r2 := read_at l 12 4 (fourI l 12) (by rw [HN.out]; omega) (by decide) (by decide) rfl
  have r3 := read_at l 16 8 (eightI l 16) (by rw [HN.out]; omega) (by decide) (by decide) rfl
  have HR1 := Lib.hid r1; clear r1
  have HR2 := Lib.hid r2; clear r2
  have HR3 := Lib.hid r3; clear r3
  have hws : IntKind.i64.wrap (fourI l 8) = fourI l 8 := IntWalk.i64_in _ (by omega)
  have hwp : IntKind.i64.wrap (fourI l 12) = fourI l 12 := IntWalk.i64_in _ (by omega)
  have HW := Lib.hid hW0
  go_enter Try.func23, Try.ntmps23
  go_upto_region 1 with fail
  rw [← hW0]
  clear hW0 HW
  go_wp2_with fail
  refine (rread_any _ _ n c l 8 4 HN.out hnc hcm HA.out HB.out (by omega)).mono ?_
  rintro e w1 ⟨rfl, rfl⟩
  simp only [show readL l 8 4 = (fourI l 8, 0) from HR1.out]
  go_wp2_with fail
  refine (rread_any _ _ n c l 12 4 HN.out hnc HC.out HA.out HB.out (by omega)).mono ?_
  rintro e w1 ⟨rfl, rfl⟩
  simp only [show readL l 12 4 = (fourI l 12, 0) from HR2.out]
  go_wp2_with fail
  refine (rread_any _ _ n c l 16 8 HN.out hnc HC.out HA.out HB.out (by omega)).mono ?_
  rintro e w1 ⟨rfl, rfl⟩
  simp only [show readL l 16 8 = (eightI l 16, 0) from HR3.out]
  go_wp2_with fail
  refine (rjStart_any _ (fourI l 8) (fourI l 12) (eightI l 16) (by unfold i64ok; omega) (by unfold i64ok; omega) (by omega)).mono ?_
  rintro e w2 ⟨A2, n2, c2, rfl, h1, h2, h3, h4, h5⟩
  clear hs1 hcmp
  have hB2 : Below w.heap.size w w2 := hB0.trans (h5.mono hB0.size)
  have hend : ∀ w', Below w2.heap.size w2 w' → w'.there w.heap.size 0 4 ∧ R (.returned (.tuple #[.agg #[.int .i64 0, .int .i64 0, .int .u64 0, .slice none 0 0], .int .i64 14])) (w'.setCells w.heap.size 0 (jnC 0 0 0 none 0 0)) := by
    intro w' hb
    have hz5 := h5.size
    refine ⟨there_keep (there_keep HTH.out h5 (by omega)) hb (by omega), ?_⟩
    rw [HR.out]
    exact ⟨none, 0, 0, by rw [HSC.out]; rfl, by rw [HSC.out]; rfl, by decide, by rw [HSC.out]; exact .inl rfl, below_setCells (hB2.trans (hb.mono hB2.size)) (Nat.le_refl _) _ _⟩
  have HEND := Lib.hid hend; clear hend
  by_cases ho : okStart (fourI l 8) (fourI l 12)
  · have hst : startL (fourI l 8) (fourI l 12) (eightI l 16) = startH (fourI l 8) (fourI l 12) (eightI l 16) := if_pos ho
    have hse : startE (fourI l 8) (fourI l 12) = 0 := if_pos ho
    rw [hst] at h1 h4
    have hne : startH (fourI l 8) (fourI l 12) (eightI l 16) ≠ l.take 28 := fun e => HNO.out ⟨ho, e⟩
    generalize startH (fourI l 8) (fourI l 12) (eightI l 16) = X at h1 h4 hne
    simp only [hse]
    have hq : beqL X (l.take 28) = false := by rw [beqL_no]; exact hne
    have HX := Lib.hid h4; clear h4
    have HX1 := Lib.hid h1; clear h1
    have HQ := Lib.hid hq; clear hq
    have HA2 := Lib.hid (HA.out.keep h5)
    clear hne hst hse ho h5
    go_wp2_with fail
    refine (same1_any _ A2 (some ⟨b, off, none⟩) n2 c2 28 c X (l.take 28) HX1.out (by rw [List.length_take, HN.out]; omega) (by unfold maxLen at h3; omega) HX.out (rd_take HA2.out 28)).mono ?_
    rintro e w3 ⟨rfl, hb3⟩
    simp only [HQ.out]
    obtain ⟨hth, hret⟩ := HEND.out w3 hb3
    have HTH3 := Lib.hid hth
    have HRET := Lib.hid hret
    clear hth hret hb3
    go_upto_region 10 with fail
    go_step
    go_step
    go_step
    go_step
    refine wp_store_jn rfl _ _ rfl w.heap.size 0 0 0 none 0 0 rfl rfl HTH3.out ?_
    repeat go_step
    refine ret_jn rfl rfl (MdAt.stored HTH3.out 0 0 0 none 0 0) rfl ?_
    exact HRET.out
  · have hse : startE (fourI l 8) (fourI l 12) = 1 := if_neg ho
    simp only [hse]
    obtain ⟨hth, hret⟩ := HEND.out w2 (Below.refl _ _)
    have HTH3 := Lib.hid hth
    have HRET := Lib.hid hret
    clear hth hret h5 h4 h1 hse ho
    go_upto_region 10 with fail
    go_step
    go_step
    go_step
    go_step
    refine wp_store_jn rfl _ _ rfl w.heap.size 0 0 0 none 0 0 rfl rfl HTH3.out ?_
    repeat go_step
    refine ret_jn rfl rfl (MdAt.stored HTH3.out 0 0 0 none 0 0) rfl ?_
    exact HRET.out
end Go.Proofs.Ytlehpgokjppccaa
