/- Walk: tomeref11.Scan; the walk of the law JourScans. -/
import Derived.Test.YtlehpgokjppccaaJrI
import Derived.Test.YtlehpgokjppccaaJrL
import Derived.Test.YtlehpgokjppccaaJrJ
import Derived.Test.YtlehpgokjppccaaJrP
namespace Go.Proofs.Ytlehpgokjppccaa
open Go.RowKit
set_option maxRecDepth 100000

def RScanBack (w : World) (l : List Int) (e : Ending) (w' : World) : Prop :=
  ∃ A m c, e = .returned (.tuple #[.agg #[.int .i64 (scanL l).s, .int .i64 (scanL l).p, .int .u64 (scanL l).k, .slice A m c], .int .i64 (scanL l).e]) ∧ (scanL l).F.length = m ∧ m ≤ maxLen ∧ RdFr w' A (scanL l).F ∧ Below w.heap.size w w'

theorem rscan_short (w : World) (A : Option Addr) (n c : Nat) (l : List Int) (hn : l.length = n) (hs : n < 28) (R : Ending → World → Prop) (hR : R = RScanBack w l) :
    Calls Try.prog 23 #[.slice A n c] w R := by
  have HR := Lib.hid hR; clear hR
  have HN := Lib.hid hn; clear hn
  have hsc : scanL l = jr0 6 := by rw [scanL, if_pos (by rw [HN.out]; exact hs)]
  have HSC := Lib.hid hsc; clear hsc
  go_enter Try.func23, Try.ntmps23
  go_wp2
  refine ret_jn (s := 0) (p := 0) (k := 0) (A := none) (m := 0) (c := 0) rfl rfl ⟨by simp [go_sem], by simp [go_sem], by simp [go_sem], by simp [go_sem]⟩ rfl ?_
  rw [HR.out]
  exact ⟨none, 0, 0, by rw [HSC.out]; rfl, by rw [HSC.out]; rfl, by decide, by rw [HSC.out]; exact .inl rfl, (Below.refl _ _).alloc (Nat.le_refl _) _⟩

set_option maxHeartbeats 4000000 in
theorem rscan_sign (w : World) (A : Option Addr) (n c : Nat) (l : List Int) (hn : l.length = n) (hnc : n ≤ c) (hA : Rd w A l) (hB : IsB l) (h28 : 28 ≤ n) (hs : l.take 8 ≠ jsign) (R : Ending → World → Prop) (hR : R = RScanBack w l) :
    Calls Try.prog 23 #[.slice A n c] w R := by
  have HR := Lib.hid hR; clear hR
  have hsc : scanL l = jr0 8 := by rw [scanL, if_neg (by omega), if_pos hs]
  have HSC := Lib.hid hsc; clear hsc
  have hs1 := run_str (w.alloc (.cells #[.int .i64 0, .int .i64 0, .int .u64 0, .slice none 0 0] 48)) A 8 c (l.take 8) (by rw [List.length_take, hn]; omega) (rd_take (hA.keep ((Below.refl _ _).alloc (Nat.le_refl _) _)) 8)
  have hcmp : ((strOfNums (l.take 8)).toList == ([116, 111, 109, 101, 32, 106, 110, 108] : List UInt8)) = false := by
    rw [← jsign_const, str_beq (isB_take hB 8) jsign_isB, beqL_no]
    exact hs
  obtain ⟨b, off, rfl, _, hcells⟩ := hA.at (by rw [hn]; omega)
  clear hcells hA hs hn
  have hc8 : 8 ≤ c := by omega
  go_enter Try.func23, Try.ntmps23
  go_wp2
  refine ret_jn (s := 0) (p := 0) (k := 0) (A := none) (m := 0) (c := 0) rfl rfl ⟨by simp [go_sem], by simp [go_sem], by simp [go_sem], by simp [go_sem]⟩ rfl ?_
  rw [HR.out]
  exact ⟨none, 0, 0, by rw [HSC.out]; rfl, by rw [HSC.out]; rfl, by decide, by rw [HSC.out]; exact .inl rfl, (Below.refl _ _).alloc (Nat.le_refl _) _⟩

set_option maxHeartbeats 8000000 in
theorem rscan_bad (w : World) (A : Option Addr) (n c : Nat) (l : List Int) (hn : l.length = n) (hnc : n ≤ c) (hcm : c ≤ maxLen) (hA : Rd w A l) (hB : IsB l) (h28 : 28 ≤ n) (hs : l.take 8 = jsign) (hno : ¬ hdOk l) (R : Ending → World → Prop) (hR : R = RScanBack w l) :
    Calls Try.prog 23 #[.slice A n c] w R := by
  have HR := Lib.hid hR; clear hR
  have hsc : scanL l = jr0 14 := by rw [scanL, if_neg (by omega), if_neg (by simp [hs]), if_neg hno]
  have HSC := Lib.hid hsc; clear hsc
  obtain ⟨W0, hW0⟩ : ∃ W, W = w.alloc (.cells #[.int .i64 0, .int .i64 0, .int .u64 0, .slice none 0 0] 48) := ⟨_, rfl⟩
  have hB0 : Below w.heap.size w W0 := by rw [hW0]; exact (Below.refl _ _).alloc (Nat.le_refl _) _
  have hz0 : W0.heap.size = w.heap.size + 1 := by rw [hW0]; simp
  have hth : W0.there w.heap.size 0 4 := by
    rw [hW0]
    intro j hj
    rcases (by omega : j = 0 ∨ j = 1 ∨ j = 2 ∨ j = 3) with rfl | rfl | rfl | rfl <;> simp [go_sem]
  have HTH := Lib.hid hth; clear hth
  have hA0 := hA.keep hB0
  clear hA
  have hs1 := run_str W0 A 8 c (l.take 8) (by rw [List.length_take, hn]; omega) (rd_take hA0 8)
  rw [hs] at hs1
  have hcmp : ((strOfNums jsign).toList == ([116, 111, 109, 101, 32, 106, 110, 108] : List UInt8)) = true := by
    rw [jsign_const]; rfl
  obtain ⟨b, off, rfl, _, hcells⟩ := hA0.at (by rw [hn]; omega)
  clear hcells hs
  have hc8 : 8 ≤ c := by omega
  have hc28 : 28 ≤ c := by omega
  have HN := Lib.hid hn; clear hn
  have HA := Lib.hid hA0; clear hA0
  have HB := Lib.hid hB; clear hB
  have HC := Lib.hid hcm
  have HNO := Lib.hid hno; clear hno
  obtain ⟨s0, s1⟩ := four_bd HB.out 8
  obtain ⟨p0, p1⟩ := four_bd HB.out 12
  obtain ⟨k0, k1⟩ := eight_bd HB.out 16
  have r1 := read_at l 8 4 (fourI l 8) (by rw [HN.out]; omega) (by decide) (by decide) rfl
  have r2 := read_at l 12 4 (fourI l 12) (by rw [HN.out]; omega) (by decide) (by decide) rfl
  have r3 := read_at l 16 8 (eightI l 16) (by rw [HN.out]; omega) (by decide) (by decide) rfl
  have HR1 := Lib.hid r1; clear r1
  have HR2 := Lib.hid r2; clear r2
  have HR3 := Lib.hid r3; clear r3
  have hws : IntKind.i64.wrap (fourI l 8) = fourI l 8 := IntWalk.i64_in _ (by omega)
  have hwp : IntKind.i64.wrap (fourI l 12) = fourI l 12 := IntWalk.i64_in _ (by omega)
  have HW := Lib.hid hW0
  go_enter Try.func23, Try.ntmps23
  go_upto_region 1 with fail
  rw [← hW0]
  clear hW0 HW
  go_wp2_with fail
  refine (rread_any _ _ n c l 8 4 HN.out hnc hcm HA.out HB.out (by omega)).mono ?_
  rintro e w1 ⟨rfl, rfl⟩
  simp only [show readL l 8 4 = (fourI l 8, 0) from HR1.out]
  go_wp2_with fail
  refine (rread_any _ _ n c l 12 4 HN.out hnc HC.out HA.out HB.out (by omega)).mono ?_
  rintro e w1 ⟨rfl, rfl⟩
  simp only [show readL l 12 4 = (fourI l 12, 0) from HR2.out]
  go_wp2_with fail
  refine (rread_any _ _ n c l 16 8 HN.out hnc HC.out HA.out HB.out (by omega)).mono ?_
  rintro e w1 ⟨rfl, rfl⟩
  simp only [show readL l 16 8 = (eightI l 16, 0) from HR3.out]
  go_wp2_with fail
  refine (rjStart_any _ (fourI l 8) (fourI l 12) (eightI l 16) (by unfold i64ok; omega) (by unfold i64ok; omega) (by omega)).mono ?_
  rintro e w2 ⟨A2, n2, c2, rfl, h1, h2, h3, h4, h5⟩
  clear hs1 hcmp
  have hB2 : Below w.heap.size w w2 := hB0.trans (h5.mono hB0.size)
  have hend : ∀ w', Below w2.heap.size w2 w' → w'.there w.heap.size 0 4 ∧ R (.returned (.tuple #[.agg #[.int .i64 0, .int .i64 0, .int .u64 0, .slice none 0 0], .int .i64 14])) (w'.setCells w.heap.size 0 (jnC 0 0 0 none 0 0)) := by
    intro w' hb
    have hz5 := h5.size
    refine ⟨there_keep (there_keep HTH.out h5 (by omega)) hb (by omega), ?_⟩
    rw [HR.out]
    exact ⟨none, 0, 0, by rw [HSC.out]; rfl, by rw [HSC.out]; rfl, by decide, by rw [HSC.out]; exact .inl rfl, below_setCells (hB2.trans (hb.mono hB2.size)) (Nat.le_refl _) _ _⟩
  have HEND := Lib.hid hend; clear hend
  by_cases ho : okStart (fourI l 8) (fourI l 12)
  · have hst : startL (fourI l 8) (fourI l 12) (eightI l 16) = startH (fourI l 8) (fourI l 12) (eightI l 16) := if_pos ho
    have hse : startE (fourI l 8) (fourI l 12) = 0 := if_pos ho
    rw [hst] at h1 h4
    have hne : startH (fourI l 8) (fourI l 12) (eightI l 16) ≠ l.take 28 := fun e => HNO.out ⟨ho, e⟩
    generalize startH (fourI l 8) (fourI l 12) (eightI l 16) = X at h1 h4 hne
    simp only [hse]
    have hq : beqL X (l.take 28) = false := by rw [beqL_no]; exact hne
    have HX := Lib.hid h4; clear h4
    have HX1 := Lib.hid h1; clear h1
    have HQ := Lib.hid hq; clear hq
    have HA2 := Lib.hid (HA.out.keep h5)
    clear hne hst hse ho h5
    go_wp2_with fail
    refine (same1_any _ A2 (some ⟨b, off, none⟩) n2 c2 28 c X (l.take 28) HX1.out (by rw [List.length_take, HN.out]; omega) (by unfold maxLen at h3; omega) HX.out (rd_take HA2.out 28)).mono ?_
    rintro e w3 ⟨rfl, hb3⟩
    simp only [HQ.out]
    obtain ⟨hth, hret⟩ := HEND.out w3 hb3
    have HTH3 := Lib.hid hth
    have HRET := Lib.hid hret
    clear hth hret hb3
    go_upto_region 10 with fail
    go_step
    go_step
    go_step
    go_step
    refine wp_store_jn rfl _ _ rfl w.heap.size 0 0 0 none 0 0 rfl rfl HTH3.out ?_
    repeat go_step
    refine ret_jn rfl rfl (MdAt.stored HTH3.out 0 0 0 none 0 0) rfl ?_
    exact HRET.out
  · have hse : startE (fourI l 8) (fourI l 12) = 1 := if_neg ho
    simp only [hse]
    obtain ⟨hth, hret⟩ := HEND.out w2 (Below.refl _ _)
    have HTH3 := Lib.hid hth
    have HRET := Lib.hid hret
    clear hth hret h5 h4 h1 hse ho
    go_upto_region 10 with fail
    go_step
    go_step
    go_step
    go_step
    refine wp_store_jn rfl _ _ rfl w.heap.size 0 0 0 none 0 0 rfl rfl HTH3.out ?_
    repeat go_step
    refine ret_jn rfl rfl (MdAt.stored HTH3.out 0 0 0 none 0 0) rfl ?_
    exact HRET.out

theorem MdAt.row {w : World} {g : Nat} {s p k : Int} {A : Option Addr} {m c : Nat} (h : MdAt w g s p k A m c) (B : Option Addr) (n d : Nat) : MdAt (w.setCell ⟨g, 3, none⟩ (.slice B n d)) g s p k B n d :=
  ⟨(World.cell?_setCell_other _ _ _ _ (by simp)).trans h.1, (World.cell?_setCell_other _ _ _ _ (by simp)).trans h.2.1, (World.cell?_setCell_other _ _ _ _ (by simp)).trans h.2.2.1, World.cell?_setCell_same _ _ _ h.2.2.2⟩
theorem there_setCell {w : World} {g n : Nat} (h : w.there g 0 n) (a : Addr) (v : Value) : (w.setCell a v).there g 0 n := fun j hj => by
  obtain ⟨h1, h2⟩ := h j hj
  refine ⟨?_, by rw [World.frozen?_setCell]; exact h2⟩
  by_cases e : a = ⟨g, 0 + j, none⟩
  · subst e
    obtain ⟨u, hu⟩ := Option.isSome_iff_exists.1 h1
    rw [World.cell?_setCell_same _ _ _ hu]; rfl
  · rw [World.cell?_setCell_other _ _ _ _ e]; exact h1
theorem heap_setCell_ne (w : World) (a : Addr) (v : Value) {i : Nat} (h : i ≠ a.block) : (w.setCell a v).heap[i]? = w.heap[i]? := by
  simp [World.setCell, Array.getElem?_modify, Ne.symm h]
theorem size_setCell (w : World) (a : Addr) (v : Value) : (w.setCell a v).heap.size = w.heap.size := by simp [World.setCell]

theorem there_keepB {w w' : World} {B g n : Nat} (h : w.there g 0 n) (hb : Below B w w') (hg : g < B) : w'.there g 0 n := fun j hj => by
  obtain ⟨h1, h2⟩ := h j hj
  exact ⟨by rw [hb.cell (by simpa using hg)]; exact h1, by rw [hb.frozen (by simpa using hg)]; exact h2⟩
theorem MdAt.keepB {w w' : World} {B g : Nat} {s p k : Int} {A : Option Addr} {m c : Nat} (h : MdAt w g s p k A m c) (hb : Below B w w') (hg : g < B) : MdAt w' g s p k A m c :=
  ⟨(hb.cell hg).trans h.1, (hb.cell hg).trans h.2.1, (hb.cell hg).trans h.2.2.1, (hb.cell hg).trans h.2.2.2⟩

def RSRel (w : World) (g0 gj : Nat) (s : Nat) (p k : Int) (l : List Int) (n : Nat) (z : Value) (wr : World) : Prop :=
  ∃ (at_ m c : Nat) (A : Option Addr) (F : List Fr), z = .int .i64 at_ ∧ 28 ≤ at_ ∧ at_ ≤ n ∧ m ≤ at_ ∧ MdAt wr gj (s : Int) p k A m c ∧ wr.there gj 0 4 ∧ wr.there g0 0 4 ∧ OwnF wr (gj + 1) A m c F ∧ Hid (F ++ frsL k s (l.drop at_) = frsL k s (l.drop 28)) ∧ gj + 1 ≤ wr.heap.size ∧ Below w.heap.size w wr

set_option maxHeartbeats 8000000 in
theorem rscan_good (w : World) (A : Option Addr) (n c : Nat) (l : List Int) (hn : l.length = n) (hnc : n ≤ c) (hcm : c ≤ maxLen) (hA : Rd w A l) (hB : IsB l) (h28 : 28 ≤ n) (hs : l.take 8 = jsign) (hok : hdOk l) (hbig : n ≤ 900000000000) (R : Ending → World → Prop) (hR : R = RScanBack w l) :
    Calls Try.prog 23 #[.slice A n c] w R := by
  have HR := Lib.hid hR; clear hR
  have hsc : scanL l = ⟨fourI l 8, fourI l 12, eightI l 16, frsL (eightI l 16) (fourI l 8).toNat (l.drop 28), 0⟩ := by
    rw [scanL, if_neg (by omega), if_neg (by simp [hs]), if_pos hok]
  have HSC := Lib.hid hsc; clear hsc
  obtain ⟨W0, hW0⟩ : ∃ W, W = w.alloc (.cells #[.int .i64 0, .int .i64 0, .int .u64 0, .slice none 0 0] 48) := ⟨_, rfl⟩
  have hB0 : Below w.heap.size w W0 := by rw [hW0]; exact (Below.refl _ _).alloc (Nat.le_refl _) _
  have hz0 : W0.heap.size = w.heap.size + 1 := by rw [hW0]; simp
  have hth : W0.there w.heap.size 0 4 := by
    rw [hW0]
    intro j hj
    rcases (by omega : j = 0 ∨ j = 1 ∨ j = 2 ∨ j = 3) with rfl | rfl | rfl | rfl <;> simp [go_sem]
  have HTH := Lib.hid hth; clear hth
  have hA0 := hA.keep hB0
  have HAw := Lib.hid hA; clear hA
  have hs1 := run_str W0 A 8 c (l.take 8) (by rw [List.length_take, hn]; omega) (rd_take hA0 8)
  rw [hs] at hs1
  have hcmp : ((strOfNums jsign).toList == ([116, 111, 109, 101, 32, 106, 110, 108] : List UInt8)) = true := by
    rw [jsign_const]; rfl
  obtain ⟨b, off, rfl, _, hcells⟩ := hA0.at (by rw [hn]; omega)
  clear hcells hs
  have hc8 : 8 ≤ c := by omega
  have hc28 : 28 ≤ c := by omega
  have HN := Lib.hid hn; clear hn
  have HA := Lib.hid hA0; clear hA0
  have HB := Lib.hid hB; clear hB
  have HC := Lib.hid hcm
  obtain ⟨ho, he⟩ := hok
  obtain ⟨p0, p1⟩ := four_bd HB.out 12
  obtain ⟨k0, k1⟩ := eight_bd HB.out 16
  obtain ⟨s, hsz, hs4, hs256, hiss⟩ : ∃ s : Nat, fourI l 8 = (s : Int) ∧ s ≤ 4096 ∧ 256 ≤ s ∧ isSize (s : Int) := by
    have h0 := ho.1
    have := ho.1
    unfold isSize at this
    exact ⟨(fourI l 8).toNat, by omega, by omega, by omega, by rw [Int.toNat_of_nonneg (by omega)]; exact h0⟩
  have HIS := Lib.hid hiss; clear hiss
  have r1 := read_at l 8 4 (fourI l 8) (by rw [HN.out]; omega) (by decide) (by decide) rfl
  have r2 := read_at l 12 4 (fourI l 12) (by rw [HN.out]; omega) (by decide) (by decide) rfl
  have r3 := read_at l 16 8 (eightI l 16) (by rw [HN.out]; omega) (by decide) (by decide) rfl
  rw [hsz] at r1 ho he
  have HR1 := Lib.hid r1; clear r1
  have HR2 := Lib.hid r2; clear r2
  have HR3 := Lib.hid r3; clear r3
  have HSZ := Lib.hid hsz; clear hsz
  have hst : startL (s : Int) (fourI l 12) (eightI l 16) = l.take 28 := by rw [← he]; exact if_pos ho
  have hse : startE (s : Int) (fourI l 12) = 0 := if_pos ho
  have HST := Lib.hid hst; clear hst he ho
  have HSE := Lib.hid hse; clear hse
  have hws : IntKind.i64.wrap (s : Int) = (s : Int) := IntWalk.i64_in _ (by omega)
  have hwp : IntKind.i64.wrap (fourI l 12) = fourI l 12 := IntWalk.i64_in _ (by omega)
  have hw8 : IntKind.i64.wrap ((s : Int) + 8) = (s : Int) + 8 := IntWalk.i64_in _ (by omega)
  have HW := Lib.hid hW0
  go_enter Try.func23, Try.ntmps23
  go_upto_region 1 with fail
  rw [← hW0]
  clear hW0 HW
  go_wp2_with fail
  refine (rread_any _ _ n c l 8 4 HN.out hnc hcm HA.out HB.out (by omega)).mono ?_
  rintro e w1 ⟨rfl, rfl⟩
  simp only [show readL l 8 4 = ((s : Int), 0) from HR1.out]
  go_wp2_with fail
  refine (rread_any _ _ n c l 12 4 HN.out hnc HC.out HA.out HB.out (by omega)).mono ?_
  rintro e w1 ⟨rfl, rfl⟩
  simp only [show readL l 12 4 = (fourI l 12, 0) from HR2.out]
  go_wp2_with fail
  refine (rread_any _ _ n c l 16 8 HN.out hnc HC.out HA.out HB.out (by omega)).mono ?_
  rintro e w1 ⟨rfl, rfl⟩
  simp only [show readL l 16 8 = (eightI l 16, 0) from HR3.out]
  go_wp2_with fail
  refine (rjStart_any _ (s : Int) (fourI l 12) (eightI l 16) (by unfold i64ok; omega) (by unfold i64ok; omega) (by omega)).mono ?_
  rintro e w2 ⟨A2, n2, c2, rfl, h1, h2, h3, h4, h5⟩
  clear hs1 hcmp
  rw [HST.out] at h1 h4
  simp only [HSE.out]
  have hB2 : Below w.heap.size w w2 := hB0.trans (h5.mono hB0.size)
  have hz5 := h5.size
  have HTH2 := Lib.hid (there_keep HTH.out h5 (by omega))
  have HA2 := Lib.hid (HA.out.keep h5)
  have HX := Lib.hid h4; clear h4
  have HX1 := Lib.hid h1; clear h1 h5
  go_wp2_with fail
  refine (same1_any _ A2 (some ⟨b, off, none⟩) n2 c2 28 c _ (l.take 28) HX1.out (by rw [List.length_take, HN.out]; omega) (by unfold maxLen at h3; omega) HX.out (rd_take HA2.out 28)).mono ?_
  rintro e w3 ⟨rfl, hb3⟩
  simp only [beqL_self]
  have hB3 : Below w.heap.size w w3 := hB2.trans (hb3.mono hB2.size)
  have hz3 := hb3.size
  have HTH3 := Lib.hid (there_keep HTH2.out hb3 (by omega))
  clear hb3
  generalize hk : eightI l 16 = k at *
  generalize hp : fourI l 12 = p at *
  have HK := Lib.hid hk; clear hk
  have HP := Lib.hid hp; clear hp
  obtain ⟨W4, hW4⟩ : ∃ W, W = w3.alloc (.cells #[.int .i64 0, .int .i64 0, .int .u64 0, .slice none 0 0] 48) := ⟨_, rfl⟩
  have hB4 : Below w3.heap.size w3 W4 := by rw [hW4]; exact (Below.refl _ _).alloc (Nat.le_refl _) _
  have hz4 : W4.heap.size = w3.heap.size + 1 := by rw [hW4]; simp
  have hth4 : W4.there w3.heap.size 0 4 := by
    rw [hW4]
    intro j hj
    rcases (by omega : j = 0 ∨ j = 1 ∨ j = 2 ∨ j = 3) with rfl | rfl | rfl | rfl <;> simp [go_sem]
  have HTH4 := Lib.hid hth4; clear hth4
  have HTH5 := Lib.hid (there_keep HTH3.out hB4 (by omega))
  have HW := Lib.hid hW4
  go_upto_region 11 with fail
  iterate 22 go_step
  rw [← hW4]
  clear hW4 HW
  refine wp_store_jn rfl _ _ rfl w3.heap.size (s : Int) p k none 0 0 rfl rfl HTH4.out ?_
  obtain ⟨W5, hW5⟩ : ∃ W, W = W4.setCells w3.heap.size 0 (jnC (s : Int) p k none 0 0) := ⟨_, rfl⟩
  have hM5 : MdAt W5 w3.heap.size (s : Int) p k none 0 0 := by rw [hW5]; exact MdAt.stored HTH4.out _ _ _ _ _ _
  have hT5 : W5.there w3.heap.size 0 4 := by rw [hW5]; exact World.there_setCells HTH4.out _ _ _
  have hG5 : W5.there w.heap.size 0 4 := by rw [hW5]; exact World.there_setCells HTH5.out _ _ _
  have hB5 : Below w.heap.size w W5 := by rw [hW5]; exact below_setCells (hB3.trans (hB4.mono hB3.size)) (by omega) _ _
  have hz6 : w3.heap.size + 1 ≤ W5.heap.size := by rw [hW5, ← hz4]; exact (below_setCells (B := w3.heap.size) (Below.refl _ _) (Nat.le_refl _) _ _).size
  rw [← hW5]
  clear hW5
  have HM5 := Lib.hid hM5
  have HT5 := Lib.hid hT5; clear hT5
  have HG5 := Lib.hid hG5; clear hG5
  obtain ⟨m0, m1, m2, m3⟩ := hM5
  go_wp2_with fail
  clear m0 m1 m2 m3
  go_loopw [14] (fun z wr => RSRel w w.heap.size w3.heap.size s p k l n z wr) (fun z _ => n - (intOf z).toNat)
  case atStart => exact ⟨28, 0, 0, none, [], rfl, Nat.le_refl _, h28, by omega, HM5.out, HT5.out, HG5.out, OwnF.nil _ _, by simp [Hid], by omega, hB5⟩
  case round =>
    obtain ⟨at_, m, cf, Af, F, rfl, q28, qn, qm, hmd, hth, hg, hown, HF, hbs, hb⟩ := hrel
    have hsub : IntKind.i64.wrap ((n : Int) - (at_ : Int)) = (n : Int) - (at_ : Int) := IntWalk.i64_in _ (by omega)
    have HMD := Lib.hid hmd; clear hmd
    have HO := Lib.hid hown; clear hown
    have HTJ := Lib.hid hth; clear hth
    have HTG := Lib.hid hg; clear hg
    have hzr := hb.size
    have hend : ∀ W : World, Below wr.heap.size wr W → frsL k s (l.drop at_) = [] → W.there w.heap.size 0 4 ∧ MdAt W w3.heap.size (s : Int) p k Af m cf ∧ R (.returned (.tuple #[.agg #[.int .i64 (s : Int), .int .i64 p, .int .u64 k, .slice Af m cf], .int .i64 0])) (W.setCells w.heap.size 0 (jnC (s : Int) p k Af m cf)) := by
      intro W hW h0
      have h1 := HF.out
      rw [h0, List.append_nil] at h1
      have hz : (fourI l 8).toNat = s := by rw [HSZ.out]; omega
      refine ⟨there_keep HTG.out hW (by omega), HMD.out.keep hW, ?_⟩
      rw [HR.out]
      have hbe : Below w.heap.size w (W.setCells w.heap.size 0 (jnC (s : Int) p k Af m cf)) := below_setCells (hb.trans (hW.mono hb.size)) (Nat.le_refl _) _ _
      have hof : OwnF (W.setCells w.heap.size 0 (jnC (s : Int) p k Af m cf)) (w3.heap.size + 1) Af m cf F := by
        refine (HO.out.keep hW).apart fun i hi => ?_
        simp only [jnC, World.setCells]
        rw [heap_setCell_ne _ _ _ (by simp only; omega), heap_setCell_ne _ _ _ (by simp only; omega), heap_setCell_ne _ _ _ (by simp only; omega), heap_setCell_ne _ _ _ (by simp only; omega)]
      refine ⟨Af, m, cf, ?_, ?_, Nat.le_trans HO.out.cap.1 HO.out.cap.2, ?_, hbe⟩
      · simp only [HSC.out, HSZ.out]
      · rw [HSC.out]; simp only; rw [hz, ← h1]; exact HO.out.1
      · rw [HSC.out]; simp only; rw [hz, ← h1]; exact hof.rd
    have HEND := Lib.hid hend; clear hend
    by_cases hlt : n - at_ < s + 8
    · have hx : ¬ (s : Int) + 8 ≤ (n : Int) - (at_ : Int) := by omega
      obtain ⟨ee1, ee2, ee3⟩ := HEND.out wr (Below.refl _ _) (frs_end (by rw [List.length_drop, HN.out]; exact hlt))
      have EE1 := Lib.hid ee1
      have EE2 := Lib.hid ee2
      have EE3 := Lib.hid ee3
      clear ee1 ee2 ee3
      go_upto_region 21 with fail
      go_step
      refine wp_load_jn rfl _ rfl w3.heap.size (s : Int) p k Af m cf rfl EE2.out ?_
      refine wp_store_jn rfl _ _ rfl w.heap.size (s : Int) p k Af m cf rfl rfl EE1.out ?_
      repeat go_step
      refine ret_jn rfl rfl (MdAt.stored EE1.out (s : Int) p k Af m cf) rfl ?_
      exact EE3.out
    · have hx : (s : Int) + 8 ≤ (n : Int) - (at_ : Int) := by omega
      have e1 : IntKind.i64.wrap ((at_ : Int) + 4) = (at_ : Int) + 4 := IntWalk.i64_in _ (by omega)
      have e2 : IntKind.i64.wrap ((at_ : Int) + 4 + (s : Int)) = (at_ : Int) + 4 + (s : Int) := IntWalk.i64_in _ (by omega)
      have e3 : IntKind.i64.wrap ((at_ : Int) + ((s : Int) + 8)) = (at_ : Int) + ((s : Int) + 8) := IntWalk.i64_in _ (by omega)
      have r4 := read_at l at_ 4 (fourI l at_) (by rw [HN.out]; omega) (by decide) (by decide) rfl
      have HR4 := Lib.hid r4; clear r4
      have b0 : (0 : Int) ≤ (at_ : Int) := by omega
      have b1 : (0 : Int) ≤ (at_ : Int) + 4 := by omega
      have b2 : (at_ : Int) + 4 ≤ (at_ : Int) + 4 + (s : Int) := by omega
      have b3 : (at_ : Int) + 4 + (s : Int) ≤ (c : Int) := by omega
      have b4 : (at_ : Int) ≤ (at_ : Int) + ((s : Int) + 8) := by omega
      have b5 : (at_ : Int) + ((s : Int) + 8) ≤ (c : Int) := by omega
      have b6 : ¬ c = at_ + 4 := by omega
      have b7 : ¬ c = at_ := by omega
      have t0 : ((at_ : Int) + 4).toNat = at_ + 4 := by omega
      have t1 : ((at_ : Int) + 4 + (s : Int)).toNat = at_ + 4 + s := by omega
      have t2 : ((at_ : Int) + ((s : Int) + 8)).toNat = at_ + (s + 8) := by omega
      have hA4 := HAw.out.keep hb
      have HA4 := Lib.hid hA4; clear hA4
      obtain ⟨g0, g1⟩ := four_bd HB.out at_
      have wpg : IntKind.i64.wrap (fourI l at_) = fourI l at_ := IntWalk.i64_in _ (by omega)
      have ht0 : fourI (l.drop at_) 0 = fourI l at_ := by simp [fourI]
      have HT0 := Lib.hid ht0; clear ht0
      obtain ⟨Z, hZ⟩ : ∃ Z, Z = ((l.drop at_).drop 4).take s := ⟨_, rfl⟩
      have HBD := Lib.hid (show Rd wr (some ⟨b, off + (at_ + 4), none⟩) Z by rw [hZ, show off + (at_ + 4) = off + at_ + 4 by omega]; exact rd_take (rd_off (rd_off HA4.out at_) 4) s)
      have HBL := Lib.hid (show Z.length = s by rw [hZ]; simp only [List.length_take, List.length_drop, HN.out]; omega)
      have HZB := Lib.hid (show IsB Z by rw [hZ]; exact isB_take (IsB.drop (IsB.drop HB.out at_) 4) s)
      have HZ := Lib.hid hZ; clear hZ
      have hba : Below wr.heap.size wr (wr.alloc (.cells #[] 5)) := (Below.refl _ _).alloc (Nat.le_refl _) _
      obtain ⟨m0, m1, m2, m3⟩ := HMD.out
      go_wp2_with fail
      refine (rread_any _ _ n c l at_ 4 HN.out hnc HC.out HA4.out HB.out (by omega)).mono ?_
      rintro e w4 ⟨rfl, rfl⟩
      simp only [show readL l (at_ : Int) 4 = (fourI l at_, 0) from HR4.out]
      go_upto_region 17 with fail
      have m0' : (wr.alloc (.cells #[] 5)).cell? ⟨w3.heap.size, 0, none⟩ = some (.int .i64 (s : Int)) := (hba.cell (World.block_lt_of_cell? _ _ m0)).trans m0
      iterate 37 go_step
      refine wp_append rfl (.tmp 89) (.tmp 98) rfl wr.heap.size _ _ _ [] rfl (OwnB.lit wr #[] [] _ 0 rfl rfl (Nat.le_refl _) (by decide)) (some ⟨b, off + (at_ + 4), none⟩) s (c - (at_ + 4)) Z rfl HBL.out (HBD.out.keep hba) (by omega) (by simp) ?_
      intro A6 c6 w6 hown6 _ hb6'
      have hb6 : Below wr.heap.size wr w6 := hba.trans hb6'
      simp only [List.nil_append, Nat.zero_add] at hown6 ⊢
      have HO6 := Lib.hid hown6
      clear hown6 hb6' m0 m1 m2 m3 m0'
      have hz6' := hb6.size
      obtain ⟨W7, hW7⟩ : ∃ W, W = w6.alloc (.cells #[.int .i64 0, .int .i64 0, .slice none 0 0] 53) := ⟨_, rfl⟩
      have hB7 : Below w6.heap.size w6 W7 := by rw [hW7]; exact (Below.refl _ _).alloc (Nat.le_refl _) _
      have hth7 : W7.there w6.heap.size 0 3 := by
        rw [hW7]
        intro j hj
        rcases (by omega : j = 0 ∨ j = 1 ∨ j = 2) with rfl | rfl | rfl <;> simp [go_sem]
      have HTH7 := Lib.hid hth7; clear hth7
      have HW7 := Lib.hid hW7
      iterate 6 go_step
      rw [← hW7]
      clear hW7 HW7
      refine wp_store_fr rfl _ _ rfl w6.heap.size (fourI l at_) 0 A6 s c6 rfl rfl HTH7.out ?_
      obtain ⟨W8, hW8⟩ : ∃ W, W = W7.setCells w6.heap.size 0 (frC (fourI l at_) 0 A6 s c6) := ⟨_, rfl⟩
      have hB8 : Below w6.heap.size w6 W8 := by rw [hW8]; exact below_setCells hB7 (Nat.le_refl _) _ _
      have hF8 : FrAt W8 w6.heap.size (fourI l at_) 0 A6 s c6 := by rw [hW8]; exact FrAt.stored HTH7.out _ _ _ _ _
      rw [← hW8]
      clear hW8
      have HF8 := Lib.hid hF8; clear hF8
      have hb8 : Below wr.heap.size wr W8 := hb6.trans (hB8.mono hb6.size)
      have HO8 := Lib.hid (HO6.out.keep hB8)
      have hz8 := hB8.size
      go_upto_region 18 with fail
      iterate 4 go_step
      refine wp_load_fr rfl _ rfl w6.heap.size (fourI l at_) 0 A6 s c6 rfl HF8.out ?_
      go_wp2_with fail
      refine (rjEntry_any _ k (fourI l at_) 0 A6 s c6 Z (by omega) (by unfold i64ok; omega) (by unfold i64ok; omega) HBL.out HO8.out.cap.1 HO8.out.cap.2 HO8.out.rd HZB.out).mono ?_
      rintro e w9 ⟨A9, n9, c9, rfl, h91, h92, h93, h94, h95⟩
      have hb9 : Below wr.heap.size wr w9 := hb8.trans (h95.mono hb8.size)
      have HF9 := Lib.hid (HF8.out.keep h95)
      have HO9 := Lib.hid (HO8.out.keep h95)
      have hz9 := h95.size
      have hdl : ¬ (l.drop at_).length < s + 8 := by rw [List.length_drop, HN.out]; exact hlt
      have hiff := ent_iff (k := k) (IsB.drop HB.out at_) HIS.out hdl
      rw [HT0.out, ← HZ.out] at hiff
      have HIFF := Lib.hid hiff
      have HDL := Lib.hid hdl
      clear hiff hdl
      have HE9 := Lib.hid h94
      have HL9 := Lib.hid h91
      clear h94 h91 h95
      by_cases hoe : okEnt (fourI l at_) 0 s
      · have hen : entE (fourI l at_) 0 s = 0 := if_pos hoe
        have hel : entL k (fourI l at_) 0 Z = entH k (fourI l at_) Z := if_pos (by rw [HBL.out]; exact hoe)
        have HOE := Lib.hid hoe
        clear hoe
        simp only [hen]
        have hRE := HE9.out
        have hLE := HL9.out
        rw [hel] at hRE hLE
        clear hel
        have HRE := Lib.hid hRE
        have HLE := Lib.hid hLE
        clear hRE hLE
        have HRT := Lib.hid (rd_take (rd_off (HA4.out.keep hb9) at_) (s + 8))
        have HRL := Lib.hid (show ((l.drop at_).take (s + 8)).length = s + 8 by rw [List.length_take, List.length_drop, HN.out]; omega)
        go_wp2_with fail
        refine (same1_any _ A9 (some ⟨b, off + at_, none⟩) n9 c9 (s + 8) (c - at_) (entH k (fourI l at_) Z) ((l.drop at_).take (s + 8)) HLE.out HRL.out (by unfold maxLen at h93; omega) HRE.out HRT.out).mono ?_
        rintro e w10 ⟨rfl, hb10'⟩
        have hb10 : Below wr.heap.size wr w10 := hb9.trans (hb10'.mono hb9.size)
        have HF10 := Lib.hid (HF9.out.keep hb10')
        have HO10 := Lib.hid (HO9.out.keep hb10')
        have hz10 := hb10'.size
        clear hb10'
        by_cases hq : entH k (fourI l at_) Z = (l.drop at_).take (s + 8)
        · have hokf := HIFF.out.1 ⟨HOE.out, hq⟩
          have hbq : beqL (entH k (fourI l at_) Z) ((l.drop at_).take (s + 8)) = true := by rw [beqL_iff]; exact hq
          simp only [hbq]
          clear hbq hq
          have HOKF := Lib.hid hokf; clear hokf
          have M10 := HMD.out.keep hb10
          have T10 := there_keep HTJ.out hb10 (by omega)
          have G10 := there_keep HTG.out hb10 (by omega)
          obtain ⟨m0, m1, m2, m3⟩ := M10
          have hf3 := (T10 3 (by decide)).2
          rw [Nat.zero_add] at hf3
          have HM10 := Lib.hid (HMD.out.keep hb10)
          have HT10 := Lib.hid T10
          have HG10 := Lib.hid G10
          clear T10 G10
          have hzz := hb10.size
          go_upto_region 20 with fail
          iterate 7 go_step
          refine wp_load_fr rfl _ rfl w6.heap.size (fourI l at_) 0 A6 s c6 rfl HF10.out ?_
          iterate 3 go_step
          refine wp_append_fr rfl (.tmp 121) (.tmp 123) rfl (w3.heap.size + 1) Af m cf F rfl ((HO.out.keep hb10).keep ((Below.refl _ _).alloc (Nat.le_refl _) _)) w10.heap.size _ ⟨fourI l at_, 0, Z⟩ A6 c6 rfl (by simp [go_sem]) (by simp [go_sem]) (by simp [go_sem, HBL.out]) (by simp only [HBL.out]; exact (HO10.out.alloc _).mono hbs) (by omega) (by simp; omega) ?_
          intro A11 c11 w11 hown11 hb11 _
          have hbX : Below (w3.heap.size + 1) w10 w11 := ((Below.refl _ _).alloc (by omega) _).trans hb11
          have HO11 := Lib.hid hown11
          have m3' := (hbX.cell (p := ⟨w3.heap.size, 3, none⟩) (by simp only; omega)).trans m3
          have f3' := (hbX.frozen (p := ⟨w3.heap.size, 3, none⟩) (by simp only; omega)).trans hf3
          clear m0 m1 m2 m3 hf3 hown11 hb11
          go_wp2_with fail
          have hB11 : Below w.heap.size w w11 := (hb.trans (hb10.mono hb.size)).trans (hbX.mono (by omega))
          have hz11 := hbX.size
          have hfr : frsL k s (l.drop at_) = ⟨fourI l at_, 0, Z⟩ :: frsL k s (l.drop (at_ + (s + 8))) := by
            have h2 := HT0.out
            rw [frs_step HDL.out HOKF.out, h2, ← HZ.out, List.drop_drop]
          have HFR := Lib.hid hfr; clear hfr
          go_roundw
          case rel =>
            refine ⟨at_ + (s + 8), m + 1, c11, A11, F ++ [⟨fourI l at_, 0, Z⟩], by go_num, by omega, by omega, by omega, MdAt.row (HM10.out.keepB hbX (by omega)) _ _ _, there_setCell (there_keepB HT10.out hbX (by omega)) _ _, there_setCell (there_keepB HG10.out hbX (by omega)) _ _, HO11.out.apart (fun i hi => heap_setCell_ne _ _ _ (by simp only; omega)), ?_, by rw [size_setCell]; omega, hB11.setCell (by simp only; omega) _⟩
            have := HF.out
            rw [HFR.out] at this
            rw [← this]
            simp [Hid]
          case measure => simp [intOf]; omega
        · have hno : ¬ okFr k s (l.drop at_) := fun h => hq (HIFF.out.2 h).2
          have hbq : beqL (entH k (fourI l at_) Z) ((l.drop at_).take (s + 8)) = false := by rw [beqL_no]; exact hq
          simp only [hbq]
          clear hbq hq
          obtain ⟨ee1, ee2, ee3⟩ := HEND.out w10 hb10 (frs_stop hno)
          have EE1 := Lib.hid ee1
          have EE2 := Lib.hid ee2
          have EE3 := Lib.hid ee3
          clear ee1 ee2 ee3
          go_upto_region 21 with fail
          go_step
          refine wp_load_jn rfl _ rfl w3.heap.size (s : Int) p k Af m cf rfl EE2.out ?_
          refine wp_store_jn rfl _ _ rfl w.heap.size (s : Int) p k Af m cf rfl rfl EE1.out ?_
          repeat go_step
          refine ret_jn rfl rfl (MdAt.stored EE1.out (s : Int) p k Af m cf) rfl ?_
          exact EE3.out
      · have hno : ¬ okFr k s (l.drop at_) := fun h => hoe (HIFF.out.2 h).1
        have hen : entE (fourI l at_) 0 s = 1 := if_neg hoe
        simp only [hen]
        clear hoe
        obtain ⟨ee1, ee2, ee3⟩ := HEND.out w9 hb9 (frs_stop hno)
        have EE1 := Lib.hid ee1
        have EE2 := Lib.hid ee2
        have EE3 := Lib.hid ee3
        clear ee1 ee2 ee3
        go_upto_region 21 with fail
        go_step
        refine wp_load_jn rfl _ rfl w3.heap.size (s : Int) p k Af m cf rfl EE2.out ?_
        refine wp_store_jn rfl _ _ rfl w.heap.size (s : Int) p k Af m cf rfl rfl EE1.out ?_
        repeat go_step
        refine ret_jn rfl rfl (MdAt.stored EE1.out (s : Int) p k Af m cf) rfl ?_
        exact EE3.out

theorem rscan_any (w : World) (A : Option Addr) (n c : Nat) (l : List Int) (hn : l.length = n) (hnc : n ≤ c) (hcm : c ≤ maxLen) (hA : Rd w A l) (hB : IsB l) (hbig : n ≤ 900000000000) :
    Calls Try.prog 23 #[.slice A n c] w (RScanBack w l) := by
  by_cases h28 : n < 28
  · exact rscan_short w A n c l hn h28 _ rfl
  · by_cases hs : l.take 8 = jsign
    · by_cases hok : hdOk l
      · exact rscan_good w A n c l hn hnc hcm hA hB (by omega) hs hok hbig _ rfl
      · exact rscan_bad w A n c l hn hnc hcm hA hB (by omega) hs hok _ rfl
    · exact rscan_sign w A n c l hn hnc hA hB (by omega) hs _ rfl

set_option maxHeartbeats 8000000 in
theorem jscans_walk (w : World) (A : Option Addr) (n c : Nat) (l : List Int) (hn : l.length = n) (hnc : n ≤ c) (hcm : c ≤ maxLen) (hA : Rd w A l) (hB : IsB l) :
    Calls Try.prog 6 #[.slice A n c] w (JYes w) := by
  have HN := Lib.hid hn; clear hn
  have HA := Lib.hid hA; clear hA
  have HB := Lib.hid hB; clear hB
  have HC := Lib.hid hcm; clear hcm
  obtain ⟨⟨s, p, k, F, z⟩, hS⟩ : ∃ S, scanL l = S := ⟨_, rfl⟩
  have HS := Lib.hid hS; clear hS
  go_enter Try.func6, Try.ntmps6
  go_wp2_with fail
  refine (jawake_any _).mono ?_
  rintro e w1 ⟨rfl, hB1⟩
  by_cases hg : 40000 < n
  · go_wp2_with fail
    refine (jawake_any _).mono ?_
    rintro e w2 ⟨rfl, hb2⟩
    have hB2 := hB1.trans (hb2.mono hB1.size)
    go_wp2
    go_ret
    exact ⟨rfl, hB2⟩
  · go_wp2_with fail
    refine (scan_any _ A n c l HN.out hnc HC.out (HA.out.keep hB1) HB.out (by omega)).mono ?_
    rintro e w2 ⟨A2, m2, c2, rfl, h21, h22, h23, hb2⟩
    simp only [HS.out] at h21 h23 ⊢
    have hB2 := hB1.trans (hb2.mono hB1.size)
    have HF2 := Lib.hid h23
    have HL2 := Lib.hid h21
    clear h23 h21 hb2
    have hz2 := hB2.size
    go_wp2_with fail
    refine (rscan_any _ A n c l HN.out hnc HC.out (HA.out.keep hB2) HB.out (by omega)).mono ?_
    rintro e w3 ⟨A3, m3, c3, rfl, h31, h32, h33, hb3⟩
    simp only [HS.out] at h31 h33 ⊢
    have hB3 := hB2.trans (hb3.mono hB2.size)
    have HF3 := Lib.hid h33
    have HL3 := Lib.hid h31
    have HF2' := Lib.hid (HF2.out.keep hb3)
    clear h33 h31 hb3
    obtain ⟨W4, hW4⟩ : ∃ W, W = w3.alloc (.cells #[.int .i64 0, .int .i64 0, .int .u64 0, .slice none 0 0] 48) := ⟨_, rfl⟩
    have hB4 : Below w3.heap.size w3 W4 := by rw [hW4]; exact (Below.refl _ _).alloc (Nat.le_refl _) _
    have hth4 : W4.there w3.heap.size 0 4 := by
      rw [hW4]
      intro j hj
      rcases (by omega : j = 0 ∨ j = 1 ∨ j = 2 ∨ j = 3) with rfl | rfl | rfl | rfl <;> simp [go_sem]
    have HTH4 := Lib.hid hth4; clear hth4
    have HW := Lib.hid hW4
    iterate 13 go_step
    rw [← hW4]
    clear hW4 HW
    refine wp_store_jn rfl _ _ rfl w3.heap.size s p k A3 m3 c3 rfl rfl HTH4.out ?_
    obtain ⟨W5, hW5⟩ : ∃ W, W = W4.setCells w3.heap.size 0 (jnC s p k A3 m3 c3) := ⟨_, rfl⟩
    have hM5 : MdAt W5 w3.heap.size s p k A3 m3 c3 := by rw [hW5]; exact MdAt.stored HTH4.out _ _ _ _ _ _
    have hb5 : Below w3.heap.size w3 W5 := by rw [hW5]; exact below_setCells hB4 (Nat.le_refl _) _ _
    rw [← hW5]
    clear hW5
    have hB5 := hB3.trans (hb5.mono hB3.size)
    obtain ⟨q0, q1, q2, q3⟩ := hM5
    go_wp2_with fail
    refine (frames_any _ A2 A3 m2 c2 m3 c3 F F HL2.out HL3.out h22 (HF2'.out.keep hb5) (HF3.out.keep hb5)).mono ?_
    rintro e w6 ⟨rfl, hb6⟩
    simp only [decide_true]
    have hB6 := hB5.trans (hb6.mono hB5.size)
    clear hb6
    go_wp2
    go_ret
    exact ⟨rfl, hB6⟩
end Go.Proofs.Ytlehpgokjppccaa
