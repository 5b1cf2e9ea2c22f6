/- Walks: tomeref08.four, tomeref08.Decode. -/
import Derived.Test.YtlehpgokjppccaaHdZ
namespace Go.Proofs.Ytlehpgokjppccaa
open Go.RowKit
set_option maxRecDepth 100000

theorem rfour_any (w : World) (A : Option Addr) (n c : Nat) (l : List Int) (p : Nat) (hn : l.length = n) (hnc : n ≤ c) (hcm : c ≤ maxLen) (hA : Rd w A l) (hB : IsB l) (hp : p + 4 ≤ n) :
    Calls Try.prog 45 #[.slice A n c, .int .i64 (p : Int)] w fun e w' => e = .returned (.int .i64 (fourI l p)) ∧ w = w' := by
  have HN := Lib.hid hn; clear hn
  have HA := Lib.hid hA; clear hA
  have HB := Lib.hid hB; clear hB
  have hp2 : (p : Int) ≤ 9223372036854775807 := by unfold maxLen at hcm; omega
  go_enter Try.func45, Try.ntmps45
  go_wp2_with fail
  refine (rread_any _ A n c l (p : Int) 4 HN.out hnc hcm HA.out HB.out (by omega)).mono ?_
  rintro e w3 ⟨rfl, rfl⟩
  have hr := readL_ok (l := l) (p := p) (k := 4) (by decide) (by decide) (by rw [HN.out]; omega)
  rw [show ((4 : Nat) : Int) = 4 from rfl] at hr
  simp only [hr]
  clear hr
  obtain ⟨f0, f1⟩ := four_bd HB.out p
  have hf : beI ((l.drop p).take 4) = fourI l p := rfl
  simp only [hf]
  have wf : IntKind.i64.wrap (fourI l p) = fourI l p := IntWalk.i64_in _ (by omega)
  go_wp2
  go_ret
  exact ⟨rfl, rfl⟩

theorem rdecode_short (w : World) (A : Option Addr) (n c : Nat) (l : List Int) (hn : l.length = n) (hs : n < 64) (R : Ending → World → Prop) (hR : R = DecBack w l) :
    Calls Try.prog 18 #[.slice A n c] w R := by
  have HR := Lib.hid hR; clear hR
  have HN := Lib.hid hn; clear hn
  have hd : decL l = (zeroH, 6) := by rw [decL, if_pos (by rw [HN.out]; exact hs)]
  have HD := Lib.hid hd; clear hd
  go_enter Try.func18, Try.ntmps18
  go_wp2
  refine ret_hd (h := zeroH) rfl rfl (HdAt.of (by simp [go_sem, zeroH]) (by simp [go_sem, zeroH]) (by simp [go_sem, zeroH]) (by simp [go_sem, zeroH]) (by simp [go_sem, zeroH]) (by simp [go_sem, zeroH])) rfl ?_
  rw [HR.out]
  exact ⟨by rw [HD.out]; rfl, ((Below.refl _ _).alloc (Nat.le_refl _) _)⟩

theorem rdecode_sign (w : World) (A : Option Addr) (n c : Nat) (l : List Int) (hn : l.length = n) (hnc : n ≤ c) (_hcm : c ≤ maxLen) (hA : Rd w A l) (hB : IsB l) (h64 : 64 ≤ n) (hs : l.take 16 ≠ signL) (R : Ending → World → Prop) (hR : R = DecBack w l) :
    Calls Try.prog 18 #[.slice A n c] w R := by
  have HR := Lib.hid hR; clear hR
  have HN := Lib.hid hn; clear hn
  have hd : decL l = (zeroH, 8) := by rw [decL, if_neg (by rw [HN.out]; omega), if_pos hs]
  have HD := Lib.hid hd; clear hd
  have hs1 := run_str (w.alloc (.cells #[.int .i64 0, .int .i64 0, .int .i64 0, .int .i64 0, .int .i64 0, .int .i64 0] 23)) A 16 c (l.take 16) (by rw [List.length_take, HN.out]; omega) ((rd_take hA 16).keep ((Below.refl _ _).alloc (Nat.le_refl _) _))
  have hcmp : ((strOfNums (l.take 16)).toList == ([116, 111, 109, 101, 32, 102, 105, 108, 101, 32, 49, 0, 0, 0, 0, 0] : List UInt8)) = false := by
    rw [← sign_const, str_beq (isB_take hB 16) signL_isB, beqL_no]
    exact hs
  obtain ⟨b, off, rfl, _, _⟩ := hA.at (by rw [HN.out]; omega)
  have hc16 : 16 ≤ c := by omega
  go_enter Try.func18, Try.ntmps18
  go_wp2_with fail
  refine ret_hd (h := zeroH) rfl rfl (HdAt.of (by simp [go_sem, zeroH]) (by simp [go_sem, zeroH]) (by simp [go_sem, zeroH]) (by simp [go_sem, zeroH]) (by simp [go_sem, zeroH]) (by simp [go_sem, zeroH])) rfl ?_
  rw [HR.out]
  exact ⟨by rw [HD.out]; rfl, ((Below.refl _ _).alloc (Nat.le_refl _) _)⟩

set_option maxHeartbeats 8000000 in
theorem rdecode_main (w : World) (A : Option Addr) (n c : Nat) (l : List Int) (hn : l.length = n) (hnc : n ≤ c) (hcm : c ≤ maxLen) (hA : Rd w A l) (hB : IsB l) (h64 : 64 ≤ n) (hs : l.take 16 = signL) (R : Ending → World → Prop) (hR : R = DecBack w l) :
    Calls Try.prog 18 #[.slice A n c] w R := by
  have HR := Lib.hid hR; clear hR
  have HN := Lib.hid hn; clear hn
  obtain ⟨W2, hW2⟩ : ∃ W, W = w.alloc (.cells #[.int .i64 0, .int .i64 0, .int .i64 0, .int .i64 0, .int .i64 0, .int .i64 0] 23) := ⟨_, rfl⟩
  have hbW : Below w.heap.size w W2 := by rw [hW2]; exact (Below.refl _ _).alloc (Nat.le_refl _) _
  have hs1 := run_str W2 A 16 c (l.take 16) (by rw [List.length_take, HN.out]; omega) ((rd_take hA 16).keep hbW)
  rw [hW2] at hs1
  have hcmp : ((strOfNums (l.take 16)).toList == ([116, 111, 109, 101, 32, 102, 105, 108, 101, 32, 49, 0, 0, 0, 0, 0] : List UInt8)) = true := by
    rw [← sign_const, str_beq (isB_take hB 16) signL_isB, hs, beqL_self]
  obtain ⟨b, off, rfl, _, _⟩ := hA.at (by rw [HN.out]; omega)
  have hc16 : 16 ≤ c := by omega
  have hc64 : 64 ≤ c := by omega
  have qz : HdZ W2 w.heap.size := by
    intro i hi
    rw [hW2]
    rcases (by omega : i = 0 ∨ i = 1 ∨ i = 2 ∨ i = 3 ∨ i = 4 ∨ i = 5) with rfl | rfl | rfl | rfl | rfl | rfl <;> simp [go_sem]
  have QZ := Lib.hid qz; clear qz
  have hs2 : W2.heap.size = w.heap.size + 1 := by rw [hW2]; simp
  have hAW := hA.keep hbW
  have HA := Lib.hid hAW; clear hA hAW
  have HB := Lib.hid hB; clear hB
  have HS := Lib.hid hs; clear hs
  have hW := hW2
  have HW := Lib.hid hW2; clear hW2
  go_enter Try.func18, Try.ntmps18
  go_wp2_with fail
  clear hs1
  rw [← hW]
  clear hW
  have hok := readH_ok HB.out
  have HOK := Lib.hid hok; clear hok
  have hRH : readH l = ⟨fourI l 16, fourI l 20, fourI l 24, fourI l 28, fourI l 32, fourI l 36⟩ := rfl
  have HH := Lib.hid hRH; clear hRH
  refine (rfour_any _ _ n c l 16 HN.out hnc hcm HA.out HB.out (by omega)).mono ?_
  rintro e w' ⟨rfl, rfl⟩
  go_wp2_with fail
  refine (rfour_any _ _ n c l 20 HN.out hnc hcm HA.out HB.out (by omega)).mono ?_
  rintro e w' ⟨rfl, rfl⟩
  go_wp2_with fail
  refine (rfour_any _ _ n c l 24 HN.out hnc hcm HA.out HB.out (by omega)).mono ?_
  rintro e w' ⟨rfl, rfl⟩
  go_wp2_with fail
  refine (rfour_any _ _ n c l 28 HN.out hnc hcm HA.out HB.out (by omega)).mono ?_
  rintro e w' ⟨rfl, rfl⟩
  go_wp2_with fail
  refine (rfour_any _ _ n c l 32 HN.out hnc hcm HA.out HB.out (by omega)).mono ?_
  rintro e w' ⟨rfl, rfl⟩
  go_wp2_with fail
  refine (rfour_any _ _ n c l 36 HN.out hnc hcm HA.out HB.out (by omega)).mono ?_
  rintro e w' ⟨rfl, rfl⟩
  generalize fourI l 16 = f0 at HH ⊢
  generalize fourI l 20 = f1 at HH ⊢
  generalize fourI l 24 = f2 at HH ⊢
  generalize fourI l 28 = f3 at HH ⊢
  generalize fourI l 32 = f4 at HH ⊢
  generalize fourI l 36 = f5 at HH ⊢
  go_wp2_with fail
  refine (rencode_any _ ⟨f0, f1, f2, f3, f4, f5⟩ (by rw [← HH.out]; exact HOK.out)).mono ?_
  rintro e w3 ⟨A3, n3, c3, rfl, hown, hb3⟩
  have hb3' : Below W2.heap.size W2 w3 := ((Below.refl _ _).alloc (Nat.le_refl _) _).trans (hb3.mono (by simp))
  have hfl : ∀ i, i < 6 → w3.cell? ⟨W2.heap.size, i, none⟩ = some (.int .i64 ((⟨f0, f1, f2, f3, f4, f5⟩ : Hd).list.getD i 0)) := by
    intro i hi
    rw [hb3.cell (by simp)]
    rcases (by omega : i = 0 ∨ i = 1 ∨ i = 2 ∨ i = 3 ∨ i = 4 ∨ i = 5) with rfl | rfl | rfl | rfl | rfl | rfl <;> simp [go_sem, Hd.list]
  have HF := Lib.hid hfl; clear hfl hb3
  have HO := Lib.hid hown; clear hown
  have hB3 : Below w.heap.size w w3 := hbW.trans (hb3'.mono (by omega))
  have HZ := Lib.hid (QZ.out.keep hb3' (by omega)); clear QZ
  rw [hs2] at HF
  by_cases hg : (readH l).good
  · have HC := Lib.hid (show checkI ⟨f0, f1, f2, f3, f4, f5⟩ = 0 by rw [← HH.out]; exact check_yes hg)
    have HE := Lib.hid (show encL ⟨f0, f1, f2, f3, f4, f5⟩ = headL (readH l) by rw [← HH.out]; exact encL_yes hg)
    have HG := Lib.hid hg; clear hg
    simp only [HC.out]
    go_wp2_with fail
    refine (same1_any _ A3 _ n3 c3 64 _ _ (l.take 64) HO.out.len (by rw [List.length_take, HN.out]; omega) (by have := HO.out.cap; unfold maxLen at this; omega) HO.out.rd (rd_take (HA.out.keep hb3') 64)).mono ?_
    rintro e w4 ⟨rfl, hb4⟩
    have hb4' : Below w3.heap.size w3 w4 := hb4
    have hB4 : Below w.heap.size w w4 := hB3.trans (hb4'.mono hB3.size)
    have hsz3 := hb3'.size
    have HZ4 := Lib.hid (HZ.out.keep hb4' (by omega)); clear HZ
    have HF4 := Lib.hid (show HdAt w4 (w.heap.size + 1) ⟨f0, f1, f2, f3, f4, f5⟩ from fun i hi => by rw [hb4'.cell (by show w.heap.size + 1 < _; exact World.block_lt_of_cell? _ _ (HF.out 0 (by decide)))]; exact HF.out i hi)
    clear HF
    rw [HE.out]
    by_cases he : headL (readH l) = l.take 64
    · have hq : beqL (headL (readH l)) (l.take 64) = true := by rw [he, beqL_self]
      have hd : decL l = (⟨f0, f1, f2, f3, f4, f5⟩, 0) := by rw [← HH.out, decL, if_neg (by rw [HN.out]; omega), if_neg (by rw [HS.out]; simp), if_pos ⟨HG.out, he⟩]
      have HD := Lib.hid hd; clear hd he
      simp only [hq]
      clear hq
      go_upto_region 9 with fail
      go_step
      refine wp_load_hd rfl _ rfl (w.heap.size + 1) ⟨f0, f1, f2, f3, f4, f5⟩ rfl HF4.out ?_
      refine wp_store_hd rfl _ _ rfl w.heap.size ⟨f0, f1, f2, f3, f4, f5⟩ rfl rfl HZ4.out.there ?_
      repeat go_step
      refine ret_hd (h := ⟨f0, f1, f2, f3, f4, f5⟩) rfl rfl (HdZ.at HZ4.out.there _) rfl ?_
      rw [HR.out]
      exact ⟨by rw [HD.out]; rfl, below_setCells hB4 (by omega) _ _⟩
    · have hq : beqL (headL (readH l)) (l.take 64) = false := by rw [beqL_no]; exact he
      have hd : decL l = (zeroH, 14) := by rw [decL, if_neg (by rw [HN.out]; omega), if_neg (by rw [HS.out]; simp), if_neg (fun h => he h.2)]
      have HD := Lib.hid hd; clear hd he
      simp only [hq]
      clear hq
      go_upto_region 8 with fail
      go_step
      go_step
      go_step
      go_step
      refine wp_store_hd rfl _ _ rfl w.heap.size zeroH rfl rfl HZ4.out.there ?_
      repeat go_step
      refine ret_hd (h := zeroH) rfl rfl (HdZ.at HZ4.out.there _) rfl ?_
      rw [HR.out]
      exact ⟨by rw [HD.out]; rfl, below_setCells hB4 (by omega) _ _⟩
  · have HC := Lib.hid (show checkI ⟨f0, f1, f2, f3, f4, f5⟩ = 1 by rw [← HH.out]; exact check_no hg)
    have hd : decL l = (zeroH, 14) := by rw [decL, if_neg (by rw [HN.out]; omega), if_neg (by rw [HS.out]; simp), if_neg (fun h => hg h.1)]
    have HD := Lib.hid hd; clear hd hg
    simp only [HC.out]
    go_upto_region 8 with fail
    go_step
    go_step
    go_step
    go_step
    refine wp_store_hd rfl _ _ rfl w.heap.size zeroH rfl rfl HZ.out.there ?_
    repeat go_step
    refine ret_hd (h := zeroH) rfl rfl (HdZ.at HZ.out.there _) rfl ?_
    rw [HR.out]
    exact ⟨by rw [HD.out]; rfl, below_setCells hB3 (by omega) _ _⟩
end Go.Proofs.Ytlehpgokjppccaa
