/- Walk: header.Decode, behind its sign. -/
import Derived.Test.YtlehpgokjppccaaHdZ
namespace Go.Proofs.Ytlehpgokjppccaa
open Go.RowKit
set_option maxRecDepth 100000

set_option maxHeartbeats 8000000 in
theorem decode_bad (w : World) (A : Option Addr) (n c : Nat) (l : List Int) (hn : l.length = n) (hnc : n ≤ c) (hcm : c ≤ maxLen) (hA : Rd w A l) (hB : IsB l) (h64 : 64 ≤ n) (hs : l.take 16 = signL) (hg : ¬ (readH l).good) (R : Ending → World → Prop) (hR : R = DecBack w l) :
    Calls Try.prog 17 #[.slice A n c] w R := by
  have HR := Lib.hid hR; clear hR
  have HG := Lib.hid hg; clear hg
  have HN := Lib.hid hn; clear hn
  obtain ⟨W2, hW2⟩ : ∃ W, W = ((w.alloc (.cells #[.slice A n c] 24)).alloc (.cells #[.int .i64 0, .int .i64 0, .int .i64 0, .int .i64 0, .int .i64 0, .int .i64 0] 23)) := ⟨_, rfl⟩
  have hbW : Below w.heap.size w W2 := by rw [hW2]; exact ((Below.refl _ _).alloc (Nat.le_refl _) _).alloc (by simp) _
  have hs1 := run_str W2 A 16 c (l.take 16) (by rw [List.length_take, HN.out]; omega) ((rd_take hA 16).keep hbW)
  rw [hW2] at hs1
  have hcmp : ((strOfNums (l.take 16)).toList == ([116, 111, 109, 101, 32, 102, 105, 108, 101, 32, 49, 0, 0, 0, 0, 0] : List UInt8)) = true := by
    rw [← sign_const, str_beq (isB_take hB 16) signL_isB, hs, beqL_self]
  obtain ⟨b, off, rfl, _, _⟩ := hA.at (by rw [HN.out]; omega)
  have hc16 : 16 ≤ c := by omega
  have hpc : W2.cell? ⟨w.heap.size, 0, none⟩ = some (.slice (some ⟨b, off, none⟩) n c) := by rw [hW2]; simp [go_sem]
  have hsz2 : W2.heap.size = w.heap.size + 2 := by rw [hW2]; simp
  have HA := Lib.hid hA; clear hA
  have HB := Lib.hid hB; clear hB
  have HW := Lib.hid hW2
  have HS := Lib.hid hs; clear hs
  go_enter Try.func17, Try.ntmps17
  go_wp2_with fail
  have hfield : ∀ (i p : Nat), i ≤ 5 → p = 16 + 4 * i → Calls Try.prog 43 #[.int .i64 (i : Int), .pointer (some ⟨w.heap.size, 0, none⟩)] W2 fun e w' => e = .returned (.int .i64 (fourI l p)) ∧ W2 = w' := by
    intro i p hi hp
    subst hp
    exact hfield_any W2 ⟨w.heap.size, 0, none⟩ _ n c l i hi hpc HN.out hnc hcm (HA.out.keep hbW) HB.out h64
  rw [hW2] at hfield
  have HFI := Lib.hid hfield; clear hfield
  refine (HFI.out 0 16 (by decide) rfl).mono ?_
  rintro e w' ⟨rfl, rfl⟩
  go_wp2_with fail
  refine (HFI.out 1 20 (by decide) rfl).mono ?_
  rintro e w' ⟨rfl, rfl⟩
  go_wp2_with fail
  refine (HFI.out 2 24 (by decide) rfl).mono ?_
  rintro e w' ⟨rfl, rfl⟩
  go_wp2_with fail
  refine (HFI.out 3 28 (by decide) rfl).mono ?_
  rintro e w' ⟨rfl, rfl⟩
  go_wp2_with fail
  refine (HFI.out 4 32 (by decide) rfl).mono ?_
  rintro e w' ⟨rfl, rfl⟩
  go_wp2_with fail
  refine (HFI.out 5 36 (by decide) rfl).mono ?_
  rintro e w' ⟨rfl, rfl⟩
  go_wp2_with fail
  have hok := readH_ok HB.out
  have HOK := Lib.hid hok; clear hok
  have hRH : readH l = ⟨fourI l 16, fourI l 20, fourI l 24, fourI l 28, fourI l 32, fourI l 36⟩ := rfl
  have HH := Lib.hid hRH; clear hRH
  generalize fourI l 16 = f0 at HH ⊢
  generalize fourI l 20 = f1 at HH ⊢
  generalize fourI l 24 = f2 at HH ⊢
  generalize fourI l 28 = f3 at HH ⊢
  generalize fourI l 32 = f4 at HH ⊢
  generalize fourI l 36 = f5 at HH ⊢
  obtain ⟨wx, hwx⟩ : ∃ x, x = (((w.alloc (.cells #[.slice (some ⟨b, off, none⟩) n c] 24)).alloc (.cells #[.int .i64 0, .int .i64 0, .int .i64 0, .int .i64 0, .int .i64 0, .int .i64 0] 23)).alloc (.cells #[.int .i64 f0, .int .i64 f1, .int .i64 f2, .int .i64 f3, .int .i64 f4, .int .i64 f5] 23)) := ⟨_, rfl⟩
  rw [← hwx]
  have hbx : Below w.heap.size w wx := by
    rw [hwx]; exact (((Below.refl _ _).alloc (Nat.le_refl _) _).alloc (by simp) _).alloc (by simp; omega) _
  have hsx : wx.heap.size = w.heap.size + 3 := by rw [hwx]; simp
  have q0 : wx.cell? ⟨w.heap.size + 1 + 1, 0, none⟩ = some (.int .i64 f0) := by rw [hwx]; simp [go_sem]
  have q1 : wx.cell? ⟨w.heap.size + 1 + 1, 1, none⟩ = some (.int .i64 f1) := by rw [hwx]; simp [go_sem]
  have q2 : wx.cell? ⟨w.heap.size + 1 + 1, 2, none⟩ = some (.int .i64 f2) := by rw [hwx]; simp [go_sem]
  have q3 : wx.cell? ⟨w.heap.size + 1 + 1, 3, none⟩ = some (.int .i64 f3) := by rw [hwx]; simp [go_sem]
  have q4 : wx.cell? ⟨w.heap.size + 1 + 1, 4, none⟩ = some (.int .i64 f4) := by rw [hwx]; simp [go_sem]
  have q5 : wx.cell? ⟨w.heap.size + 1 + 1, 5, none⟩ = some (.int .i64 f5) := by rw [hwx]; simp [go_sem]
  have q6 : wx.cell? ⟨w.heap.size, 0, none⟩ = some (.slice (some ⟨b, off, none⟩) n c) := by rw [hwx]; simp [go_sem]
  have qz : HdZ wx (w.heap.size + 1) := by
    intro i hi
    rw [hwx]
    rcases (by omega : i = 0 ∨ i = 1 ∨ i = 2 ∨ i = 3 ∨ i = 4 ∨ i = 5) with rfl | rfl | rfl | rfl | rfl | rfl <;> simp [go_sem]
  have hd : decL l = (zeroH, 14) := by rw [decL, if_neg (by rw [HN.out]; omega), if_neg (by rw [HS.out]; simp), if_neg (fun h => HG.out h.1)]
  have HD := Lib.hid hd; clear hd
  have QZ := Lib.hid qz; clear qz
  clear hwx HW hs1 HFI hbW hpc hsz2 hW2
  have HCE := Lib.hid (show checkI ⟨f0, f1, f2, f3, f4, f5⟩ = 1 by rw [← HH.out]; exact check_no HG.out)

  by_cases z0 : f0 = 0
  · subst z0
    by_cases z1 : f1 = 0
    · subst z1
      by_cases z2 : f2 = 0
      · subst z2
        by_cases z3 : f3 = 0
        · subst z3
          by_cases z4 : f4 = 0
          · subst z4
            by_cases z5 : f5 = 0
            · subst z5
              clear HCE HOK HH
              go_quiet (fail)
              have hbn : Below wx.heap.size wx (wx.drewN nq) := below_drewN (Below.refl _ wx) nq
              have HZ := Lib.hid (QZ.out.keep hbn (by omega)); clear QZ
              go_upto_region 8 with fail
              go_step
              go_step
              go_step
              go_step
              refine wp_store_hd rfl _ _ rfl (w.heap.size + 1) zeroH rfl rfl HZ.out.there ?_
              repeat go_step
              refine ret_hd (h := zeroH) rfl rfl (HdZ.at HZ.out.there zeroH) rfl ?_
              rw [HR.out]
              exact ⟨by rw [HD.out]; rfl, below_setCells (hbx.trans (hbn.mono (by omega))) (by omega) _ _⟩
            · have e5 : (f5 == 0) = false := by simpa using z5
              go_region_with (go_at_call 15; refine (check_any _ ⟨0, 0, 0, 0, 0, f5⟩ (by rw [← HH.out]; exact HOK.out)).mono ?_; rintro e w8 ⟨rfl, hb8⟩; have hb9 : Below wx.heap.size wx w8 := ((Below.refl _ wx).drew).trans hb8; clear hb8; have HZ := Lib.hid (QZ.out.keep hb9 (by omega)); simp only [HCE.out])
              all_goals go_upto_region 8 with fail
              all_goals go_step
              all_goals go_step
              all_goals go_step
              all_goals go_step
              all_goals refine wp_store_hd rfl _ _ rfl (w.heap.size + 1) zeroH rfl rfl HZ.out.there ?_
              all_goals repeat go_step
              all_goals refine ret_hd (h := zeroH) rfl rfl (HdZ.at HZ.out.there zeroH) rfl ?_
              all_goals rw [HR.out]
              all_goals exact ⟨by rw [HD.out]; rfl, below_setCells (hbx.trans (hb9.mono (by omega))) (by omega) _ _⟩
          · have e4 : (f4 == 0) = false := by simpa using z4
            go_region_with (go_at_call 15; refine (check_any _ ⟨0, 0, 0, 0, f4, f5⟩ (by rw [← HH.out]; exact HOK.out)).mono ?_; rintro e w8 ⟨rfl, hb8⟩; have hb9 : Below wx.heap.size wx w8 := ((Below.refl _ wx).drew).trans hb8; clear hb8; have HZ := Lib.hid (QZ.out.keep hb9 (by omega)); simp only [HCE.out])
            all_goals go_upto_region 8 with fail
            all_goals go_step
            all_goals go_step
            all_goals go_step
            all_goals go_step
            all_goals refine wp_store_hd rfl _ _ rfl (w.heap.size + 1) zeroH rfl rfl HZ.out.there ?_
            all_goals repeat go_step
            all_goals refine ret_hd (h := zeroH) rfl rfl (HdZ.at HZ.out.there zeroH) rfl ?_
            all_goals rw [HR.out]
            all_goals exact ⟨by rw [HD.out]; rfl, below_setCells (hbx.trans (hb9.mono (by omega))) (by omega) _ _⟩
        · have e3 : (f3 == 0) = false := by simpa using z3
          go_region_with (go_at_call 15; refine (check_any _ ⟨0, 0, 0, f3, f4, f5⟩ (by rw [← HH.out]; exact HOK.out)).mono ?_; rintro e w8 ⟨rfl, hb8⟩; have hb9 : Below wx.heap.size wx w8 := ((Below.refl _ wx).drew).trans hb8; clear hb8; have HZ := Lib.hid (QZ.out.keep hb9 (by omega)); simp only [HCE.out])
          all_goals go_upto_region 8 with fail
          all_goals go_step
          all_goals go_step
          all_goals go_step
          all_goals go_step
          all_goals refine wp_store_hd rfl _ _ rfl (w.heap.size + 1) zeroH rfl rfl HZ.out.there ?_
          all_goals repeat go_step
          all_goals refine ret_hd (h := zeroH) rfl rfl (HdZ.at HZ.out.there zeroH) rfl ?_
          all_goals rw [HR.out]
          all_goals exact ⟨by rw [HD.out]; rfl, below_setCells (hbx.trans (hb9.mono (by omega))) (by omega) _ _⟩
      · have e2 : (f2 == 0) = false := by simpa using z2
        go_region_with (go_at_call 15; refine (check_any _ ⟨0, 0, f2, f3, f4, f5⟩ (by rw [← HH.out]; exact HOK.out)).mono ?_; rintro e w8 ⟨rfl, hb8⟩; have hb9 : Below wx.heap.size wx w8 := ((Below.refl _ wx).drew).trans hb8; clear hb8; have HZ := Lib.hid (QZ.out.keep hb9 (by omega)); simp only [HCE.out])
        all_goals go_upto_region 8 with fail
        all_goals go_step
        all_goals go_step
        all_goals go_step
        all_goals go_step
        all_goals refine wp_store_hd rfl _ _ rfl (w.heap.size + 1) zeroH rfl rfl HZ.out.there ?_
        all_goals repeat go_step
        all_goals refine ret_hd (h := zeroH) rfl rfl (HdZ.at HZ.out.there zeroH) rfl ?_
        all_goals rw [HR.out]
        all_goals exact ⟨by rw [HD.out]; rfl, below_setCells (hbx.trans (hb9.mono (by omega))) (by omega) _ _⟩
    · have e1 : (f1 == 0) = false := by simpa using z1
      go_region_with (go_at_call 15; refine (check_any _ ⟨0, f1, f2, f3, f4, f5⟩ (by rw [← HH.out]; exact HOK.out)).mono ?_; rintro e w8 ⟨rfl, hb8⟩; have hb9 : Below wx.heap.size wx w8 := ((Below.refl _ wx).drew).trans hb8; clear hb8; have HZ := Lib.hid (QZ.out.keep hb9 (by omega)); simp only [HCE.out])
      all_goals go_upto_region 8 with fail
      all_goals go_step
      all_goals go_step
      all_goals go_step
      all_goals go_step
      all_goals refine wp_store_hd rfl _ _ rfl (w.heap.size + 1) zeroH rfl rfl HZ.out.there ?_
      all_goals repeat go_step
      all_goals refine ret_hd (h := zeroH) rfl rfl (HdZ.at HZ.out.there zeroH) rfl ?_
      all_goals rw [HR.out]
      all_goals exact ⟨by rw [HD.out]; rfl, below_setCells (hbx.trans (hb9.mono (by omega))) (by omega) _ _⟩
  · have e0 : (f0 == 0) = false := by simpa using z0
    go_region_with (go_at_call 15; refine (check_any _ ⟨f0, f1, f2, f3, f4, f5⟩ (by rw [← HH.out]; exact HOK.out)).mono ?_; rintro e w8 ⟨rfl, hb8⟩; have hb9 : Below wx.heap.size wx w8 := ((Below.refl _ wx).drew).trans hb8; clear hb8; have HZ := Lib.hid (QZ.out.keep hb9 (by omega)); simp only [HCE.out])
    all_goals go_upto_region 8 with fail
    all_goals go_step
    all_goals go_step
    all_goals go_step
    all_goals go_step
    all_goals refine wp_store_hd rfl _ _ rfl (w.heap.size + 1) zeroH rfl rfl HZ.out.there ?_
    all_goals repeat go_step
    all_goals refine ret_hd (h := zeroH) rfl rfl (HdZ.at HZ.out.there zeroH) rfl ?_
    all_goals rw [HR.out]
    all_goals exact ⟨by rw [HD.out]; rfl, below_setCells (hbx.trans (hb9.mono (by omega))) (by omega) _ _⟩
end Go.Proofs.Ytlehpgokjppccaa
