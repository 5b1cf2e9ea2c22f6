/- Walk: SlotsReads. -/
import Derived.Test.YtoeaffmlolapnaaSrR
namespace Go.Proofs.Ytoeaffmlolapnaa
open Go.RowKit
set_option maxRecDepth 100000
set_option linter.unusedVariables false
set_option linter.unusedSimpArgs false
set_option linter.unnecessarySimpa false

set_option maxHeartbeats 32000000 in
theorem slotsReads_walk (w : World) (A0 : Option Addr) (n0 c0 : Nat) (L0 : List Int) (h : Int) (A : Option Addr) (m c : Nat) (F : List Dd) (hn0 : L0.length = n0) (hnc0 : n0 ≤ c0) (hcm0 : c0 ≤ maxLen) (hA0 : Rd w A0 L0) (hB0 : IsB L0) (hh : i64b h) (hF : F.length = m) (hmc : m ≤ c) (hcm : c ≤ maxLen) (hA : RdDd w A F) (hok : ∀ d ∈ F, DdOk d) :
    Calls Try.prog 4 #[.slice A0 n0 c0, .int .i64 h, .slice A m c] w (LiveYes w) := by
  obtain ⟨R, hR⟩ : ∃ R, R = LiveYes w := ⟨_, rfl⟩
  rw [← hR]
  have HRR := Lib.hid hR; clear hR
  have HA := Lib.hid hA
  have HA0 := Lib.hid hA0
  have HN0 := Lib.hid hn0
  have HB0 := Lib.hid hB0
  have HF := Lib.hid hF
  have HOK := Lib.hid hok
  have hm63 : m ≤ 9223372036854775807 := by unfold maxLen at hcm; omega
  have hn63 : n0 ≤ 9223372036854775807 := by unfold maxLen at hcm0; omega
  have hsm := small9_any w A m c F hF hmc hcm hA
  clear hA hok hF hA0 hn0 hB0
  by_cases hbig : n0 ≤ 8192
  case neg =>
    have hbig' : (8192 : Int) < (n0 : Int) := by omega
    clear hbig hsm
    go_enter Try.func4, Try.ntmps4
    go_wp2_with fail
    refine (live_any _ _ rfl).mono ?_
    rintro e w2 ⟨rfl, hb2⟩
    go_wp2_with fail
    rw [HRR.out]
    exact ⟨rfl, hb2⟩
  have hbig' : ¬ (8192 : Int) < (n0 : Int) := by omega
  go_enter Try.func4, Try.ntmps4
  go_wp2_with fail
  refine hsm.mono ?_
  clear hsm
  rintro e w1 ⟨rfl, rfl⟩
  by_cases hsml : smallD F
  case neg =>
    rw [decide_eq_false hsml]
    clear hsml
    go_wp2_with fail
    refine (live_any _ _ rfl).mono ?_
    rintro e w2 ⟨rfl, hb2⟩
    go_wp2_with fail
    rw [HRR.out]
    exact ⟨rfl, hb2⟩
  rw [decide_eq_true hsml]
  have HSM := Lib.hid hsml
  have hm100 : m ≤ 100 := by rw [← HF.out]; exact hsml.1
  clear hsml
  go_wp2_with fail
  refine (pOf_any _ A0 n0 c0 L0 HN0.out (by omega) HA0.out HB0.out h hh _ rfl).mono ?_
  rintro e w2 ⟨hb2, hcase⟩
  have hbel2 := hb2.size
  rcases hcase with ⟨hno, rfl⟩ | ⟨hm, hno, rfl⟩ | ⟨hm, hof, g, gb, N, X, rfl, hg0, hgb0, hp⟩
  · go_wp2_with fail
    refine (rOf_any _ [] (by simp) A0 n0 c0 L0 HN0.out hnc0 (by omega) (HA0.out.keep hb2) HB0.out h hh _ rfl).mono ?_
    rintro e w3 ⟨hb3, r, M, z, rfl, hv, hcs⟩
    have hz : M = zeroM ∧ z = 1 := by
      rcases hcs with ⟨h1, h2, h3⟩ | ⟨h1, h2, h3, h4⟩ | ⟨h1, h2, h3, h4⟩
      · exact ⟨h2, h3⟩
      · exact absurd h1 hno
      · exact absurd h1 hno
    obtain ⟨rfl, rfl⟩ := hz
    have hb3' : Below w.heap.size w w3 := hb2.trans (hb3.mono hb2.size)
    have q1 : ((1 : Int) != 1) = false := rfl
    have q2 : ((1 : Int) != 0) = true := rfl
    clear hcs hno
    obtain ⟨W4, hW4⟩ : ∃ W, W = w3.alloc (.cells #[.int .i64 0, .slice none 0 0, .slice none 0 0, .slice none 0 0] 33) := ⟨_, rfl⟩
    have hb4 : Below w3.heap.size w3 W4 := by rw [hW4]; exact (Below.refl _ _).alloc (Nat.le_refl _) _
    have HT4 := Lib.hid (show W4.there w3.heap.size 0 4 by rw [hW4]; exact there_new4 w3 _ _ _ _ _)
    have HW4 := Lib.hid hW4
    clear hW4
    simp only []
    iterate 13 go_step
    rw [← HW4.out]
    refine wp_store_rp rfl _ _ rfl w3.heap.size r zeroM rfl rfl HT4.out ?_
    obtain ⟨w5, hw5⟩ : ∃ W, W = W4.setCells w3.heap.size 0 (rpC r zeroM) := ⟨_, rfl⟩
    have hb5 : Below w.heap.size w w5 := by rw [hw5]; exact below_setCellsR (hb3'.trans (hb4.mono hb3'.size)) hb3'.size _ _
    rw [← hw5]
    clear hw5
    go_wp2_with fail
    refine (live_any _ _ rfl).mono ?_
    rintro e w6 ⟨rfl, hb6⟩
    go_wp2_with fail
    rw [HRR.out]
    exact ⟨rfl, hb5.trans (hb6.mono hb5.size)⟩
  · go_wp2_with fail
    refine (rOf_any _ [] (by simp) A0 n0 c0 L0 HN0.out hnc0 (by omega) (HA0.out.keep hb2) HB0.out h hh _ rfl).mono ?_
    rintro e w3 ⟨hb3, r, M, z, rfl, hv, hcs⟩
    have hz : M = zeroM ∧ z = 14 := by
      rcases hcs with ⟨h1, h2, h3⟩ | ⟨h1, h2, h3, h4⟩ | ⟨h1, h2, h3, h4⟩
      · exact absurd hm h1
      · exact ⟨h3, h4⟩
      · exact absurd h2 hno
    obtain ⟨rfl, rfl⟩ := hz
    have hb3' : Below w.heap.size w w3 := hb2.trans (hb3.mono hb2.size)
    have q1 : ((14 : Int) != 14) = false := rfl
    have q2 : ((14 : Int) != 0) = true := rfl
    clear hcs hno
    obtain ⟨W4, hW4⟩ : ∃ W, W = w3.alloc (.cells #[.int .i64 0, .slice none 0 0, .slice none 0 0, .slice none 0 0] 33) := ⟨_, rfl⟩
    have hb4 : Below w3.heap.size w3 W4 := by rw [hW4]; exact (Below.refl _ _).alloc (Nat.le_refl _) _
    have HT4 := Lib.hid (show W4.there w3.heap.size 0 4 by rw [hW4]; exact there_new4 w3 _ _ _ _ _)
    have HW4 := Lib.hid hW4
    clear hW4
    simp only []
    iterate 13 go_step
    rw [← HW4.out]
    refine wp_store_rp rfl _ _ rfl w3.heap.size r zeroM rfl rfl HT4.out ?_
    obtain ⟨w5, hw5⟩ : ∃ W, W = W4.setCells w3.heap.size 0 (rpC r zeroM) := ⟨_, rfl⟩
    have hb5 : Below w.heap.size w w5 := by rw [hw5]; exact below_setCellsR (hb3'.trans (hb4.mono hb3'.size)) hb3'.size _ _
    rw [← hw5]
    clear hw5
    go_wp2_with fail
    refine (live_any _ _ rfl).mono ?_
    rintro e w6 ⟨rfl, hb6⟩
    go_wp2_with fail
    rw [HRR.out]
    exact ⟨rfl, hb5.trans (hb6.mono hb5.size)⟩
  go_wp2_with fail
  have hltp := hp.lt
  refine (rOf_any _ [gb] (by intro i hi; simp at hi; subst hi; exact hltp.2) A0 n0 c0 L0 HN0.out hnc0 (by omega) (HA0.out.keep hb2) HB0.out h hh _ rfl).mono ?_
  rintro e w3 ⟨hb3, r, M, z, rfl, hv, hcs⟩
  have hz : M = mdlOf L0 h.toNat ∧ z = 0 := by
    rcases hcs with ⟨h1, h2, h3⟩ | ⟨h1, h2, h3, h4⟩ | ⟨h1, h2, h3, h4⟩
    · exact absurd hm h1
    · exact absurd hof h2
    · exact ⟨h3, h4⟩
  obtain ⟨hM0', rfl⟩ := hz
  clear hcs
  have hlD : h.toNat ≤ L0.length := by
    obtain ⟨m1, m2, m3, m4⟩ := hm
    omega
  have hh0 : M.h = h.toNat := by rw [hM0']; exact mdlOf_h hlD
  have hg0' : Good M := by rw [hM0']; exact hof.1
  have hi0' : IsP L0 M := by rw [hM0']; exact hof.2
  obtain ⟨M0, hMM⟩ : ∃ Z, M = Z := ⟨_, rfl⟩
  rw [hMM] at hv hh0 hg0' hi0' ⊢
  clear hm hM0' hMM hof hlD
  have hb3' : Below w.heap.size w w3 := hb2.trans (hb3.mono hb2.size)
  have q1 : ((0 : Int) != 0) = false := rfl
  obtain ⟨W4, hW4⟩ : ∃ W, W = w3.alloc (.cells #[.int .i64 0, .slice none 0 0, .slice none 0 0, .slice none 0 0] 33) := ⟨_, rfl⟩
  have hb4 : Below w3.heap.size w3 W4 := by rw [hW4]; exact (Below.refl _ _).alloc (Nat.le_refl _) _
  have HT4 := Lib.hid (show W4.there w3.heap.size 0 4 by rw [hW4]; exact there_new4 w3 _ _ _ _ _)
  have HW4 := Lib.hid hW4
  clear hW4
  simp only []
  iterate 13 go_step
  rw [← HW4.out]
  refine wp_store_rp rfl _ _ rfl w3.heap.size r M0 rfl rfl HT4.out ?_
  obtain ⟨w5, hw5⟩ : ∃ W, W = W4.setCells w3.heap.size 0 (rpC r M0) := ⟨_, rfl⟩
  have hb35 : Below w3.heap.size w3 w5 := by rw [hw5]; exact below_setCellsR hb4 (Nat.le_refl _) _ _
  have hz3 := hb3.size
  have HS := Lib.hid (show St w w5 [gb, w3.heap.size] g gb N w3.heap.size X M0 r L0 by
    have hl5 : w3.heap.size < w5.heap.size := by rw [hw5, size_setCells, HW4.out]; simp
    refine ⟨by rw [hh0]; exact (hp.keep hb3).keep hb35, hi0', hg0', ?_, ?_, ?_, by simp, by simp, by omega, by omega, hgb0, hb3'.size, ?_, hb3'.trans (hb35.mono hb3'.size)⟩
    · refine RefV.frame (bad' := [w3.heap.size, gb]) (w := W4) ((hv.more (Nat.le_refl _)).keep hb4) (fun i hi _ => ?_) (fun i hi => ?_)
      · rw [hw5]; exact heap_setCells_ne _ _ _ _ (fun e => hi (by rw [e]; simp))
      · simp at hi ⊢; omega
    · rw [hw5]; exact RpAt.stored HT4.out r M0
    · rw [hw5]; exact World.there_setCells HT4.out _ _ _
    · intro i hi
      simp at hi
      rcases hi with rfl | rfl <;> omega)
  rw [← hw5]
  obtain ⟨q, hq⟩ : ∃ q, w3.heap.size = q := ⟨_, rfl⟩
  rw [hq] at HS ⊢
  clear hw5 hb35 hb3' hb3 hb4 HT4 HW4 hz3 hv hp hi0' hg0' hh0 hltp hb2 hg0 hgb0 hq hbel2
  obtain ⟨bad, hbad⟩ : ∃ b, [gb, q] = b := ⟨_, rfl⟩
  rw [hbad] at HS
  clear hbad
  -- as it was read
  go_upto_region 9 with fail
  iterate 4 go_step
  refine wp_load_rp rfl _ rfl q r M0 rfl HS.out.at_ ?_
  go_wp2_with fail
  refine (same9_any _ bad g gb N L0 X M0 r HS.out.pg HS.out.isp HS.out.good HS.out.ref _ rfl).mono ?_
  rintro e w6 ⟨rfl, hb6⟩
  have HS6 := Lib.hid (HS.out.keep hb6)
  clear hb6 HS
  go_wp2_with fail
  refine (pBytes_any _ g gb N _ L0 X HS6.out.pg (by rw [HS6.out.isp.len]; exact HS6.out.good.n1)).mono ?_
  rintro e w7 ⟨A7, n7, c7, rfl, hown7, hb7⟩
  have HO7 := Lib.hid hown7
  have HS7 := Lib.hid (HS6.out.keep hb7)
  clear hb7 hown7 HS6
  go_wp2_with fail
  refine (same1_any _ A7 A0 n7 c7 n0 c0 L0 L0 HO7.out.len HN0.out (by have := HO7.out.cap; unfold maxLen at this; omega) HO7.out.rd (HA0.out.keep HS7.out.bel)).mono ?_
  rintro e w8 ⟨rfl, hb8⟩
  rw [beqL_self]
  have HS8 := Lib.hid (HS7.out.keep hb8)
  clear hb8 HS7 HO7
  go_wp2_with fail
  go_loopw [62] (PlRel w bad g gb N q X M0 F) (fun i _ => m - (intOf i).toNat)
  case atStart => exact ⟨0, r, _, Nat.zero_le _, rfl, HS8.out⟩
  case round =>
    obtain ⟨j, r1, L, hj, rfl, hst⟩ := hrel
    have HST := Lib.hid hst
    rw [HF.out] at hj
    clear hst HS8
    by_cases hlt : j < m
    · have hjF : j < F.length := by rw [HF.out]; exact hlt
      have hlt' : (j : Int) < (m : Int) := by omega
      have i0 : (0 : Int) ≤ (j : Int) := by omega
      obtain ⟨b, off, hAe, hcell⟩ := HA.out.at (by omega)
      obtain ⟨B, sc, hrg, hrd⟩ := (hcell j hjF).range
      have hdm : dd_ F j ∈ F := by rw [dd_lt hjF]; exact List.getElem_mem hjF
      have HDT := Lib.hid (doAll_take (M := M0) hjF)
      have HDO := Lib.hid (HOK.out _ hdm)
      have HDL := Lib.hid (HSM.out.2 _ hdm)
      obtain ⟨d, hd⟩ : ∃ d, dd_ F j = d := ⟨_, rfl⟩
      obtain ⟨Mj, hMj⟩ : ∃ M, doAll M0 (F.take j) = M := ⟨_, rfl⟩
      rw [hd] at hrg hrd HDT HDO HDL
      rw [hMj] at HST HDT
      have hblk : b < w.heap.size := World.block_lt_of_cell? w ⟨b, off + j * 3 + 0, none⟩ (hrg 0 _ rfl)
      have HNE := Lib.hid (show ∀ a, B = some a → d.b ≠ [] → a.block ≠ gb from fun a ha hne => by
        have h1 : a.block < w.heap.size := by
          rcases hrd with h | ⟨b', o', hB, hc'⟩
          · exact absurd h hne
          · rw [ha] at hB
            injection hB with hB
            subst hB
            exact World.block_lt_of_cell? w _ (hc' 0 (List.length_pos_iff.2 hne))
        have := HST.out.gb0
        omega)
      have HRG := Lib.hid (rangeKeep hrg HST.out.bel hblk)
      have HRD := Lib.hid (hrd.keep HST.out.bel)
      subst hAe
      clear hcell hrg hrd hd hMj hdm hblk
      go_upto_region 13 with fail
      iterate 4 go_step
      refine wp_load_dd rfl _ rfl b (off + j * 3) d B sc rfl HRG.out ?_
      obtain ⟨W6, hW6⟩ : ∃ W, W = wr.alloc (.cells #[.int .i64 0, .int .i64 0, .slice none 0 0] 37) := ⟨_, rfl⟩
      have hb6 : Below wr.heap.size wr W6 := by rw [hW6]; exact (Below.refl _ _).alloc (Nat.le_refl _) _
      have HT6 := Lib.hid (show W6.there wr.heap.size 0 3 by rw [hW6]; exact there_new3 wr _ _ _ _)
      have HW6 := Lib.hid hW6
      clear hW6
      iterate 3 go_step
      rw [← HW6.out]
      clear HW6
      refine wp_store_dd rfl _ _ rfl wr.heap.size d B sc rfl rfl HT6.out ?_
      obtain ⟨w7, hw7⟩ : ∃ W, W = W6.setCells wr.heap.size 0 (ddC d B sc) := ⟨_, rfl⟩
      have hb7 : Below wr.heap.size wr w7 := by rw [hw7]; exact below_setCellsR hb6 (Nat.le_refl _) _ _
      have HR7 := Lib.hid (show w7.rangeAt wr.heap.size 0 (ddC d B sc) by rw [hw7]; exact World.rangeAt_setCells_same _ _ _ _ HT6.out)
      have HS7 := Lib.hid (HST.out.keep hb7)
      have HRD7 := Lib.hid (HRD.out.keep hb7)
      rw [← hw7]
      clear hw7 hb6 hb7 HT6 HST HRD HRG
      go_upto_region 14 with fail
      iterate 4 go_step
      refine wp_load_rp rfl _ rfl q r1 Mj rfl HS7.out.at_ ?_
      refine wp_load_dd rfl _ rfl wr.heap.size 0 d B sc rfl HR7.out ?_
      go_wp2_with fail
      refine (step9_any _ bad g gb N L X Mj Mj r1 HS7.out.pg HS7.out.isp HS7.out.good HS7.out.ref HS7.out.good.sm HS7.out.bl HS7.out.gbb d B sc HDO.out HDL.out HRD7.out HNE.out (.inr HS7.out.good) _ rfl).mono ?_
      rintro e w8 ⟨r8, bq, rfl, hv8, hbq, hg8, L8, hp8, hi8, hm8⟩
      obtain rfl : bq = true := hbq rfl
      obtain ⟨M8, hM8⟩ : ∃ M, doM Mj d = M := ⟨_, rfl⟩
      rw [hM8] at hv8 hg8 hp8 hi8 HDT ⊢
      obtain ⟨w9, hw9⟩ : ∃ W, W = ((w8.alloc (.cells #[.int .i64 0, .slice none 0 0, .slice none 0 0, .slice none 0 0] 33)).setCells w8.heap.size 0 (rpC r8 M8)) := ⟨_, rfl⟩
      obtain ⟨hs9, hr9, ht9⟩ := HS7.out.done hp8 hi8 hg8 hv8 hm8 hw9
      have HS9 := Lib.hid hs9
      have HR9 := Lib.hid hr9
      have HT9 := Lib.hid ht9
      have HW9 := Lib.hid hw9
      have HT8 := Lib.hid (there_new4 w8 (.int .i64 0) (.slice none 0 0) (.slice none 0 0) (.slice none 0 0) 33)
      clear hs9 hr9 ht9 hw9 hv8 hg8 hp8 hi8 hm8 hbq HS7 HRD7 HR7 hM8
      simp only []
      iterate 13 go_step
      refine wp_store_rp rfl _ _ rfl w8.heap.size r8 M8 rfl rfl HT8.out ?_
      rw [← HW9.out]
      clear HW9 HT8
      go_upto_region 15 with fail
      go_step
      refine wp_load_rp rfl _ rfl w8.heap.size r8 M8 rfl HR9.out ?_
      refine wp_store_rp rfl _ _ rfl q r8 M8 rfl rfl HT9.out ?_
      obtain ⟨w10, hw10⟩ : ∃ W, W = w9.setCells q 0 (rpC r8 M8) := ⟨_, rfl⟩
      rw [← hw10] at HS9 ⊢
      clear hw10 HR9 HT9
      have HS11 := Lib.hid HS9.out
      clear HS9
      go_wp2_with fail
      go_roundw
      case rel => exact ⟨j + 1, r8, L8, by omega, by go_num, by rw [HDT.out]; exact HS11.out⟩
      case measure => simp [intOf]; omega
    · obtain rfl : j = m := by omega
      rw [show F.take j = F by rw [← HF.out, List.take_length]] at HST
      obtain ⟨Mf, hMf⟩ : ∃ M, doAll M0 F = M := ⟨_, rfl⟩
      rw [hMf] at HST
      clear hMf
      go_wp2_with fail
      refine (live_any _ _ rfl).mono ?_
      rintro e w8 ⟨rfl, hb8⟩
      have HS8' := Lib.hid (HST.out.keep hb8)
      clear hb8 HST
      simp only []
      iterate 6 go_step
      refine wp_load_rpg rfl _ rfl q r1 Mf rfl HS8'.out.at_ ?_
      go_wp2_with fail
      refine (same9_any _ bad g gb N L X Mf r1 HS8'.out.pg HS8'.out.isp HS8'.out.good HS8'.out.ref _ rfl).mono ?_
      rintro e w9 ⟨rfl, hb9⟩
      have HS9 := Lib.hid (HS8'.out.keep hb9)
      clear HS8' hb9
      go_wp2_with fail
      rw [HRR.out]
      exact ⟨rfl, HS9.out.bel⟩
end Go.Proofs.Ytoeaffmlolapnaa
