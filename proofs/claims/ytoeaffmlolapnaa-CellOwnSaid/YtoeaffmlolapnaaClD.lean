/- Walk: cell.Encode on a cell that may be. Printed by genCe.py. -/
import Derived.Test.YtoeaffmlolapnaaClC
import Derived.Deep.RegionHeld3
namespace Go.Proofs.Ytoeaffmlolapnaa
open Go.RowKit
set_option maxRecDepth 100000
set_option linter.unusedSimpArgs false
set_option linter.unusedVariables false

set_option maxHeartbeats 8000000 in
theorem cenc_one (w : World) (c : Cl) (A : Option Addr) (n d : Nat) (hc : c.ok) (hnd : n ≤ d) (hd : d ≤ maxLen) (hl : c.loc.length = n) (hA : Rd w A c.loc) (hg : goodC 1 c n) (R : Ending → World → Prop) (hR : R = EncBack w (cellB 1 c) 0) :
    Calls Try.prog 35 #[.int .i64 1, c.val A n d] w R := by
  have HR := Lib.hid hR; clear hR
  have hz : checkZ 1 c n = 0 := if_pos hg
  have HZ := Lib.hid hz; clear hz
  obtain ⟨hc0, hc1, hc2, hc3⟩ := hc
  have HC0 := Lib.hid hc0
  have HC1 := Lib.hid hc1
  have HC2 := Lib.hid hc2
  have HC3 := Lib.hid hc3
  have HL := Lib.hid hl
  have HG := Lib.hid hg
  obtain ⟨W1, hW1⟩ : ∃ W, W = w.alloc (.cells #[.int .i64 c.key, .int .i64 c.child, .int .i64 c.total, .slice A n d, .int .i64 c.spill] 55) := ⟨_, rfl⟩
  have hbW : Below w.heap.size w W1 := by rw [hW1]; exact (Below.refl _ _).alloc (Nat.le_refl _) _
  have hsW : W1.heap.size = w.heap.size + 1 := by rw [hW1]; simp
  have hat : ClAt W1 w.heap.size c A n d := by rw [hW1]; exact ⟨by simp [go_sem], by simp [go_sem], by simp [go_sem], by simp [go_sem], by simp [go_sem]⟩
  have HT := Lib.hid hat; clear hat
  have HA := Lib.hid (hA.keep hbW); clear hA
  have HW := Lib.hid hW1
  unfold Cl.val
  go_enter Try.func35, Try.ntmps35
  go_upto_region 1 with fail
  rw [← hW1]
  clear hW1 HW
  iterate 4 go_step
  refine wp_load_cl rfl _ rfl w.heap.size c A n d rfl HT.out ?_
  go_wp2_with fail
  refine (checkC_any _ 1 c A n d ⟨hc0, hc1, hc2, hc3⟩ (by unfold maxLen at hd; omega)).mono ?_
  rintro e w1 ⟨rfl, hb1⟩
  simp only [HZ.out]
  have hB1 : Below w.heap.size w w1 := hbW.trans (hb1.mono hbW.size)
  have HT1 := Lib.hid (HT.out.keep hb1)
  have HA1 := Lib.hid (HA.out.keep hb1)
  have hz1 := hb1.size
  clear hb1 hc0 hc1 hc2 hc3 hg hl
  go_wp2_with fail
  refine (has_one _).mono ?_
  rintro e w2 ⟨rfl, rfl⟩
  obtain ⟨k0, k1, k2, k3, k4⟩ := HT1.out
  go_wp2_with fail
  refine (varint_put _ c.key HC0.out).mono ?_
  rintro e wya ⟨Ay, my, cy, rfl, howny, hby⟩
  have HVy := Lib.hid howny
  have hmy : my ≤ 10 := by rw [← howny.len]; exact varL_ten HC0.out
  have hmyp : 1 ≤ my := by rw [← howny.len]; exact vl_pos _
  have hB1y : Below w.heap.size w wya := hB1.trans (hby.mono hB1.size)
  have hzy := hby.size
  clear howny
  dsimp only
  go_step
  refine wp_append rfl (.tmp 32) (.tmp 35) rfl w1.heap.size none 0 0 [] rfl (OwnB.nil _ _) Ay my cy (varL c.key) rfl HVy.out.len HVy.out.rd (by omega) (by omega) ?_
  intro Dy dy wyb happy _ hbby
  simp only [List.nil_append, Nat.zero_add] at happy ⊢
  have HPy := Lib.hid happy
  have hBBy : Below w.heap.size w wyb := hB1y.trans (hbby.mono hB1.size)
  have hb1y : Below w1.heap.size w1 wyb := (hby).trans hbby
  have hzzy := hb1y.size
  have HTy := Lib.hid (HT1.out.keep hb1y)
  have HAy := Lib.hid (HA1.out.keep hb1y)
  clear happy hby hbby k0 k1 k2 k3 k4
  obtain ⟨k0, k1, k2, k3, k4⟩ := HTy.out
  have hgl := HG.out.2.2.2.2.1 (by decide)
  obtain ⟨gt0, gt1, gn, gs0, gs1⟩ := hgl
  have hnn : n ≤ 16384 := by omega
  have HPR := Lib.hid (show Rd wyb Dy (varL c.key) from HPy.out.rd)
  have HPL := Lib.hid (show ((varL c.key) : List Int).length = my from HPy.out.len)
  have HPC := Lib.hid (show my ≤ dy ∧ dy ≤ maxLen from HPy.out.cap)
  have K2 : ∀ W : World, Below wyb.heap.size wyb W → W.cell? ⟨w.heap.size, 2, none⟩ = some (.int .i64 c.total) := fun W hW => (HTy.out.keep hW).2.2.1
  have K3 : ∀ W : World, Below wyb.heap.size wyb W → W.cell? ⟨w.heap.size, 3, none⟩ = some (.slice A n d) := fun W hW => (HTy.out.keep hW).2.2.2.1
  go_upto_region 11 with fail
  clear k0 k1 k2 k3 k4
  refine wp_region_held_drew (S := (fun W => Below wyb.heap.size wyb W)) (by kernel_rfl) ?_ (fun hHeld => ?_)
  · exact (Below.refl _ wyb).drew
  refine' wpAnyH_take (i := 0) (oi := _) (v := _) rfl (by kernel_rfl) (by kernel_rfl) (by kernel_rfl) (fun _ _ _ h => h) (Or.inl ⟨by rfl, ?hy0⟩) (by assumption) ?rest0
  case hy0 => (intro w' hSw; (try dsimp only at hSw); go_simp; try with_reducible rfl)
  try simp only [Act.put, List.setIfInBounds_toArray, List.set_cons_zero, List.set_cons_succ, List.getElem_toArray, List.getElem_cons_zero, List.getElem_cons_succ]
  refine' wpAnyH_take (i := 1) (oi := _) (v := _) rfl (by kernel_rfl) (by kernel_rfl) (by kernel_rfl) (fun _ _ _ h => h) (Or.inl ⟨by rfl, ?hy1⟩) (by assumption) ?rest1
  case hy1 => (intro w' hSw; (try dsimp only at hSw); go_simp; try with_reducible rfl)
  try simp only [Act.put, List.setIfInBounds_toArray, List.set_cons_zero, List.set_cons_succ, List.getElem_toArray, List.getElem_cons_zero, List.getElem_cons_succ]
  refine' wpAnyH_take (i := 2) (oi := _) (v := _) rfl (by kernel_rfl) (by kernel_rfl) (by kernel_rfl) (fun _ _ _ h => h) (Or.inl ⟨by rfl, ?hy2⟩) (by assumption) ?rest2
  case hy2 => (intro w' hSw; (try dsimp only at hSw); go_simp; try with_reducible rfl)
  try simp only [Act.put, List.setIfInBounds_toArray, List.set_cons_zero, List.set_cons_succ, List.getElem_toArray, List.getElem_cons_zero, List.getElem_cons_succ]
  refine' wpAnyH_take (i := 4) (oi := _) (v := _) rfl (by kernel_rfl) (by kernel_rfl) (by kernel_rfl) (fun _ _ _ h => h) (Or.inl ⟨by rfl, ?hy4⟩) (by assumption) ?rest4
  case hy4 => (intro w' hSw; (try dsimp only at hSw); go_simp; try with_reducible rfl)
  try simp only [Act.put, List.setIfInBounds_toArray, List.set_cons_zero, List.set_cons_succ, List.getElem_toArray, List.getElem_cons_zero, List.getElem_cons_succ]
  refine' wpAnyH_take (i := 5) (oi := _) (v := _) rfl (by kernel_rfl) (by kernel_rfl) (by kernel_rfl) (fun _ _ _ h => h) (Or.inl ⟨by rfl, ?hy5⟩) (by assumption) ?rest5
  case hy5 => (intro w' hSw; (try dsimp only at hSw); go_simp; try with_reducible rfl)
  try simp only [Act.put, List.setIfInBounds_toArray, List.set_cons_zero, List.set_cons_succ, List.getElem_toArray, List.getElem_cons_zero, List.getElem_cons_succ]
  refine' wpAnyH_take (i := 6) (oi := _) (v := _) rfl (by kernel_rfl) (by kernel_rfl) (by kernel_rfl) (fun _ _ _ h => h) (Or.inl ⟨by rfl, ?hy6⟩) (by assumption) ?rest6
  case hy6 => (intro w' hSw; (try dsimp only at hSw); go_simp; try with_reducible rfl)
  try simp only [Act.put, List.setIfInBounds_toArray, List.set_cons_zero, List.set_cons_succ, List.getElem_toArray, List.getElem_cons_zero, List.getElem_cons_succ]
  refine' wpAnyH_take (i := 8) (oi := _) (v := _) rfl (by kernel_rfl) (by kernel_rfl) (by kernel_rfl) (fun _ _ _ h => h) (Or.inl ⟨by rfl, ?hy8⟩) (by assumption) ?rest8
  case hy8 => (intro w' hSw; (try dsimp only at hSw); go_simp; try with_reducible rfl)
  try simp only [Act.put, List.setIfInBounds_toArray, List.set_cons_zero, List.set_cons_succ, List.getElem_toArray, List.getElem_cons_zero, List.getElem_cons_succ]
  refine' wpAnyH_take (i := 9) (oi := _) (v := _) rfl (by kernel_rfl) (by kernel_rfl) (by kernel_rfl) (fun _ _ _ h => h) (Or.inl ⟨by rfl, ?hy9⟩) (by assumption) ?rest9
  case hy9 => (intro w' hSw; (try dsimp only at hSw); go_simp; try with_reducible rfl)
  try simp only [Act.put, List.setIfInBounds_toArray, List.set_cons_zero, List.set_cons_succ, List.getElem_toArray, List.getElem_cons_zero, List.getElem_cons_succ]
  refine wpAnyH_ready (rs := [3]) (by kernel_rfl) (by simp) ?_
  refine AllReadyH.cons (o := _) rfl (fun K hK => ?_) AllReadyH.nil
  go_simp
  go_at_call 84
  refine (varint_put _ c.total HC2.out).mono ?_
  rintro e w5 ⟨A5, m5, c5, rfl, hown5, hb5⟩
  have hb5' : Below wyb.heap.size wyb w5 := ((Below.refl _ wyb).drew).trans hb5
  have HV5 := Lib.hid hown5
  have hm5 : m5 ≤ 10 := by rw [← hown5.len]; exact varL_ten HC2.out
  have hm5p : 1 ≤ m5 := by rw [← hown5.len]; exact vl_pos _
  clear hown5 hb5
  refine hK.out _ _ ?_ (fun hHeld => ?_)
  · exact hb5'
  clear hK K
  try simp only [Act.put, List.setIfInBounds_toArray, List.set_cons_zero, List.set_cons_succ, List.getElem_toArray, List.getElem_cons_zero, List.getElem_cons_succ]
  refine wpAnyH_ready (rs := [7]) (by kernel_rfl) (by simp) ?_
  refine AllReadyH.cons (o := _) rfl (fun K hK => ?_) AllReadyH.nil
  go_simp
  go_at_call 84
  refine (varint_put _ (n : Int) (by omega)).mono ?_
  rintro e w6 ⟨A6, m6, c6, rfl, hown6, hb6⟩
  have hb6' : Below wyb.heap.size wyb w6 := hb5'.trans (hb6.mono hb5'.size)
  have HV6 := Lib.hid hown6
  have HV56 := Lib.hid (HV5.out.keep hb6)
  have hm6 : m6 ≤ 10 := by rw [← hown6.len]; exact varL_ten (by omega)
  clear hown6 hb6
  refine hK.out _ _ ?_ (fun hHeld => ?_)
  · exact hb6'
  clear hK K
  try simp only [Act.put, List.setIfInBounds_toArray, List.set_cons_zero, List.set_cons_succ, List.getElem_toArray, List.getElem_cons_zero, List.getElem_cons_succ]
  refine wpAnyH_ready (rs := [10]) (by kernel_rfl) (by simp) ?_
  refine AllReadyH.cons (o := _) rfl (fun K hK => ?_) AllReadyH.nil
  go_simp
  refine hK.out _ _ ?_ (fun hHeld => ?_)
  · exact hb6'.alloc hb6'.size _
  clear hK K
  try simp only [Act.put, List.setIfInBounds_toArray, List.set_cons_zero, List.set_cons_succ, List.getElem_toArray, List.getElem_cons_zero, List.getElem_cons_succ]
  refine wpAnyH_ready (rs := [11]) (by kernel_rfl) (by simp) ?_
  refine AllReadyH.cons (o := _) rfl (fun K hK => ?_) AllReadyH.nil
  go_simp
  go_at_call 85
  refine (join_any _ _ 4 4 [(varL c.key), varL c.total, varL (n : Int), c.loc] rfl (by decide) (Nat.le_refl _) (by decide) (rows4 _ _ HPL.out HPC.out.1 HPC.out.2 (HPR.out.keep hb6') HV56.out.len HV56.out.cap.1 HV56.out.cap.2 HV56.out.rd HV6.out.len HV6.out.cap.1 HV6.out.cap.2 HV6.out.rd HL.out hnd hd (HAy.out.keep hb6')) (by simp only [List.flatten_cons, List.flatten_nil, List.length_append, List.length_nil, HPL.out, HV56.out.len, HV6.out.len, HL.out]; omega)).mono ?_
  rintro e w7 hf
  obtain ⟨g7, n7, rfl, h71, h72, h73, h74, h75, h76⟩ := fresh_rd hf
  have HG7 := Lib.hid (show w.heap.size ≤ g7 ∧ g7 < w7.heap.size from ⟨by have := hb6'.size; have := hBBy.size; simp at h75; omega, h76⟩)
  have hb7' : Below wyb.heap.size wyb w7 := (hb6'.alloc hb6'.size _).trans (h74.mono (by simp; have := hb6'.size; omega))
  clear hf h74 h75 h76
  refine hK.out _ _ ?_ (fun hHeld => ?_)
  · exact hb7'
  clear hK K
  try simp only [Act.put, List.setIfInBounds_toArray, List.set_cons_zero, List.set_cons_succ, List.getElem_toArray, List.getElem_cons_zero, List.getElem_cons_succ]
  refine' wpAnyH_take (i := 12) (oi := _) (v := _) rfl (by kernel_rfl) (by kernel_rfl) (by kernel_rfl) (fun _ _ _ h => h) (Or.inl ⟨by rfl, ?hy12⟩) (by assumption) ?rest12
  case hy12 => (intro w' hSw; (try dsimp only at hSw); go_simp; try with_reducible rfl)
  try simp only [Act.put, List.setIfInBounds_toArray, List.set_cons_zero, List.set_cons_succ, List.getElem_toArray, List.getElem_cons_zero, List.getElem_cons_succ]
  refine wpAnyH_done (by kernel_rfl) ?_ _
  have hB7 : Below w.heap.size w w7 := hBBy.trans (hb7'.mono hBBy.size)
  obtain ⟨k0, k1, k2, k3, k4⟩ := HTy.out.keep hb7'
  have hfl : [(varL c.key), varL c.total, varL (n : Int), c.loc].flatten = (varL c.key) ++ (varL c.total ++ (varL (n : Int) ++ c.loc)) := by simp
  rw [hfl] at h71 h73
  have hn7 : n7 = my + (m5 + (m6 + n)) := by rw [← h71, List.length_append, List.length_append, List.length_append, HPL.out, HV56.out.len, HV6.out.len, HL.out]
  have hbn7 : 1 ≤ n7 ∧ n7 ≤ 20000 := by omega
  clear hn7
  have HR7 := Lib.hid h73
  have HL7 := Lib.hid h71
  clear h71 h73 hfl
  have hcell : cellB 1 c = (varL c.key) ++ (varL c.total ++ (varL (n : Int) ++ c.loc)) ++ spillB c := by simp [cellB, childB, keyB, loadB, hasC, hasK, HL.out]
  have HCELL := Lib.hid hcell
  clear hcell
  by_cases hs : c.spill = 0
  · have es : (c.spill != 0) = false := by simp [hs]
    have hsp : spillB c = [] := if_pos hs
    have HSP := Lib.hid hsp
    clear hsp hs
    go_wp2
    rw [HR.out]
    exact ⟨_, _, _, rfl, by rw [HCELL.out, HSP.out, List.append_nil]; exact HL7.out, Nat.le_refl _, h72, by rw [HCELL.out, HSP.out, List.append_nil]; exact HR7.out, hB7, BlkA.at HG7.out.1 HG7.out.2⟩
  · have es : (c.spill != 0) = true := by simp [hs]
    have hsp : spillB c = varL c.spill := if_neg hs
    have HSP := Lib.hid hsp
    clear hsp hs
    go_wp2_with fail
    refine (varint_put _ c.spill HC3.out).mono ?_
    rintro e w8 ⟨A8, m8, c8, rfl, hown8, hb8⟩
    have HV8 := Lib.hid hown8
    have hm8 : m8 ≤ 10 := by rw [← hown8.len]; exact varL_ten HC3.out
    have hm8p : 1 ≤ m8 := by rw [← hown8.len]; exact vl_pos _
    have HR8 := Lib.hid (HR7.out.keep hb8)
    have hB8 := hB7.trans (hb8.mono hB7.size)
    clear hown8
    dsimp only
    go_step
    refine wp_append_full rfl (.tmp 53) (.tmp 56) rfl (some ⟨g7, 0, none⟩) n7 n7 _ rfl HL7.out (by omega) (Nat.le_refl _) HR8.out A8 m8 c8 (varL c.spill) rfl HV8.out.len HV8.out.rd (by omega) (by omega) ?_
    intro A9 c9 w9 hown9 hb9
    have HO9 := Lib.hid hown9
    have hB9 := hB8.trans (hb9.mono hB8.size)
    clear hown9 hb9 hb8
    go_wp2
    rw [HR.out]
    exact ⟨_, _, _, rfl, by rw [HCELL.out, HSP.out]; exact HO9.out.len, HO9.out.cap.1, HO9.out.cap.2, by rw [HCELL.out, HSP.out]; exact HO9.out.rd, hB9, HO9.out.blkA hB8.size⟩

set_option maxHeartbeats 8000000 in
theorem cenc_two (w : World) (c : Cl) (A : Option Addr) (n d : Nat) (hc : c.ok) (hnd : n ≤ d) (hd : d ≤ maxLen) (hl : c.loc.length = n) (hA : Rd w A c.loc) (hg : goodC 2 c n) (R : Ending → World → Prop) (hR : R = EncBack w (cellB 2 c) 0) :
    Calls Try.prog 35 #[.int .i64 2, c.val A n d] w R := by
  have HR := Lib.hid hR; clear hR
  have hz : checkZ 2 c n = 0 := if_pos hg
  have HZ := Lib.hid hz; clear hz
  obtain ⟨hc0, hc1, hc2, hc3⟩ := hc
  have HC0 := Lib.hid hc0
  have HC1 := Lib.hid hc1
  have HC2 := Lib.hid hc2
  have HC3 := Lib.hid hc3
  have HL := Lib.hid hl
  have HG := Lib.hid hg
  obtain ⟨W1, hW1⟩ : ∃ W, W = w.alloc (.cells #[.int .i64 c.key, .int .i64 c.child, .int .i64 c.total, .slice A n d, .int .i64 c.spill] 55) := ⟨_, rfl⟩
  have hbW : Below w.heap.size w W1 := by rw [hW1]; exact (Below.refl _ _).alloc (Nat.le_refl _) _
  have hsW : W1.heap.size = w.heap.size + 1 := by rw [hW1]; simp
  have hat : ClAt W1 w.heap.size c A n d := by rw [hW1]; exact ⟨by simp [go_sem], by simp [go_sem], by simp [go_sem], by simp [go_sem], by simp [go_sem]⟩
  have HT := Lib.hid hat; clear hat
  have HA := Lib.hid (hA.keep hbW); clear hA
  have HW := Lib.hid hW1
  unfold Cl.val
  go_enter Try.func35, Try.ntmps35
  go_upto_region 1 with fail
  rw [← hW1]
  clear hW1 HW
  iterate 4 go_step
  refine wp_load_cl rfl _ rfl w.heap.size c A n d rfl HT.out ?_
  go_wp2_with fail
  refine (checkC_any _ 2 c A n d ⟨hc0, hc1, hc2, hc3⟩ (by unfold maxLen at hd; omega)).mono ?_
  rintro e w1 ⟨rfl, hb1⟩
  simp only [HZ.out]
  have hB1 : Below w.heap.size w w1 := hbW.trans (hb1.mono hbW.size)
  have HT1 := Lib.hid (HT.out.keep hb1)
  have HA1 := Lib.hid (HA.out.keep hb1)
  have hz1 := hb1.size
  clear hb1 hc0 hc1 hc2 hc3 hg hl
  go_wp2_with fail
  refine (has_two _).mono ?_
  rintro e w2 ⟨rfl, rfl⟩
  obtain ⟨k0, k1, k2, k3, k4⟩ := HT1.out
  go_wp2_with fail
  refine (varint_put _ c.child HC1.out).mono ?_
  rintro e wxa ⟨Ax, mx, cx, rfl, hownx, hbx⟩
  have HVx := Lib.hid hownx
  have hmx : mx ≤ 10 := by rw [← hownx.len]; exact varL_ten HC1.out
  have hmxp : 1 ≤ mx := by rw [← hownx.len]; exact vl_pos _
  have hB1x : Below w.heap.size w wxa := hB1.trans (hbx.mono hB1.size)
  have hzx := hbx.size
  clear hownx
  dsimp only
  go_step
  refine wp_append rfl (.tmp 26) (.tmp 29) rfl w1.heap.size none 0 0 [] rfl (OwnB.nil _ _) Ax mx cx (varL c.child) rfl HVx.out.len HVx.out.rd (by omega) (by omega) ?_
  intro Dx dx wxb happx _ hbbx
  simp only [List.nil_append, Nat.zero_add] at happx ⊢
  have HPx := Lib.hid happx
  have hBBx : Below w.heap.size w wxb := hB1x.trans (hbbx.mono hB1.size)
  have hb1x : Below w1.heap.size w1 wxb := (hbx).trans hbbx
  have hzzx := hb1x.size
  have HTx := Lib.hid (HT1.out.keep hb1x)
  have HAx := Lib.hid (HA1.out.keep hb1x)
  clear happx hbx hbbx k0 k1 k2 k3 k4
  obtain ⟨k0, k1, k2, k3, k4⟩ := HTx.out
  go_wp2_with fail
  refine (varint_put _ c.key HC0.out).mono ?_
  rintro e wya ⟨Ay, my, cy, rfl, howny, hby⟩
  have HVy := Lib.hid howny
  have hmy : my ≤ 10 := by rw [← howny.len]; exact varL_ten HC0.out
  have hmyp : 1 ≤ my := by rw [← howny.len]; exact vl_pos _
  have hBBxy : Below w.heap.size w wya := hBBx.trans (hby.mono hBBx.size)
  have hzy := hby.size
  have HPxy := Lib.hid (HPx.out.keep hby)
  clear howny
  dsimp only
  go_step
  refine wp_append rfl (.tmp 32) (.tmp 35) rfl w1.heap.size Dx mx dx (varL c.child) rfl HPxy.out Ay my cy (varL c.key) rfl HVy.out.len HVy.out.rd (by omega) (by omega) ?_
  intro Dy dy wyb happy _ hbby
  simp only [List.nil_append, Nat.zero_add] at happy ⊢
  have HPy := Lib.hid happy
  have hBBy : Below w.heap.size w wyb := hBBxy.trans (hbby.mono hB1.size)
  have hb1y : Below w1.heap.size w1 wyb := (hb1x.trans (hby.mono (by omega))).trans hbby
  have hzzy := hb1y.size
  have HTy := Lib.hid (HT1.out.keep hb1y)
  have HAy := Lib.hid (HA1.out.keep hb1y)
  clear happy hby hbby k0 k1 k2 k3 k4
  obtain ⟨k0, k1, k2, k3, k4⟩ := HTy.out
  go_wp2
  rw [HR.out]
  have hcell : cellB 2 c = ((varL c.child) ++ varL c.key) := by simp [cellB, childB, keyB, loadB, hasC, hasK]
  rw [hcell]
  exact ⟨_, _, _, rfl, HPy.out.len, HPy.out.cap.1, HPy.out.cap.2, HPy.out.rd, hBBy, HPy.out.blkA hB1.size⟩

set_option maxHeartbeats 8000000 in
theorem cenc_three (w : World) (c : Cl) (A : Option Addr) (n d : Nat) (hc : c.ok) (hnd : n ≤ d) (hd : d ≤ maxLen) (hl : c.loc.length = n) (hA : Rd w A c.loc) (hg : goodC 3 c n) (R : Ending → World → Prop) (hR : R = EncBack w (cellB 3 c) 0) :
    Calls Try.prog 35 #[.int .i64 3, c.val A n d] w R := by
  have HR := Lib.hid hR; clear hR
  have hz : checkZ 3 c n = 0 := if_pos hg
  have HZ := Lib.hid hz; clear hz
  obtain ⟨hc0, hc1, hc2, hc3⟩ := hc
  have HC0 := Lib.hid hc0
  have HC1 := Lib.hid hc1
  have HC2 := Lib.hid hc2
  have HC3 := Lib.hid hc3
  have HL := Lib.hid hl
  have HG := Lib.hid hg
  obtain ⟨W1, hW1⟩ : ∃ W, W = w.alloc (.cells #[.int .i64 c.key, .int .i64 c.child, .int .i64 c.total, .slice A n d, .int .i64 c.spill] 55) := ⟨_, rfl⟩
  have hbW : Below w.heap.size w W1 := by rw [hW1]; exact (Below.refl _ _).alloc (Nat.le_refl _) _
  have hsW : W1.heap.size = w.heap.size + 1 := by rw [hW1]; simp
  have hat : ClAt W1 w.heap.size c A n d := by rw [hW1]; exact ⟨by simp [go_sem], by simp [go_sem], by simp [go_sem], by simp [go_sem], by simp [go_sem]⟩
  have HT := Lib.hid hat; clear hat
  have HA := Lib.hid (hA.keep hbW); clear hA
  have HW := Lib.hid hW1
  unfold Cl.val
  go_enter Try.func35, Try.ntmps35
  go_upto_region 1 with fail
  rw [← hW1]
  clear hW1 HW
  iterate 4 go_step
  refine wp_load_cl rfl _ rfl w.heap.size c A n d rfl HT.out ?_
  go_wp2_with fail
  refine (checkC_any _ 3 c A n d ⟨hc0, hc1, hc2, hc3⟩ (by unfold maxLen at hd; omega)).mono ?_
  rintro e w1 ⟨rfl, hb1⟩
  simp only [HZ.out]
  have hB1 : Below w.heap.size w w1 := hbW.trans (hb1.mono hbW.size)
  have HT1 := Lib.hid (HT.out.keep hb1)
  have HA1 := Lib.hid (HA.out.keep hb1)
  have hz1 := hb1.size
  clear hb1 hc0 hc1 hc2 hc3 hg hl
  go_wp2_with fail
  refine (has_three _).mono ?_
  rintro e w2 ⟨rfl, rfl⟩
  obtain ⟨k0, k1, k2, k3, k4⟩ := HT1.out
  have hgl := HG.out.2.2.2.2.1 (by decide)
  obtain ⟨gt0, gt1, gn, gs0, gs1⟩ := hgl
  have hnn : n ≤ 16384 := by omega
  have HPR := Lib.hid (show Rd w1 none [] from .inl rfl)
  have HPL := Lib.hid (show ([] : List Int).length = 0 from rfl)
  have HPC := Lib.hid (show 0 ≤ 0 ∧ 0 ≤ maxLen from ⟨Nat.le_refl _, by decide⟩)
  have K2 : ∀ W : World, Below w1.heap.size w1 W → W.cell? ⟨w.heap.size, 2, none⟩ = some (.int .i64 c.total) := fun W hW => (HT1.out.keep hW).2.2.1
  have K3 : ∀ W : World, Below w1.heap.size w1 W → W.cell? ⟨w.heap.size, 3, none⟩ = some (.slice A n d) := fun W hW => (HT1.out.keep hW).2.2.2.1
  go_upto_region 11 with fail
  clear k0 k1 k2 k3 k4
  refine wp_region_held_drew (S := (fun W => Below w1.heap.size w1 W)) (by kernel_rfl) ?_ (fun hHeld => ?_)
  · exact (Below.refl _ w1).drew
  refine' wpAnyH_take (i := 0) (oi := _) (v := _) rfl (by kernel_rfl) (by kernel_rfl) (by kernel_rfl) (fun _ _ _ h => h) (Or.inl ⟨by rfl, ?hy0⟩) (by assumption) ?rest0
  case hy0 => (intro w' hSw; (try dsimp only at hSw); go_simp; try with_reducible rfl)
  try simp only [Act.put, List.setIfInBounds_toArray, List.set_cons_zero, List.set_cons_succ, List.getElem_toArray, List.getElem_cons_zero, List.getElem_cons_succ]
  refine' wpAnyH_take (i := 1) (oi := _) (v := _) rfl (by kernel_rfl) (by kernel_rfl) (by kernel_rfl) (fun _ _ _ h => h) (Or.inl ⟨by rfl, ?hy1⟩) (by assumption) ?rest1
  case hy1 => (intro w' hSw; (try dsimp only at hSw); go_simp; try with_reducible rfl)
  try simp only [Act.put, List.setIfInBounds_toArray, List.set_cons_zero, List.set_cons_succ, List.getElem_toArray, List.getElem_cons_zero, List.getElem_cons_succ]
  refine' wpAnyH_take (i := 2) (oi := _) (v := _) rfl (by kernel_rfl) (by kernel_rfl) (by kernel_rfl) (fun _ _ _ h => h) (Or.inl ⟨by rfl, ?hy2⟩) (by assumption) ?rest2
  case hy2 => (intro w' hSw; (try dsimp only at hSw); go_simp; try with_reducible rfl)
  try simp only [Act.put, List.setIfInBounds_toArray, List.set_cons_zero, List.set_cons_succ, List.getElem_toArray, List.getElem_cons_zero, List.getElem_cons_succ]
  refine' wpAnyH_take (i := 4) (oi := _) (v := _) rfl (by kernel_rfl) (by kernel_rfl) (by kernel_rfl) (fun _ _ _ h => h) (Or.inl ⟨by rfl, ?hy4⟩) (by assumption) ?rest4
  case hy4 => (intro w' hSw; (try dsimp only at hSw); go_simp; try with_reducible rfl)
  try simp only [Act.put, List.setIfInBounds_toArray, List.set_cons_zero, List.set_cons_succ, List.getElem_toArray, List.getElem_cons_zero, List.getElem_cons_succ]
  refine' wpAnyH_take (i := 5) (oi := _) (v := _) rfl (by kernel_rfl) (by kernel_rfl) (by kernel_rfl) (fun _ _ _ h => h) (Or.inl ⟨by rfl, ?hy5⟩) (by assumption) ?rest5
  case hy5 => (intro w' hSw; (try dsimp only at hSw); go_simp; try with_reducible rfl)
  try simp only [Act.put, List.setIfInBounds_toArray, List.set_cons_zero, List.set_cons_succ, List.getElem_toArray, List.getElem_cons_zero, List.getElem_cons_succ]
  refine' wpAnyH_take (i := 6) (oi := _) (v := _) rfl (by kernel_rfl) (by kernel_rfl) (by kernel_rfl) (fun _ _ _ h => h) (Or.inl ⟨by rfl, ?hy6⟩) (by assumption) ?rest6
  case hy6 => (intro w' hSw; (try dsimp only at hSw); go_simp; try with_reducible rfl)
  try simp only [Act.put, List.setIfInBounds_toArray, List.set_cons_zero, List.set_cons_succ, List.getElem_toArray, List.getElem_cons_zero, List.getElem_cons_succ]
  refine' wpAnyH_take (i := 8) (oi := _) (v := _) rfl (by kernel_rfl) (by kernel_rfl) (by kernel_rfl) (fun _ _ _ h => h) (Or.inl ⟨by rfl, ?hy8⟩) (by assumption) ?rest8
  case hy8 => (intro w' hSw; (try dsimp only at hSw); go_simp; try with_reducible rfl)
  try simp only [Act.put, List.setIfInBounds_toArray, List.set_cons_zero, List.set_cons_succ, List.getElem_toArray, List.getElem_cons_zero, List.getElem_cons_succ]
  refine' wpAnyH_take (i := 9) (oi := _) (v := _) rfl (by kernel_rfl) (by kernel_rfl) (by kernel_rfl) (fun _ _ _ h => h) (Or.inl ⟨by rfl, ?hy9⟩) (by assumption) ?rest9
  case hy9 => (intro w' hSw; (try dsimp only at hSw); go_simp; try with_reducible rfl)
  try simp only [Act.put, List.setIfInBounds_toArray, List.set_cons_zero, List.set_cons_succ, List.getElem_toArray, List.getElem_cons_zero, List.getElem_cons_succ]
  refine wpAnyH_ready (rs := [3]) (by kernel_rfl) (by simp) ?_
  refine AllReadyH.cons (o := _) rfl (fun K hK => ?_) AllReadyH.nil
  go_simp
  go_at_call 84
  refine (varint_put _ c.total HC2.out).mono ?_
  rintro e w5 ⟨A5, m5, c5, rfl, hown5, hb5⟩
  have hb5' : Below w1.heap.size w1 w5 := ((Below.refl _ w1).drew).trans hb5
  have HV5 := Lib.hid hown5
  have hm5 : m5 ≤ 10 := by rw [← hown5.len]; exact varL_ten HC2.out
  have hm5p : 1 ≤ m5 := by rw [← hown5.len]; exact vl_pos _
  clear hown5 hb5
  refine hK.out _ _ ?_ (fun hHeld => ?_)
  · exact hb5'
  clear hK K
  try simp only [Act.put, List.setIfInBounds_toArray, List.set_cons_zero, List.set_cons_succ, List.getElem_toArray, List.getElem_cons_zero, List.getElem_cons_succ]
  refine wpAnyH_ready (rs := [7]) (by kernel_rfl) (by simp) ?_
  refine AllReadyH.cons (o := _) rfl (fun K hK => ?_) AllReadyH.nil
  go_simp
  go_at_call 84
  refine (varint_put _ (n : Int) (by omega)).mono ?_
  rintro e w6 ⟨A6, m6, c6, rfl, hown6, hb6⟩
  have hb6' : Below w1.heap.size w1 w6 := hb5'.trans (hb6.mono hb5'.size)
  have HV6 := Lib.hid hown6
  have HV56 := Lib.hid (HV5.out.keep hb6)
  have hm6 : m6 ≤ 10 := by rw [← hown6.len]; exact varL_ten (by omega)
  clear hown6 hb6
  refine hK.out _ _ ?_ (fun hHeld => ?_)
  · exact hb6'
  clear hK K
  try simp only [Act.put, List.setIfInBounds_toArray, List.set_cons_zero, List.set_cons_succ, List.getElem_toArray, List.getElem_cons_zero, List.getElem_cons_succ]
  refine wpAnyH_ready (rs := [10]) (by kernel_rfl) (by simp) ?_
  refine AllReadyH.cons (o := _) rfl (fun K hK => ?_) AllReadyH.nil
  go_simp
  refine hK.out _ _ ?_ (fun hHeld => ?_)
  · exact hb6'.alloc hb6'.size _
  clear hK K
  try simp only [Act.put, List.setIfInBounds_toArray, List.set_cons_zero, List.set_cons_succ, List.getElem_toArray, List.getElem_cons_zero, List.getElem_cons_succ]
  refine wpAnyH_ready (rs := [11]) (by kernel_rfl) (by simp) ?_
  refine AllReadyH.cons (o := _) rfl (fun K hK => ?_) AllReadyH.nil
  go_simp
  go_at_call 85
  refine (join_any _ _ 4 4 [[], varL c.total, varL (n : Int), c.loc] rfl (by decide) (Nat.le_refl _) (by decide) (rows4 _ _ HPL.out HPC.out.1 HPC.out.2 (HPR.out.keep hb6') HV56.out.len HV56.out.cap.1 HV56.out.cap.2 HV56.out.rd HV6.out.len HV6.out.cap.1 HV6.out.cap.2 HV6.out.rd HL.out hnd hd (HA1.out.keep hb6')) (by simp only [List.flatten_cons, List.flatten_nil, List.length_append, List.length_nil, HPL.out, HV56.out.len, HV6.out.len, HL.out]; omega)).mono ?_
  rintro e w7 hf
  obtain ⟨g7, n7, rfl, h71, h72, h73, h74, h75, h76⟩ := fresh_rd hf
  have HG7 := Lib.hid (show w.heap.size ≤ g7 ∧ g7 < w7.heap.size from ⟨by have := hb6'.size; have := hB1.size; simp at h75; omega, h76⟩)
  have hb7' : Below w1.heap.size w1 w7 := (hb6'.alloc hb6'.size _).trans (h74.mono (by simp; have := hb6'.size; omega))
  clear hf h74 h75 h76
  refine hK.out _ _ ?_ (fun hHeld => ?_)
  · exact hb7'
  clear hK K
  try simp only [Act.put, List.setIfInBounds_toArray, List.set_cons_zero, List.set_cons_succ, List.getElem_toArray, List.getElem_cons_zero, List.getElem_cons_succ]
  refine' wpAnyH_take (i := 12) (oi := _) (v := _) rfl (by kernel_rfl) (by kernel_rfl) (by kernel_rfl) (fun _ _ _ h => h) (Or.inl ⟨by rfl, ?hy12⟩) (by assumption) ?rest12
  case hy12 => (intro w' hSw; (try dsimp only at hSw); go_simp; try with_reducible rfl)
  try simp only [Act.put, List.setIfInBounds_toArray, List.set_cons_zero, List.set_cons_succ, List.getElem_toArray, List.getElem_cons_zero, List.getElem_cons_succ]
  refine wpAnyH_done (by kernel_rfl) ?_ _
  have hB7 : Below w.heap.size w w7 := hB1.trans (hb7'.mono hB1.size)
  obtain ⟨k0, k1, k2, k3, k4⟩ := HT1.out.keep hb7'
  have hfl : [[], varL c.total, varL (n : Int), c.loc].flatten = [] ++ (varL c.total ++ (varL (n : Int) ++ c.loc)) := by simp
  rw [hfl] at h71 h73
  have hn7 : n7 = 0 + (m5 + (m6 + n)) := by rw [← h71, List.length_append, List.length_append, List.length_append, HPL.out, HV56.out.len, HV6.out.len, HL.out]
  have hbn7 : 1 ≤ n7 ∧ n7 ≤ 20000 := by omega
  clear hn7
  have HR7 := Lib.hid h73
  have HL7 := Lib.hid h71
  clear h71 h73 hfl
  have hcell : cellB 3 c = [] ++ (varL c.total ++ (varL (n : Int) ++ c.loc)) ++ spillB c := by simp [cellB, childB, keyB, loadB, hasC, hasK, HL.out]
  have HCELL := Lib.hid hcell
  clear hcell
  by_cases hs : c.spill = 0
  · have es : (c.spill != 0) = false := by simp [hs]
    have hsp : spillB c = [] := if_pos hs
    have HSP := Lib.hid hsp
    clear hsp hs
    go_wp2
    rw [HR.out]
    exact ⟨_, _, _, rfl, by rw [HCELL.out, HSP.out, List.append_nil]; exact HL7.out, Nat.le_refl _, h72, by rw [HCELL.out, HSP.out, List.append_nil]; exact HR7.out, hB7, BlkA.at HG7.out.1 HG7.out.2⟩
  · have es : (c.spill != 0) = true := by simp [hs]
    have hsp : spillB c = varL c.spill := if_neg hs
    have HSP := Lib.hid hsp
    clear hsp hs
    go_wp2_with fail
    refine (varint_put _ c.spill HC3.out).mono ?_
    rintro e w8 ⟨A8, m8, c8, rfl, hown8, hb8⟩
    have HV8 := Lib.hid hown8
    have hm8 : m8 ≤ 10 := by rw [← hown8.len]; exact varL_ten HC3.out
    have hm8p : 1 ≤ m8 := by rw [← hown8.len]; exact vl_pos _
    have HR8 := Lib.hid (HR7.out.keep hb8)
    have hB8 := hB7.trans (hb8.mono hB7.size)
    clear hown8
    dsimp only
    go_step
    refine wp_append_full rfl (.tmp 53) (.tmp 56) rfl (some ⟨g7, 0, none⟩) n7 n7 _ rfl HL7.out (by omega) (Nat.le_refl _) HR8.out A8 m8 c8 (varL c.spill) rfl HV8.out.len HV8.out.rd (by omega) (by omega) ?_
    intro A9 c9 w9 hown9 hb9
    have HO9 := Lib.hid hown9
    have hB9 := hB8.trans (hb9.mono hB8.size)
    clear hown9 hb9 hb8
    go_wp2
    rw [HR.out]
    exact ⟨_, _, _, rfl, by rw [HCELL.out, HSP.out]; exact HO9.out.len, HO9.out.cap.1, HO9.out.cap.2, by rw [HCELL.out, HSP.out]; exact HO9.out.rd, hB9, HO9.out.blkA hB8.size⟩

set_option maxHeartbeats 8000000 in
theorem cenc_four (w : World) (c : Cl) (A : Option Addr) (n d : Nat) (hc : c.ok) (hnd : n ≤ d) (hd : d ≤ maxLen) (hl : c.loc.length = n) (hA : Rd w A c.loc) (hg : goodC 4 c n) (R : Ending → World → Prop) (hR : R = EncBack w (cellB 4 c) 0) :
    Calls Try.prog 35 #[.int .i64 4, c.val A n d] w R := by
  have HR := Lib.hid hR; clear hR
  have hz : checkZ 4 c n = 0 := if_pos hg
  have HZ := Lib.hid hz; clear hz
  obtain ⟨hc0, hc1, hc2, hc3⟩ := hc
  have HC0 := Lib.hid hc0
  have HC1 := Lib.hid hc1
  have HC2 := Lib.hid hc2
  have HC3 := Lib.hid hc3
  have HL := Lib.hid hl
  have HG := Lib.hid hg
  obtain ⟨W1, hW1⟩ : ∃ W, W = w.alloc (.cells #[.int .i64 c.key, .int .i64 c.child, .int .i64 c.total, .slice A n d, .int .i64 c.spill] 55) := ⟨_, rfl⟩
  have hbW : Below w.heap.size w W1 := by rw [hW1]; exact (Below.refl _ _).alloc (Nat.le_refl _) _
  have hsW : W1.heap.size = w.heap.size + 1 := by rw [hW1]; simp
  have hat : ClAt W1 w.heap.size c A n d := by rw [hW1]; exact ⟨by simp [go_sem], by simp [go_sem], by simp [go_sem], by simp [go_sem], by simp [go_sem]⟩
  have HT := Lib.hid hat; clear hat
  have HA := Lib.hid (hA.keep hbW); clear hA
  have HW := Lib.hid hW1
  unfold Cl.val
  go_enter Try.func35, Try.ntmps35
  go_upto_region 1 with fail
  rw [← hW1]
  clear hW1 HW
  iterate 4 go_step
  refine wp_load_cl rfl _ rfl w.heap.size c A n d rfl HT.out ?_
  go_wp2_with fail
  refine (checkC_any _ 4 c A n d ⟨hc0, hc1, hc2, hc3⟩ (by unfold maxLen at hd; omega)).mono ?_
  rintro e w1 ⟨rfl, hb1⟩
  simp only [HZ.out]
  have hB1 : Below w.heap.size w w1 := hbW.trans (hb1.mono hbW.size)
  have HT1 := Lib.hid (HT.out.keep hb1)
  have HA1 := Lib.hid (HA.out.keep hb1)
  have hz1 := hb1.size
  clear hb1 hc0 hc1 hc2 hc3 hg hl
  go_wp2_with fail
  refine (has_four _).mono ?_
  rintro e w2 ⟨rfl, rfl⟩
  obtain ⟨k0, k1, k2, k3, k4⟩ := HT1.out
  go_wp2_with fail
  refine (varint_put _ c.child HC1.out).mono ?_
  rintro e wxa ⟨Ax, mx, cx, rfl, hownx, hbx⟩
  have HVx := Lib.hid hownx
  have hmx : mx ≤ 10 := by rw [← hownx.len]; exact varL_ten HC1.out
  have hmxp : 1 ≤ mx := by rw [← hownx.len]; exact vl_pos _
  have hB1x : Below w.heap.size w wxa := hB1.trans (hbx.mono hB1.size)
  have hzx := hbx.size
  clear hownx
  dsimp only
  go_step
  refine wp_append rfl (.tmp 26) (.tmp 29) rfl w1.heap.size none 0 0 [] rfl (OwnB.nil _ _) Ax mx cx (varL c.child) rfl HVx.out.len HVx.out.rd (by omega) (by omega) ?_
  intro Dx dx wxb happx _ hbbx
  simp only [List.nil_append, Nat.zero_add] at happx ⊢
  have HPx := Lib.hid happx
  have hBBx : Below w.heap.size w wxb := hB1x.trans (hbbx.mono hB1.size)
  have hb1x : Below w1.heap.size w1 wxb := (hbx).trans hbbx
  have hzzx := hb1x.size
  have HTx := Lib.hid (HT1.out.keep hb1x)
  have HAx := Lib.hid (HA1.out.keep hb1x)
  clear happx hbx hbbx k0 k1 k2 k3 k4
  obtain ⟨k0, k1, k2, k3, k4⟩ := HTx.out
  have hgl := HG.out.2.2.2.2.1 (by decide)
  obtain ⟨gt0, gt1, gn, gs0, gs1⟩ := hgl
  have hnn : n ≤ 16384 := by omega
  have HPR := Lib.hid (show Rd wxb Dx (varL c.child) from HPx.out.rd)
  have HPL := Lib.hid (show ((varL c.child) : List Int).length = mx from HPx.out.len)
  have HPC := Lib.hid (show mx ≤ dx ∧ dx ≤ maxLen from HPx.out.cap)
  have K2 : ∀ W : World, Below wxb.heap.size wxb W → W.cell? ⟨w.heap.size, 2, none⟩ = some (.int .i64 c.total) := fun W hW => (HTx.out.keep hW).2.2.1
  have K3 : ∀ W : World, Below wxb.heap.size wxb W → W.cell? ⟨w.heap.size, 3, none⟩ = some (.slice A n d) := fun W hW => (HTx.out.keep hW).2.2.2.1
  go_upto_region 11 with fail
  clear k0 k1 k2 k3 k4
  refine wp_region_held_drew (S := (fun W => Below wxb.heap.size wxb W)) (by kernel_rfl) ?_ (fun hHeld => ?_)
  · exact (Below.refl _ wxb).drew
  refine' wpAnyH_take (i := 0) (oi := _) (v := _) rfl (by kernel_rfl) (by kernel_rfl) (by kernel_rfl) (fun _ _ _ h => h) (Or.inl ⟨by rfl, ?hy0⟩) (by assumption) ?rest0
  case hy0 => (intro w' hSw; (try dsimp only at hSw); go_simp; try with_reducible rfl)
  try simp only [Act.put, List.setIfInBounds_toArray, List.set_cons_zero, List.set_cons_succ, List.getElem_toArray, List.getElem_cons_zero, List.getElem_cons_succ]
  refine' wpAnyH_take (i := 1) (oi := _) (v := _) rfl (by kernel_rfl) (by kernel_rfl) (by kernel_rfl) (fun _ _ _ h => h) (Or.inl ⟨by rfl, ?hy1⟩) (by assumption) ?rest1
  case hy1 => (intro w' hSw; (try dsimp only at hSw); go_simp; try with_reducible rfl)
  try simp only [Act.put, List.setIfInBounds_toArray, List.set_cons_zero, List.set_cons_succ, List.getElem_toArray, List.getElem_cons_zero, List.getElem_cons_succ]
  refine' wpAnyH_take (i := 2) (oi := _) (v := _) rfl (by kernel_rfl) (by kernel_rfl) (by kernel_rfl) (fun _ _ _ h => h) (Or.inl ⟨by rfl, ?hy2⟩) (by assumption) ?rest2
  case hy2 => (intro w' hSw; (try dsimp only at hSw); go_simp; try with_reducible rfl)
  try simp only [Act.put, List.setIfInBounds_toArray, List.set_cons_zero, List.set_cons_succ, List.getElem_toArray, List.getElem_cons_zero, List.getElem_cons_succ]
  refine' wpAnyH_take (i := 4) (oi := _) (v := _) rfl (by kernel_rfl) (by kernel_rfl) (by kernel_rfl) (fun _ _ _ h => h) (Or.inl ⟨by rfl, ?hy4⟩) (by assumption) ?rest4
  case hy4 => (intro w' hSw; (try dsimp only at hSw); go_simp; try with_reducible rfl)
  try simp only [Act.put, List.setIfInBounds_toArray, List.set_cons_zero, List.set_cons_succ, List.getElem_toArray, List.getElem_cons_zero, List.getElem_cons_succ]
  refine' wpAnyH_take (i := 5) (oi := _) (v := _) rfl (by kernel_rfl) (by kernel_rfl) (by kernel_rfl) (fun _ _ _ h => h) (Or.inl ⟨by rfl, ?hy5⟩) (by assumption) ?rest5
  case hy5 => (intro w' hSw; (try dsimp only at hSw); go_simp; try with_reducible rfl)
  try simp only [Act.put, List.setIfInBounds_toArray, List.set_cons_zero, List.set_cons_succ, List.getElem_toArray, List.getElem_cons_zero, List.getElem_cons_succ]
  refine' wpAnyH_take (i := 6) (oi := _) (v := _) rfl (by kernel_rfl) (by kernel_rfl) (by kernel_rfl) (fun _ _ _ h => h) (Or.inl ⟨by rfl, ?hy6⟩) (by assumption) ?rest6
  case hy6 => (intro w' hSw; (try dsimp only at hSw); go_simp; try with_reducible rfl)
  try simp only [Act.put, List.setIfInBounds_toArray, List.set_cons_zero, List.set_cons_succ, List.getElem_toArray, List.getElem_cons_zero, List.getElem_cons_succ]
  refine' wpAnyH_take (i := 8) (oi := _) (v := _) rfl (by kernel_rfl) (by kernel_rfl) (by kernel_rfl) (fun _ _ _ h => h) (Or.inl ⟨by rfl, ?hy8⟩) (by assumption) ?rest8
  case hy8 => (intro w' hSw; (try dsimp only at hSw); go_simp; try with_reducible rfl)
  try simp only [Act.put, List.setIfInBounds_toArray, List.set_cons_zero, List.set_cons_succ, List.getElem_toArray, List.getElem_cons_zero, List.getElem_cons_succ]
  refine' wpAnyH_take (i := 9) (oi := _) (v := _) rfl (by kernel_rfl) (by kernel_rfl) (by kernel_rfl) (fun _ _ _ h => h) (Or.inl ⟨by rfl, ?hy9⟩) (by assumption) ?rest9
  case hy9 => (intro w' hSw; (try dsimp only at hSw); go_simp; try with_reducible rfl)
  try simp only [Act.put, List.setIfInBounds_toArray, List.set_cons_zero, List.set_cons_succ, List.getElem_toArray, List.getElem_cons_zero, List.getElem_cons_succ]
  refine wpAnyH_ready (rs := [3]) (by kernel_rfl) (by simp) ?_
  refine AllReadyH.cons (o := _) rfl (fun K hK => ?_) AllReadyH.nil
  go_simp
  go_at_call 84
  refine (varint_put _ c.total HC2.out).mono ?_
  rintro e w5 ⟨A5, m5, c5, rfl, hown5, hb5⟩
  have hb5' : Below wxb.heap.size wxb w5 := ((Below.refl _ wxb).drew).trans hb5
  have HV5 := Lib.hid hown5
  have hm5 : m5 ≤ 10 := by rw [← hown5.len]; exact varL_ten HC2.out
  have hm5p : 1 ≤ m5 := by rw [← hown5.len]; exact vl_pos _
  clear hown5 hb5
  refine hK.out _ _ ?_ (fun hHeld => ?_)
  · exact hb5'
  clear hK K
  try simp only [Act.put, List.setIfInBounds_toArray, List.set_cons_zero, List.set_cons_succ, List.getElem_toArray, List.getElem_cons_zero, List.getElem_cons_succ]
  refine wpAnyH_ready (rs := [7]) (by kernel_rfl) (by simp) ?_
  refine AllReadyH.cons (o := _) rfl (fun K hK => ?_) AllReadyH.nil
  go_simp
  go_at_call 84
  refine (varint_put _ (n : Int) (by omega)).mono ?_
  rintro e w6 ⟨A6, m6, c6, rfl, hown6, hb6⟩
  have hb6' : Below wxb.heap.size wxb w6 := hb5'.trans (hb6.mono hb5'.size)
  have HV6 := Lib.hid hown6
  have HV56 := Lib.hid (HV5.out.keep hb6)
  have hm6 : m6 ≤ 10 := by rw [← hown6.len]; exact varL_ten (by omega)
  clear hown6 hb6
  refine hK.out _ _ ?_ (fun hHeld => ?_)
  · exact hb6'
  clear hK K
  try simp only [Act.put, List.setIfInBounds_toArray, List.set_cons_zero, List.set_cons_succ, List.getElem_toArray, List.getElem_cons_zero, List.getElem_cons_succ]
  refine wpAnyH_ready (rs := [10]) (by kernel_rfl) (by simp) ?_
  refine AllReadyH.cons (o := _) rfl (fun K hK => ?_) AllReadyH.nil
  go_simp
  refine hK.out _ _ ?_ (fun hHeld => ?_)
  · exact hb6'.alloc hb6'.size _
  clear hK K
  try simp only [Act.put, List.setIfInBounds_toArray, List.set_cons_zero, List.set_cons_succ, List.getElem_toArray, List.getElem_cons_zero, List.getElem_cons_succ]
  refine wpAnyH_ready (rs := [11]) (by kernel_rfl) (by simp) ?_
  refine AllReadyH.cons (o := _) rfl (fun K hK => ?_) AllReadyH.nil
  go_simp
  go_at_call 85
  refine (join_any _ _ 4 4 [(varL c.child), varL c.total, varL (n : Int), c.loc] rfl (by decide) (Nat.le_refl _) (by decide) (rows4 _ _ HPL.out HPC.out.1 HPC.out.2 (HPR.out.keep hb6') HV56.out.len HV56.out.cap.1 HV56.out.cap.2 HV56.out.rd HV6.out.len HV6.out.cap.1 HV6.out.cap.2 HV6.out.rd HL.out hnd hd (HAx.out.keep hb6')) (by simp only [List.flatten_cons, List.flatten_nil, List.length_append, List.length_nil, HPL.out, HV56.out.len, HV6.out.len, HL.out]; omega)).mono ?_
  rintro e w7 hf
  obtain ⟨g7, n7, rfl, h71, h72, h73, h74, h75, h76⟩ := fresh_rd hf
  have HG7 := Lib.hid (show w.heap.size ≤ g7 ∧ g7 < w7.heap.size from ⟨by have := hb6'.size; have := hBBx.size; simp at h75; omega, h76⟩)
  have hb7' : Below wxb.heap.size wxb w7 := (hb6'.alloc hb6'.size _).trans (h74.mono (by simp; have := hb6'.size; omega))
  clear hf h74 h75 h76
  refine hK.out _ _ ?_ (fun hHeld => ?_)
  · exact hb7'
  clear hK K
  try simp only [Act.put, List.setIfInBounds_toArray, List.set_cons_zero, List.set_cons_succ, List.getElem_toArray, List.getElem_cons_zero, List.getElem_cons_succ]
  refine' wpAnyH_take (i := 12) (oi := _) (v := _) rfl (by kernel_rfl) (by kernel_rfl) (by kernel_rfl) (fun _ _ _ h => h) (Or.inl ⟨by rfl, ?hy12⟩) (by assumption) ?rest12
  case hy12 => (intro w' hSw; (try dsimp only at hSw); go_simp; try with_reducible rfl)
  try simp only [Act.put, List.setIfInBounds_toArray, List.set_cons_zero, List.set_cons_succ, List.getElem_toArray, List.getElem_cons_zero, List.getElem_cons_succ]
  refine wpAnyH_done (by kernel_rfl) ?_ _
  have hB7 : Below w.heap.size w w7 := hBBx.trans (hb7'.mono hBBx.size)
  obtain ⟨k0, k1, k2, k3, k4⟩ := HTx.out.keep hb7'
  have hfl : [(varL c.child), varL c.total, varL (n : Int), c.loc].flatten = (varL c.child) ++ (varL c.total ++ (varL (n : Int) ++ c.loc)) := by simp
  rw [hfl] at h71 h73
  have hn7 : n7 = mx + (m5 + (m6 + n)) := by rw [← h71, List.length_append, List.length_append, List.length_append, HPL.out, HV56.out.len, HV6.out.len, HL.out]
  have hbn7 : 1 ≤ n7 ∧ n7 ≤ 20000 := by omega
  clear hn7
  have HR7 := Lib.hid h73
  have HL7 := Lib.hid h71
  clear h71 h73 hfl
  have hcell : cellB 4 c = (varL c.child) ++ (varL c.total ++ (varL (n : Int) ++ c.loc)) ++ spillB c := by simp [cellB, childB, keyB, loadB, hasC, hasK, HL.out]
  have HCELL := Lib.hid hcell
  clear hcell
  by_cases hs : c.spill = 0
  · have es : (c.spill != 0) = false := by simp [hs]
    have hsp : spillB c = [] := if_pos hs
    have HSP := Lib.hid hsp
    clear hsp hs
    go_wp2
    rw [HR.out]
    exact ⟨_, _, _, rfl, by rw [HCELL.out, HSP.out, List.append_nil]; exact HL7.out, Nat.le_refl _, h72, by rw [HCELL.out, HSP.out, List.append_nil]; exact HR7.out, hB7, BlkA.at HG7.out.1 HG7.out.2⟩
  · have es : (c.spill != 0) = true := by simp [hs]
    have hsp : spillB c = varL c.spill := if_neg hs
    have HSP := Lib.hid hsp
    clear hsp hs
    go_wp2_with fail
    refine (varint_put _ c.spill HC3.out).mono ?_
    rintro e w8 ⟨A8, m8, c8, rfl, hown8, hb8⟩
    have HV8 := Lib.hid hown8
    have hm8 : m8 ≤ 10 := by rw [← hown8.len]; exact varL_ten HC3.out
    have hm8p : 1 ≤ m8 := by rw [← hown8.len]; exact vl_pos _
    have HR8 := Lib.hid (HR7.out.keep hb8)
    have hB8 := hB7.trans (hb8.mono hB7.size)
    clear hown8
    dsimp only
    go_step
    refine wp_append_full rfl (.tmp 53) (.tmp 56) rfl (some ⟨g7, 0, none⟩) n7 n7 _ rfl HL7.out (by omega) (Nat.le_refl _) HR8.out A8 m8 c8 (varL c.spill) rfl HV8.out.len HV8.out.rd (by omega) (by omega) ?_
    intro A9 c9 w9 hown9 hb9
    have HO9 := Lib.hid hown9
    have hB9 := hB8.trans (hb9.mono hB8.size)
    clear hown9 hb9 hb8
    go_wp2
    rw [HR.out]
    exact ⟨_, _, _, rfl, by rw [HCELL.out, HSP.out]; exact HO9.out.len, HO9.out.cap.1, HO9.out.cap.2, by rw [HCELL.out, HSP.out]; exact HO9.out.rd, hB9, HO9.out.blkA hB8.size⟩

theorem cencC_any (w : World) (k : Int) (c : Cl) (A : Option Addr) (n d : Nat) (hc : c.ok) (hnd : n ≤ d) (hd : d ≤ maxLen) (hl : c.loc.length = n) (hA : Rd w A c.loc) :
    Calls Try.prog 35 #[.int .i64 k, c.val A n d] w (EncBack w (encC k c) (checkZ k c n)) := by
  by_cases hg : goodC k c n
  · rw [show encC k c = cellB k c from if_pos (by rw [hl]; exact hg), show checkZ k c n = 0 from if_pos hg]
    have := hg.1
    unfold isK at this
    rcases (by omega : k = 1 ∨ k = 2 ∨ k = 3 ∨ k = 4) with rfl | rfl | rfl | rfl
    · exact cenc_one w c A n d hc hnd hd hl hA hg _ rfl
    · exact cenc_two w c A n d hc hnd hd hl hA hg _ rfl
    · exact cenc_three w c A n d hc hnd hd hl hA hg _ rfl
    · exact cenc_four w c A n d hc hnd hd hl hA hg _ rfl
  · exact cenc_no w k c A n d hc (by unfold maxLen at hd; omega) hl hg _ rfl

set_option maxHeartbeats 4000000 in
theorem csizeC_any (w : World) (k : Int) (c : Cl) (A : Option Addr) (n d : Nat) (hc : c.ok) (hnd : n ≤ d) (hd : d ≤ maxLen) (hl : c.loc.length = n) (hA : Rd w A c.loc) (R : Ending → World → Prop) (hR : R = fun e w' => e = .returned (.int .i64 (((encC k c).length : Nat) : Int)) ∧ Below w.heap.size w w') :
    Calls Try.prog 38 #[.int .i64 k, c.val A n d] w R := by
  have HR := Lib.hid hR; clear hR
  obtain ⟨W1, hW1⟩ : ∃ W, W = w.alloc (.cells #[.int .i64 c.key, .int .i64 c.child, .int .i64 c.total, .slice A n d, .int .i64 c.spill] 55) := ⟨_, rfl⟩
  have hbW : Below w.heap.size w W1 := by rw [hW1]; exact (Below.refl _ _).alloc (Nat.le_refl _) _
  have hat : ClAt W1 w.heap.size c A n d := by rw [hW1]; exact ⟨by simp [go_sem], by simp [go_sem], by simp [go_sem], by simp [go_sem], by simp [go_sem]⟩
  have HT := Lib.hid hat; clear hat
  have HA := Lib.hid (hA.keep hbW); clear hA
  have HW := Lib.hid hW1
  unfold Cl.val
  go_enter Try.func38, Try.ntmps38
  go_upto_region 1 with fail
  rw [← hW1]
  clear hW1 HW
  iterate 4 go_step
  refine wp_load_cl rfl _ rfl w.heap.size c A n d rfl HT.out ?_
  go_wp2_with fail
  refine (cencC_any _ k c A n d hc hnd hd hl HA.out).mono ?_
  rintro e w1 ⟨A1, n1, c1, rfl, h1, h2, h3, h4, hb1, _⟩
  have hB1 : Below w.heap.size w w1 := hbW.trans (hb1.mono hbW.size)
  have HL := Lib.hid h1
  clear hb1 h1 h4
  go_wp2
  rw [HR.out]
  exact ⟨by rw [HL.out]; rfl, hB1⟩
end Go.Proofs.Ytoeaffmlolapnaa
