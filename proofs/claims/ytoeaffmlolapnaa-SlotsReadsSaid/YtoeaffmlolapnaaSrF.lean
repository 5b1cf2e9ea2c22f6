/- Walk: tomelaw09.same. Printed by genRsF.py. -/
import Derived.Test.YtoeaffmlolapnaaSrC
import Derived.Test.YtoeaffmlolapnaaSrE
namespace Go.Proofs.Ytoeaffmlolapnaa
open Go.RowKit
set_option maxRecDepth 100000
set_option linter.unusedVariables false
set_option linter.unusedSimpArgs false
set_option linter.unnecessarySimpa false

theorem pCell_ok (w : World) (g gb c : Nat) (L : List Int) (X : List Value) (M : Mdl) (hp : Pg w g gb c M.h L X) (hi : IsP L M) (hg : Good M) (j : Nat) (hj : j < M.k) :
    Calls Try.prog 21 #[.pointer (some ⟨g, 0, none⟩), .int .i64 (j : Int)] w (CellBack w (M.cl j) 0) := by
  have hk := hg.kle
  have h := pCell_any w g gb c L X M hp hi hg (j : Int) (by omega) (by omega) _ rfl
  rw [if_pos (by omega), if_pos (by omega), Int.toNat_natCast] at h
  exact h
theorem pCell_no (w : World) (g gb c : Nat) (L : List Int) (X : List Value) (M : Mdl) (hp : Pg w g gb c M.h L X) (hi : IsP L M) (hg : Good M) (i : Int) (h0 : -9223372036854775808 ≤ i ∧ i ≤ 9223372036854775807) (hj : i < 0 ∨ (M.k : Int) ≤ i) :
    Calls Try.prog 21 #[.pointer (some ⟨g, 0, none⟩), .int .i64 i] w (CellBack w [] 1) := by
  have h := pCell_any w g gb c L X M hp hi hg i h0.1 h0.2 _ rfl
  rw [if_neg (by omega), if_neg (by omega)] at h
  exact h

set_option maxHeartbeats 32000000 in
theorem same9_any (w : World) (bad : List Nat) (g gb c : Nat) (L : List Int) (X : List Value) (M : Mdl) (r : RV) (hp : Pg w g gb c M.h L X) (hi : IsP L M) (hg : Good M) (hr : RefV w bad M r) (R : Ending → World → Prop) (hR : R = LiveYes w) :
    Calls Try.prog 20 #[.pointer (some ⟨g, 0, none⟩), r.val M] w R := by
  have HRR := Lib.hid hR; clear hR
  have HG := Lib.hid hg
  have HI := Lib.hid hi
  have hk := hg.kle
  obtain ⟨W0, hW0⟩ : ∃ W, W = w.alloc (.cells #[.int .i64 (M.n : Int), .slice r.FA M.h r.fc, .slice r.CA M.k r.cc, .slice r.PA M.P.length r.pc] 33) := ⟨_, rfl⟩
  have hB0 : Below w.heap.size w W0 := by rw [hW0]; exact (Below.refl _ _).alloc (Nat.le_refl _) _
  have hs0 : w.heap.size ≤ W0.heap.size := hB0.size
  have HR0 := Lib.hid (show RpAt W0 w.heap.size r M by rw [hW0]; exact RpAt.made w r M _)
  have HV0 := Lib.hid (hr.keep hB0)
  have HP0 := Lib.hid (hp.keep hB0)
  have HW := Lib.hid hW0
  have HLL := Lib.hid hi.len
  have hn := hg.n1
  clear hW0 hr hg hp hi
  have K0 : ∀ W : World, Below W0.heap.size W0 W → W.cell? ⟨w.heap.size, 0, none⟩ = some (.int .i64 (M.n : Int)) := fun W hW => (HR0.out.keep hW).all.1
  have K1 : ∀ W : World, Below W0.heap.size W0 W → W.cell? ⟨w.heap.size, 1, none⟩ = some (.slice r.FA M.h r.fc) := fun W hW => (HR0.out.keep hW).all.2.1
  have K2 : ∀ W : World, Below W0.heap.size W0 W → W.cell? ⟨w.heap.size, 2, none⟩ = some (.slice r.CA M.k r.cc) := fun W hW => (HR0.out.keep hW).all.2.2.1
  have K3 : ∀ W : World, Below W0.heap.size W0 W → W.cell? ⟨w.heap.size, 3, none⟩ = some (.slice r.PA M.P.length r.pc) := fun W hW => (HR0.out.keep hW).all.2.2.2
  unfold RV.val
  go_enter Try.func20, Try.ntmps20
  go_upto_region 1 with fail
  rw [← HW.out]
  clear HW
  refine wp_region_held_drew (S := (fun W => Below W0.heap.size W0 W)) (by kernel_rfl) ?_ (fun hHeld => ?_)
  · exact (Below.refl _ W0).drew
  refine' wpAnyH_take (i := 0) (oi := _) (v := _) rfl (by kernel_rfl) (by kernel_rfl) (by kernel_rfl) (fun _ _ _ h => h) (Or.inl ⟨by rfl, ?hz1⟩) (by assumption) ?rezt1
  case hz1 => (intro w' hSw; (try dsimp only at hSw); go_simp; try with_reducible rfl)
  try simp only [Act.put, List.setIfInBounds_toArray, List.set_cons_zero, List.set_cons_succ, List.getElem_toArray, List.getElem_cons_zero, List.getElem_cons_succ]
  refine' wpAnyH_take (i := 2) (oi := _) (v := _) rfl (by kernel_rfl) (by kernel_rfl) (by kernel_rfl) (fun _ _ _ h => h) (Or.inl ⟨by rfl, ?hz2⟩) (by assumption) ?rezt2
  case hz2 => (intro w' hSw; (try dsimp only at hSw); go_simp; try with_reducible rfl)
  try simp only [Act.put, List.setIfInBounds_toArray, List.set_cons_zero, List.set_cons_succ, List.getElem_toArray, List.getElem_cons_zero, List.getElem_cons_succ]
  refine' wpAnyH_take (i := 3) (oi := _) (v := _) rfl (by kernel_rfl) (by kernel_rfl) (by kernel_rfl) (fun _ _ _ h => h) (Or.inl ⟨by rfl, ?hz3⟩) (by assumption) ?rezt3
  case hz3 => (intro w' hSw; (try dsimp only at hSw); go_simp; try with_reducible rfl)
  try simp only [Act.put, List.setIfInBounds_toArray, List.set_cons_zero, List.set_cons_succ, List.getElem_toArray, List.getElem_cons_zero, List.getElem_cons_succ]
  refine' wpAnyH_take (i := 4) (oi := _) (v := _) rfl (by kernel_rfl) (by kernel_rfl) (by kernel_rfl) (fun _ _ _ h => h) (Or.inl ⟨by rfl, ?hz4⟩) (by assumption) ?rezt4
  case hz4 => (intro w' hSw; (try dsimp only at hSw); go_simp; try with_reducible rfl)
  try simp only [Act.put, List.setIfInBounds_toArray, List.set_cons_zero, List.set_cons_succ, List.getElem_toArray, List.getElem_cons_zero, List.getElem_cons_succ]
  refine wpAnyH_ready (rs := [1]) (by kernel_rfl) (by simp) ?_
  refine AllReadyH.cons (o := _) rfl (fun K hK => ?_) AllReadyH.nil
  go_simp
  have hbd : Below W0.heap.size W0 W0.drew := (Below.refl _ W0).drew
  go_at_call 22
  refine (pMany_any _ g gb c L X M (HP0.out.keep hbd) HI.out HG.out).mono ?_
  rintro e w1 ⟨rfl, rfl⟩
  have hb1 : Below W0.heap.size W0 W0.drew := hbd
  clear hbd
  refine hK.out _ _ ?_ (fun hHeld => ?_)
  · exact hb1
  clear hK K
  try simp only [Act.put, List.setIfInBounds_toArray, List.set_cons_zero, List.set_cons_succ, List.getElem_toArray, List.getElem_cons_zero, List.getElem_cons_succ]
  have z1 : ((M.k : Int) != (M.k : Int)) = false := by simp
  refine' wpAnyH_take (i := 5) (oi := _) (v := _) rfl (by kernel_rfl) (by kernel_rfl) (by kernel_rfl) (fun _ _ _ h => h) (Or.inl ⟨by rfl, ?hz5⟩) (by assumption) ?rezt5
  case hz5 => (intro w' hSw; (try dsimp only at hSw); go_simp; try with_reducible rfl)
  try simp only [Act.put, List.setIfInBounds_toArray, List.set_cons_zero, List.set_cons_succ, List.getElem_toArray, List.getElem_cons_zero, List.getElem_cons_succ]
  refine' wpAnyH_take (i := 6) (oi := _) (v := _) rfl (by kernel_rfl) (by kernel_rfl) (by kernel_rfl) (fun _ _ _ h => h) (Or.inl ⟨by rfl, ?hz6⟩) (by assumption) ?rezt6
  case hz6 => (intro w' hSw; (try dsimp only at hSw); go_simp; try with_reducible rfl)
  try simp only [Act.put, List.setIfInBounds_toArray, List.set_cons_zero, List.set_cons_succ, List.getElem_toArray, List.getElem_cons_zero, List.getElem_cons_succ]
  refine' wpAnyH_take (i := 7) (oi := _) (v := _) rfl (by kernel_rfl) (by kernel_rfl) (by kernel_rfl) (fun _ _ _ h => h) (Or.inl ⟨by rfl, ?hz7⟩) (by assumption) ?rezt7
  case hz7 => (intro w' hSw; (try dsimp only at hSw); go_simp; try with_reducible rfl)
  try simp only [Act.put, List.setIfInBounds_toArray, List.set_cons_zero, List.set_cons_succ, List.getElem_toArray, List.getElem_cons_zero, List.getElem_cons_succ]
  refine' wpAnyH_take (i := 9) (oi := _) (v := _) rfl (by kernel_rfl) (by kernel_rfl) (by kernel_rfl) (fun _ _ _ h => h) (Or.inl ⟨by rfl, ?hz8⟩) (by assumption) ?rezt8
  case hz8 => (intro w' hSw; (try dsimp only at hSw); go_simp; try with_reducible rfl)
  try simp only [Act.put, List.setIfInBounds_toArray, List.set_cons_zero, List.set_cons_succ, List.getElem_toArray, List.getElem_cons_zero, List.getElem_cons_succ]
  refine wpAnyH_ready (rs := [8]) (by kernel_rfl) (by simp) ?_
  refine AllReadyH.cons (o := _) rfl (fun K hK => ?_) AllReadyH.nil
  go_simp
  go_at_call 27
  refine (pRoom_any _ g gb c L X M (HP0.out.keep hb1) HI.out HG.out).mono ?_
  rintro e w2 ⟨rfl, hb2⟩
  have hb02 : Below W0.heap.size W0 w2 := hb1.trans (hb2.mono (Nat.le_refl _))
  clear hb2 hb1
  refine hK.out _ _ ?_ (fun hHeld => ?_)
  · exact hb02
  clear hK K
  try simp only [Act.put, List.setIfInBounds_toArray, List.set_cons_zero, List.set_cons_succ, List.getElem_toArray, List.getElem_cons_zero, List.getElem_cons_succ]
  refine wpAnyH_ready (rs := [10]) (by kernel_rfl) (by simp) ?_
  refine AllReadyH.cons (o := _) rfl (fun K hK => ?_) AllReadyH.nil
  go_simp
  go_at_call 59
  refine (rRoom_any _ bad M r (HV0.out.keep hb02) HG.out.sm).mono ?_
  rintro e w3 ⟨rfl, hb3⟩
  have hb03 : Below W0.heap.size W0 w3 := hb02.trans (hb3.mono hb02.size)
  clear hb3 hb02
  refine hK.out _ _ ?_ (fun hHeld => ?_)
  · exact hb03
  clear hK K
  try simp only [Act.put, List.setIfInBounds_toArray, List.set_cons_zero, List.set_cons_succ, List.getElem_toArray, List.getElem_cons_zero, List.getElem_cons_succ]
  obtain ⟨rm, hrm⟩ : ∃ x, M.room = x := ⟨_, rfl⟩
  rw [hrm]
  clear hrm
  have z2 : (rm != rm) = false := by simp
  refine' wpAnyH_take (i := 11) (oi := _) (v := _) rfl (by kernel_rfl) (by kernel_rfl) (by kernel_rfl) (fun _ _ _ h => h) (Or.inl ⟨by rfl, ?hz9⟩) (by assumption) ?rezt9
  case hz9 => (intro w' hSw; (try dsimp only at hSw); go_simp; try with_reducible rfl)
  try simp only [Act.put, List.setIfInBounds_toArray, List.set_cons_zero, List.set_cons_succ, List.getElem_toArray, List.getElem_cons_zero, List.getElem_cons_succ]
  refine' wpAnyH_take (i := 12) (oi := _) (v := _) rfl (by kernel_rfl) (by kernel_rfl) (by kernel_rfl) (fun _ _ _ h => h) (Or.inl ⟨by rfl, ?hz10⟩) (by assumption) ?rezt10
  case hz10 => (intro w' hSw; (try dsimp only at hSw); go_simp; try with_reducible rfl)
  try simp only [Act.put, List.setIfInBounds_toArray, List.set_cons_zero, List.set_cons_succ, List.getElem_toArray, List.getElem_cons_zero, List.getElem_cons_succ]
  refine' wpAnyH_take (i := 13) (oi := _) (v := _) rfl (by kernel_rfl) (by kernel_rfl) (by kernel_rfl) (fun _ _ _ h => h) (Or.inl ⟨by rfl, ?hz11⟩) (by assumption) ?rezt11
  case hz11 => (intro w' hSw; (try dsimp only at hSw); go_simp; try with_reducible rfl)
  try simp only [Act.put, List.setIfInBounds_toArray, List.set_cons_zero, List.set_cons_succ, List.getElem_toArray, List.getElem_cons_zero, List.getElem_cons_succ]
  refine' wpAnyH_take (i := 14) (oi := _) (v := _) rfl (by kernel_rfl) (by kernel_rfl) (by kernel_rfl) (fun _ _ _ h => h) (Or.inl ⟨by rfl, ?hz12⟩) (by assumption) ?rezt12
  case hz12 => (intro w' hSw; (try dsimp only at hSw); go_simp; try with_reducible rfl)
  try simp only [Act.put, List.setIfInBounds_toArray, List.set_cons_zero, List.set_cons_succ, List.getElem_toArray, List.getElem_cons_zero, List.getElem_cons_succ]
  refine' wpAnyH_take (i := 16) (oi := _) (v := _) rfl (by kernel_rfl) (by kernel_rfl) (by kernel_rfl) (fun _ _ _ h => h) (Or.inl ⟨by rfl, ?hz13⟩) (by assumption) ?rezt13
  case hz13 => (intro w' hSw; (try dsimp only at hSw); go_simp; try with_reducible rfl)
  try simp only [Act.put, List.setIfInBounds_toArray, List.set_cons_zero, List.set_cons_succ, List.getElem_toArray, List.getElem_cons_zero, List.getElem_cons_succ]
  refine wpAnyH_ready (rs := [15]) (by kernel_rfl) (by simp) ?_
  refine AllReadyH.cons (o := _) rfl (fun K hK => ?_) AllReadyH.nil
  go_simp
  go_at_call 26
  refine (pBytes_any _ g gb c _ L X (HP0.out.keep hb03) (by rw [HLL.out]; exact hn)).mono ?_
  rintro e w4 ⟨A4, n4, c4, rfl, hown4, hb4⟩
  have HO4 := Lib.hid hown4
  have hb04 : Below W0.heap.size W0 w4 := hb03.trans (hb4.mono hb03.size)
  clear hb4 hb03 hown4
  refine hK.out _ _ ?_ (fun hHeld => ?_)
  · exact hb04
  clear hK K
  try simp only [Act.put, List.setIfInBounds_toArray, List.set_cons_zero, List.set_cons_succ, List.getElem_toArray, List.getElem_cons_zero, List.getElem_cons_succ]
  refine wpAnyH_ready (rs := [17]) (by kernel_rfl) (by simp) ?_
  refine AllReadyH.cons (o := _) rfl (fun K hK => ?_) AllReadyH.nil
  go_simp
  go_at_call 60
  refine (rBytes_any _ bad M r (HV0.out.keep hb04) HG.out _ rfl).mono ?_
  rintro e w5 ⟨L5, hi5, A5, n5, c5, rfl, hown5, hb5⟩
  obtain rfl : L5 = L := IsP.eq HG.out hi5 HI.out
  have HO5 := Lib.hid hown5
  have HO45 := Lib.hid (HO4.out.keep hb5)
  have hb05 : Below W0.heap.size W0 w5 := hb04.trans (hb5.mono hb04.size)
  clear hb5 hown5 hi5 HO4
  refine hK.out _ _ ?_ (fun hHeld => ?_)
  · exact hb05
  clear hK K
  try simp only [Act.put, List.setIfInBounds_toArray, List.set_cons_zero, List.set_cons_succ, List.getElem_toArray, List.getElem_cons_zero, List.getElem_cons_succ]
  refine wpAnyH_ready (rs := [18]) (by kernel_rfl) (by simp) ?_
  refine AllReadyH.cons (o := _) rfl (fun K hK => ?_) AllReadyH.nil
  go_simp
  go_at_call 25
  refine (same1_any _ A4 A5 n4 c4 n5 c5 L5 L5 HO45.out.len HO5.out.len (by have := HO45.out.cap; unfold maxLen at this; omega) HO45.out.rd HO5.out.rd).mono ?_
  rintro e w6 ⟨rfl, hb6⟩
  rw [beqL_self]
  have hb06 : Below W0.heap.size W0 w6 := hb05.trans (hb6.mono hb05.size)
  clear hb6 hb05 hb04 HO45 HO5
  refine hK.out _ _ ?_ (fun hHeld => ?_)
  · exact hb06
  clear hK K
  try simp only [Act.put, List.setIfInBounds_toArray, List.set_cons_zero, List.set_cons_succ, List.getElem_toArray, List.getElem_cons_zero, List.getElem_cons_succ]
  refine' wpAnyH_take (i := 19) (oi := _) (v := _) rfl (by kernel_rfl) (by kernel_rfl) (by kernel_rfl) (fun _ _ _ h => h) (Or.inl ⟨by rfl, ?hz14⟩) (by assumption) ?rezt14
  case hz14 => (intro w' hSw; (try dsimp only at hSw); go_simp; try with_reducible rfl)
  try simp only [Act.put, List.setIfInBounds_toArray, List.set_cons_zero, List.set_cons_succ, List.getElem_toArray, List.getElem_cons_zero, List.getElem_cons_succ]
  refine' wpAnyH_take (i := 20) (oi := _) (v := _) rfl (by kernel_rfl) (by kernel_rfl) (by kernel_rfl) (fun _ _ _ h => h) (Or.inl ⟨by rfl, ?hz15⟩) (by assumption) ?rezt15
  case hz15 => (intro w' hSw; (try dsimp only at hSw); go_simp; try with_reducible rfl)
  try simp only [Act.put, List.setIfInBounds_toArray, List.set_cons_zero, List.set_cons_succ, List.getElem_toArray, List.getElem_cons_zero, List.getElem_cons_succ]
  refine wpAnyH_done (by kernel_rfl) ?_ _
  clear K0 K1 K2 K3 z1 z2
  have HP6 := Lib.hid (HP0.out.keep hb06)
  have HR6 := Lib.hid (HR0.out.keep hb06)
  have HV6 := Lib.hid (HV0.out.keep hb06)
  have hB6 : Below w.heap.size w w6 := hB0.trans (hb06.mono hs0)
  have hz6 := hB6.size
  clear HP0 HR0 HV0 hb06
  go_wp2_with fail
  go_loopw [5] (fun i wr => ∃ j : Nat, j ≤ M.k ∧ i = .int .i64 j ∧ Below w6.heap.size w6 wr) (fun i _ => M.k - (intOf i).toNat)
  case atStart => exact ⟨0, Nat.zero_le _, rfl, Below.refl _ _⟩
  case round =>
    obtain ⟨j, hj, rfl, hb⟩ := hrel
    have m2 := (HR6.out.keep hb).all.2.2.1
    have hbz := hb.size
    by_cases hlt : j < M.k
    · have hlt' : (j : Int) < (M.k : Int) := by omega
      have i0 : (0 : Int) ≤ (j : Int) := by omega
      go_wp2_with fail
      clear m2
      refine (pCell_ok _ g gb c _ X M (HP6.out.keep hb) HI.out HG.out j hlt).mono ?_
      rintro e w7 ⟨A7, n7, c7, rfl, hown7, hb7⟩
      have hb67 : Below w6.heap.size w6 w7 := hb.trans (hb7.mono hbz)
      have HO7 := Lib.hid hown7
      have hV7 := HV6.out.keep hb67
      obtain ⟨s, hs1, hs2⟩ := hV7.rows.get hlt
      obtain ⟨b, off, hA, hcell⟩ := hV7.cells.at (by rw [show (rowC r.S).length = r.S.length by simp [rowC], hV7.rows.len]; exact Nat.lt_of_le_of_lt (Nat.zero_le _) hlt)
      have hc := hcell j _ (rowC_get hs1)
      obtain ⟨hsn, _, _, hsr⟩ := hs2
      obtain ⟨sA, sn, sc⟩ := s
      simp only at hc hsn hsr
      have hclj : M.C.getD j [] = M.cl j := rfl
      rw [hclj] at hsn hsr
      have HSN := Lib.hid hsn
      have HSR := Lib.hid hsr
      have m2 := (HR6.out.keep hb67).all.2.2.1
      rw [hA] at m2
      have z0 : ((0 : Int) != 0) = false := rfl
      clear hown7 hb7 hV7 hs1 hcell hA hsn hsr hclj
      go_wp2_with fail
      refine (same1_any _ A7 sA n7 c7 sn sc (M.cl j) (M.cl j) HO7.out.len HSN.out.symm (by have := HO7.out.cap; unfold maxLen at this; omega) HO7.out.rd HSR.out.rd).mono ?_
      rintro e w8 ⟨rfl, hb8⟩
      rw [beqL_self]
      have hb68 : Below w6.heap.size w6 w8 := hb67.trans (hb8.mono hb67.size)
      clear hb8 m2 hc
      go_wp2_with fail
      go_roundw
      case rel => exact ⟨j + 1, by omega, by go_num, hb68⟩
      case measure => simp [intOf]; omega
    · obtain rfl : j = M.k := by omega
      go_wp2_with fail
      rw [HRR.out]
      exact ⟨rfl, hB6.trans (hb.mono hz6)⟩
end Go.Proofs.Ytoeaffmlolapnaa
