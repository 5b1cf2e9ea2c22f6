/- Walks over a page: left, Room, Many, Bytes, Cell. Printed by genSd.py. -/
import Derived.Test.YtoeaffmlolapnaaSlC
namespace Go.Proofs.Ytoeaffmlolapnaa
open Go.RowKit
set_option maxRecDepth 100000
set_option linter.unusedVariables false
set_option linter.unusedSimpArgs false
set_option linter.unnecessarySimpa false

set_option maxHeartbeats 8000000 in
theorem pleft_any (w : World) (g gb c : Nat) (L : List Int) (X : List Value) (M : Mdl) (hp : Pg w g gb c M.h L X) (hi : IsP L M) (hg : Good M) :
    Calls Try.prog 67 #[.pointer (some ⟨g, 0, none⟩)] w fun e w' => e = .returned (.int .i64 M.left) ∧ Below w.heap.size w w' := by
  have m0 := hp.m0
  have m1 := hp.m1
  rw [hi.len] at m0
  have HP := Lib.hid hp
  have HI := Lib.hid hi
  have HG := Lib.hid hg
  have hn1 := hg.n1
  have hn0 := hg.n0
  have hh := hg.h1
  have hfit := hg.fit
  have hk := hg.kle
  unfold Mdl.used at hfit
  clear hp hi hg
  have HMN := Lib.hid HI.out.many
  have e1 : IntKind.i64.wrap ((M.n : Int) - (M.h : Int)) = (M.n : Int) - (M.h : Int) := IntWalk.i64_in _ (by omega)
  have e2 : IntKind.i64.wrap ((M.n : Int) - (M.h : Int) - 2) = (M.n : Int) - (M.h : Int) - 2 := IntWalk.i64_in _ (by omega)
  have K0 : ∀ W : World, Below w.heap.size w W → W.cell? ⟨g, 0, none⟩ = some (.slice (some ⟨gb, 0, none⟩) M.n c) := fun W hW => (hW.cell (World.block_lt_of_cell? _ _ m0)).trans m0
  have K1 : ∀ W : World, Below w.heap.size w W → W.cell? ⟨g, 1, none⟩ = some (.int .i64 (M.h : Int)) := fun W hW => (hW.cell (World.block_lt_of_cell? _ _ m1)).trans m1
  clear m0 m1
  go_enter Try.func67, Try.ntmps67
  go_upto_region 1 with fail
  refine wp_region_held_drew (S := (fun W => Below w.heap.size w W)) (by kernel_rfl) ?_ (fun hHeld => ?_)
  · exact (Below.refl _ w).drew
  refine' wpAnyH_take (i := 0) (oi := _) (v := _) rfl (by kernel_rfl) (by kernel_rfl) (by kernel_rfl) (fun _ _ _ h => h) (Or.inl ⟨by rfl, ?hz1⟩) (by assumption) ?rezt1
  case hz1 => (intro w' hSw; (try dsimp only at hSw); go_simp; try with_reducible rfl)
  try simp only [Act.put, List.setIfInBounds_toArray, List.set_cons_zero, List.set_cons_succ, List.getElem_toArray, List.getElem_cons_zero, List.getElem_cons_succ]
  refine' wpAnyH_take (i := 1) (oi := _) (v := _) rfl (by kernel_rfl) (by kernel_rfl) (by kernel_rfl) (fun _ _ _ h => h) (Or.inl ⟨by rfl, ?hz2⟩) (by assumption) ?rezt2
  case hz2 => (intro w' hSw; (try dsimp only at hSw); go_simp; try with_reducible rfl)
  try simp only [Act.put, List.setIfInBounds_toArray, List.set_cons_zero, List.set_cons_succ, List.getElem_toArray, List.getElem_cons_zero, List.getElem_cons_succ]
  refine' wpAnyH_take (i := 2) (oi := _) (v := _) rfl (by kernel_rfl) (by kernel_rfl) (by kernel_rfl) (fun _ _ _ h => h) (Or.inl ⟨by rfl, ?hz3⟩) (by assumption) ?rezt3
  case hz3 => (intro w' hSw; (try dsimp only at hSw); go_simp; try with_reducible rfl)
  try simp only [Act.put, List.setIfInBounds_toArray, List.set_cons_zero, List.set_cons_succ, List.getElem_toArray, List.getElem_cons_zero, List.getElem_cons_succ]
  refine' wpAnyH_take (i := 3) (oi := _) (v := _) rfl (by kernel_rfl) (by kernel_rfl) (by kernel_rfl) (fun _ _ _ h => h) (Or.inl ⟨by rfl, ?hz4⟩) (by assumption) ?rezt4
  case hz4 => (intro w' hSw; (try dsimp only at hSw); go_simp; try with_reducible rfl)
  try simp only [Act.put, List.setIfInBounds_toArray, List.set_cons_zero, List.set_cons_succ, List.getElem_toArray, List.getElem_cons_zero, List.getElem_cons_succ]
  refine' wpAnyH_take (i := 4) (oi := _) (v := _) rfl (by kernel_rfl) (by kernel_rfl) (by kernel_rfl) (fun _ _ _ h => h) (Or.inl ⟨by rfl, ?hz5⟩) (by assumption) ?rezt5
  case hz5 => (intro w' hSw; (try dsimp only at hSw); go_simp; try with_reducible rfl)
  try simp only [Act.put, List.setIfInBounds_toArray, List.set_cons_zero, List.set_cons_succ, List.getElem_toArray, List.getElem_cons_zero, List.getElem_cons_succ]
  refine' wpAnyH_take (i := 5) (oi := _) (v := _) rfl (by kernel_rfl) (by kernel_rfl) (by kernel_rfl) (fun _ _ _ h => h) (Or.inl ⟨by rfl, ?hz6⟩) (by assumption) ?rezt6
  case hz6 => (intro w' hSw; (try dsimp only at hSw); go_simp; try with_reducible rfl)
  try simp only [Act.put, List.setIfInBounds_toArray, List.set_cons_zero, List.set_cons_succ, List.getElem_toArray, List.getElem_cons_zero, List.getElem_cons_succ]
  refine' wpAnyH_take (i := 6) (oi := _) (v := _) rfl (by kernel_rfl) (by kernel_rfl) (by kernel_rfl) (fun _ _ _ h => h) (Or.inl ⟨by rfl, ?hz7⟩) (by assumption) ?rezt7
  case hz7 => (intro w' hSw; (try dsimp only at hSw); go_simp; try with_reducible rfl)
  try simp only [Act.put, List.setIfInBounds_toArray, List.set_cons_zero, List.set_cons_succ, List.getElem_toArray, List.getElem_cons_zero, List.getElem_cons_succ]
  refine' wpAnyH_take (i := 7) (oi := _) (v := _) rfl (by kernel_rfl) (by kernel_rfl) (by kernel_rfl) (fun _ _ _ h => h) (Or.inl ⟨by rfl, ?hz8⟩) (by assumption) ?rezt8
  case hz8 => (intro w' hSw; (try dsimp only at hSw); go_simp; try with_reducible rfl)
  try simp only [Act.put, List.setIfInBounds_toArray, List.set_cons_zero, List.set_cons_succ, List.getElem_toArray, List.getElem_cons_zero, List.getElem_cons_succ]
  refine' wpAnyH_take (i := 8) (oi := _) (v := _) rfl (by kernel_rfl) (by kernel_rfl) (by kernel_rfl) (fun _ _ _ h => h) (Or.inl ⟨by rfl, ?hz9⟩) (by assumption) ?rezt9
  case hz9 => (intro w' hSw; (try dsimp only at hSw); go_simp; try with_reducible rfl)
  try simp only [Act.put, List.setIfInBounds_toArray, List.set_cons_zero, List.set_cons_succ, List.getElem_toArray, List.getElem_cons_zero, List.getElem_cons_succ]
  refine' wpAnyH_take (i := 9) (oi := _) (v := _) rfl (by kernel_rfl) (by kernel_rfl) (by kernel_rfl) (fun _ _ _ h => h) (Or.inl ⟨by rfl, ?hz10⟩) (by assumption) ?rezt10
  case hz10 => (intro w' hSw; (try dsimp only at hSw); go_simp; try with_reducible rfl)
  try simp only [Act.put, List.setIfInBounds_toArray, List.set_cons_zero, List.set_cons_succ, List.getElem_toArray, List.getElem_cons_zero, List.getElem_cons_succ]
  refine' wpAnyH_take (i := 10) (oi := _) (v := _) rfl (by kernel_rfl) (by kernel_rfl) (by kernel_rfl) (fun _ _ _ h => h) (Or.inl ⟨by rfl, ?hz11⟩) (by assumption) ?rezt11
  case hz11 => (intro w' hSw; (try dsimp only at hSw); go_simp; try with_reducible rfl)
  try simp only [Act.put, List.setIfInBounds_toArray, List.set_cons_zero, List.set_cons_succ, List.getElem_toArray, List.getElem_cons_zero, List.getElem_cons_succ]
  refine' wpAnyH_take (i := 11) (oi := _) (v := _) rfl (by kernel_rfl) (by kernel_rfl) (by kernel_rfl) (fun _ _ _ h => h) (Or.inl ⟨by rfl, ?hz12⟩) (by assumption) ?rezt12
  case hz12 => (intro w' hSw; (try dsimp only at hSw); go_simp; try with_reducible rfl)
  try simp only [Act.put, List.setIfInBounds_toArray, List.set_cons_zero, List.set_cons_succ, List.getElem_toArray, List.getElem_cons_zero, List.getElem_cons_succ]
  refine wpAnyH_done (by kernel_rfl) ?_ _
  clear e1 e2 K0 K1
  have hbd : Below w.heap.size w w.drew := (Below.refl _ w).drew
  have HPd := Lib.hid (HP.out.keep hbd)
  clear HP
  obtain ⟨wd, hwd⟩ : ∃ W, W = w.drew := ⟨_, rfl⟩
  rw [← hwd] at HPd hbd ⊢
  clear hwd
  go_wp2_with fail
  refine (pmany_any _ g gb c M.h L X HPd.out (by rw [HI.out.len]; omega)).mono ?_
  rintro e w1 ⟨rfl, rfl⟩
  rw [HMN.out]
  go_wp2_with fail
  go_loop [3, 20] (fun t i => ∃ j : Nat, j ≤ M.k ∧ i = .int .i64 j ∧ t = .int .i64 ((M.n : Int) - (M.h : Int) - 2 - (takenC (M.C.take j) : Int))) (fun _ i => M.k - (intOf i).toNat)
  case atStart => exact ⟨0, Nat.zero_le _, rfl, by simp [takenC]⟩
  case round =>
    obtain ⟨j, hj, rfl, rfl⟩ := hrel
    by_cases hlt : j < M.k
    · have hst := takenC_take (C := M.C) (i := j) hlt
      have hcl : M.C.getD j [] = M.cl j := rfl
      rw [hcl] at hst
      clear hcl
      have HST := Lib.hid hst
      have hq := HG.out.hi j hlt
      have htk := takenC_le (C := M.C.take j) 4096 (fun d hd => HG.out.clen d (List.mem_of_mem_take hd))
      have htl : (M.C.take j).length ≤ 2047 := by rw [List.length_take]; show min j M.k ≤ 2047; omega
      have htk2 : takenC (M.C.take j) ≤ 8400000 := by
        have : (4 + 4096) * (M.C.take j).length ≤ 4100 * 2047 := Nat.mul_le_mul_left _ htl
        omega
      obtain ⟨q, hq'⟩ : ∃ q, M.pl j = q := ⟨_, rfl⟩
      have HS := Lib.hid (HI.out.slots j hlt)
      have HLE := Lib.hid (HI.out.lens j hlt)
      obtain ⟨t, ht⟩ : ∃ t, takenC (M.C.take j) = t := ⟨_, rfl⟩
      obtain ⟨m, hm⟩ : ∃ m, (M.cl j).length = m := ⟨_, rfl⟩
      rw [hm, ht] at HST
      rw [hq'] at HS HLE hq
      rw [hm] at HLE hq
      rw [ht] at htk2 ⊢
      have hj1 : (j : Int) ≤ 70000 := by omega
      have hlt' : (j : Int) < (M.k : Int) := by omega
      clear hst hq' ht htk htl hm
      go_wp2_with fail
      refine (pspan_any _ g gb c M.h L X HPd.out hh j q (by rw [HI.out.len]; omega) (by rw [HI.out.len]; exact hn1) HS.out (by rw [HI.out.len]; omega)).mono ?_
      rintro e w1 ⟨rfl, rfl⟩
      rw [HLE.out]
      go_wp2_with fail
      go_round
      case rel => exact ⟨j + 1, by omega, by go_num, by rw [HST.out]; congr 1; omega⟩
      case measure => simp [intOf]; omega
    · obtain rfl : j = M.k := by omega
      have ht : (M.n : Int) - (M.h : Int) - 2 - (takenC (M.C.take M.k) : Int) = M.left := by unfold Mdl.left Mdl.k; rw [List.take_length]
      rw [ht]
      clear ht
      go_wp2_with fail
      go_ret
      exact ⟨rfl, hbd⟩
end Go.Proofs.Ytoeaffmlolapnaa
