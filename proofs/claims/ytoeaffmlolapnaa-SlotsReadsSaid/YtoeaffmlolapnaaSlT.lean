/- Walk over a page: Remove. Printed by genSt.py. -/
import Derived.Test.YtoeaffmlolapnaaSlS
namespace Go.Proofs.Ytoeaffmlolapnaa
open Go.RowKit
set_option maxRecDepth 100000
set_option linter.unusedVariables false
set_option linter.unusedSimpArgs false
set_option linter.unnecessarySimpa false

def remM (M : Mdl) (i : Int) : Mdl × Int := if i < 0 ∨ (M.k : Int) ≤ i then (M, 1) else (M.del i.toNat, 0)

set_option maxHeartbeats 32000000 in
theorem pRem_any (w : World) (g gb c : Nat) (L : List Int) (X : List Value) (M : Mdl) (hp : Pg w g gb c M.h L X) (hi : IsP L M) (hg : Good M) (i : Int) (i0 : -9223372036854775808 ≤ i) (i1 : i ≤ 9223372036854775807) (R : Ending → World → Prop) (hR : R = DeedBack g gb c X w (remM M i)) :
    Calls Try.prog 30 #[.pointer (some ⟨g, 0, none⟩), .int .i64 i] w R := by
  have HR := Lib.hid hR; clear hR
  have HP := Lib.hid hp
  have HI := Lib.hid hi
  have HG := Lib.hid hg
  have hn1 := hg.n1
  have hh := hg.h1
  have hfit := hg.fit
  have hk := hg.kle
  unfold Mdl.used at hfit
  have HLN := Lib.hid hi.len
  have HMN := Lib.hid hi.many
  clear hp hi hg
  have same : remM M i = (M, 1) → R (.returned (.int .i64 1)) w := fun h2 => by
    rw [HR.out, h2]
    exact ⟨rfl, HG.out, L, ⟨HP.out, Mut.refl _ _⟩, HI.out⟩
  have SAME := Lib.hid same
  clear same
  by_cases hneg : i < 0
  · have HF := Lib.hid (show remM M i = (M, 1) from if_pos (.inl hneg))
    go_enter Try.func30, Try.ntmps30
    go_wp2
    exact SAME.out HF.out
  by_cases hbig : (M.k : Int) ≤ i
  · have HF := Lib.hid (show remM M i = (M, 1) from if_pos (.inr hbig))
    go_enter Try.func30, Try.ntmps30
    go_wp2_with fail
    refine (pmany_any _ g gb c M.h L X HP.out (by rw [HLN.out]; omega)).mono ?_
    rintro e w1 ⟨rfl, rfl⟩
    rw [HMN.out]
    go_wp2
    exact SAME.out HF.out
  obtain ⟨j, rfl⟩ := Int.eq_ofNat_of_zero_le (show 0 ≤ i by omega)
  have HF := Lib.hid (show remM M (j : Int) = (M.del j, 0) by unfold remM; rw [if_neg (by omega), Int.toNat_natCast])
  have hjk : j < M.k := by omega
  have hq := HG.out.hi j hjk
  have hlo : M.h + 2 + 2 * M.k ≤ M.pl j := HG.out.lo j hjk
  have hs := HI.out.slots j hjk
  have hle := HI.out.lens j hjk
  obtain ⟨q, hq'⟩ : ∃ q, M.pl j = q := ⟨_, rfl⟩
  obtain ⟨m, hm⟩ : ∃ m, (M.cl j).length = m := ⟨_, rfl⟩
  rw [hq'] at hq hlo hs hle
  rw [hm] at hq hle
  have HS0 := Lib.hid hs
  have HLE := Lib.hid hle
  have HQ := Lib.hid hq'
  have HM := Lib.hid hm
  have m0 := HP.out.m0
  rw [HLN.out] at m0
  have hlc := HP.out.len
  rw [HLN.out] at hlc
  have hc0 := run_cut (some ⟨gb, 0, none⟩) M.n c q (2 + m) (by omega)
  rw [show (q : Int) + ((2 + m : Nat) : Int) = (q : Int) + 2 + (m : Int) by omega] at hc0
  obtain ⟨D0, hD0⟩ : ∃ D, cutA (some ⟨gb, 0, none⟩) c q = D := ⟨_, rfl⟩
  have HD0 := Lib.hid hD0
  rw [hD0] at hc0
  clear hs hle hq' hm hD0
  go_enter Try.func30, Try.ntmps30
  go_wp2_with fail
  refine (pmany_any _ g gb c M.h L X HP.out (by rw [HLN.out]; omega)).mono ?_
  rintro e w1 ⟨rfl, rfl⟩
  rw [HMN.out]
  go_wp2_with fail
  refine (pmany_any _ g gb c M.h L X HP.out (by rw [HLN.out]; omega)).mono ?_
  rintro e w1 ⟨rfl, rfl⟩
  rw [HMN.out]
  go_wp2_with fail
  refine (pspan_any _ g gb c M.h L X HP.out hh j q (by rw [HLN.out]; omega) (by rw [HLN.out]; exact hn1) HS0.out (by rw [HLN.out]; omega)).mono ?_
  rintro e w1 ⟨rfl, rfl⟩
  rw [HLE.out]
  go_upto_region 7 with fail
  iterate 25 go_step
  refine wp_clear_pg rfl (.tmp 35) rfl gb q (2 + m) (c - q) c L X (by rw [HD0.out]; rfl) HP.out.row HP.out.cap (by rw [HLN.out]; omega) ?_
  intro w5 hr5 hm5
  obtain ⟨A, hA⟩ : ∃ A, A = splice L q (List.replicate (2 + m) 0) := ⟨_, rfl⟩
  rw [← hA] at hr5
  have hAl : A.length = M.n := by rw [hA, splice_len (by rw [List.length_replicate, HLN.out]; omega), HLN.out]
  have hAb : IsB A := by rw [hA]; exact splice_isB HP.out.byts (isB_zeros _) _
  have HA := Lib.hid hA
  have HAL := Lib.hid hAl
  have HP5 := Lib.hid (HP.out.mut hm5 hr5 (by rw [hAl, HLN.out]) hAb)
  have HM5 := Lib.hid hm5
  clear hA hAl hAb hr5 hm5 m0 hc0 HD0
  have K0 : ∀ W : World, Mut w5 gb W → W.cell? ⟨g, 0, none⟩ = some (.slice (some ⟨gb, 0, none⟩) M.n c) := fun W hW => by
    have := heap_cell (i := 0) ((hW.block g HP5.out.lt.1 HP5.out.ne).trans HP5.out.head)
    rw [HAL.out] at this
    exact this
  have hc1 := run_cut (some ⟨gb, 0, none⟩) M.n c (M.h + 2 + 2 * j) (2 * (M.k - 1 - j)) (by omega)
  rw [show ((M.h + 2 + 2 * j : Nat) : Int) = (M.h : Int) + 2 + 2 * (j : Int) by omega, show (M.h : Int) + 2 + 2 * (j : Int) + ((2 * (M.k - 1 - j) : Nat) : Int) = (M.h : Int) + 2 + 2 * ((M.k : Int) - 1) by omega] at hc1
  have hc2 := run_cut (some ⟨gb, 0, none⟩) M.n c (M.h + 2 + 2 * (j + 1)) (2 * (M.k - 1 - j)) (by omega)
  rw [show ((M.h + 2 + 2 * (j + 1) : Nat) : Int) = (M.h : Int) + 2 + 2 * ((j : Int) + 1) by omega, show (M.h : Int) + 2 + 2 * ((j : Int) + 1) + ((2 * (M.k - 1 - j) : Nat) : Int) = (M.h : Int) + 2 + 2 * (M.k : Int) by omega] at hc2
  obtain ⟨D1, hD1⟩ : ∃ D, cutA (some ⟨gb, 0, none⟩) c (M.h + 2 + 2 * j) = D := ⟨_, rfl⟩
  obtain ⟨D2, hD2⟩ : ∃ D, cutA (some ⟨gb, 0, none⟩) c (M.h + 2 + 2 * (j + 1)) = D := ⟨_, rfl⟩
  have HD1 := Lib.hid hD1
  have HD2 := Lib.hid hD2
  rw [hD1] at hc1
  rw [hD2] at hc2
  clear hD1 hD2
  have hsS : ((A.drop (M.h + 2 + 2 * (j + 1))).take (2 * (M.k - 1 - j))).length = 2 * (M.k - 1 - j) := by rw [List.length_take, List.length_drop, HAL.out]; omega
  obtain ⟨S, hS⟩ : ∃ S, S = (A.drop (M.h + 2 + 2 * (j + 1))).take (2 * (M.k - 1 - j)) := ⟨_, rfl⟩
  rw [← hS] at hsS
  have HS := Lib.hid hS
  have HSS := Lib.hid hsS
  have hbd5 : Below w5.heap.size w5 w5.drew := (Below.refl _ w5).drew
  have HP5d := Lib.hid (HP5.out.keep hbd5)
  have HRS := Lib.hid (show Rd w5.drew D2 S by rw [← HD2.out, HS.out]; exact cutA_rd HP5d.out.rd c _ _ (by rw [HAL.out]; exact hlc.1))
  have hj1 : (j : Int) + 1 ≤ 70000 ∧ (M.k : Int) + 1 ≤ 70000 ∧ 0 ≤ (M.k : Int) - 1 := by omega
  have e1 : IntKind.i64.wrap ((j : Int) + 1) = (j : Int) + 1 := IntWalk.i64_in _ (by omega)
  have e2 : IntKind.i64.wrap ((M.k : Int) - 1) = (M.k : Int) - 1 := IntWalk.i64_in _ (by omega)
  clear hS hsS
  go_upto_region 8 with fail
  refine wp_region_held_drew (S := (fun W => Mut w5 gb W)) (by kernel_rfl) ?_ (fun hHeld => ?_)
  · exact (Mut.refl w5 gb).drew
  refine' wpAnyH_take (i := 0) (oi := _) (v := _) rfl (by kernel_rfl) (by kernel_rfl) (by kernel_rfl) (fun _ _ _ h => h) (Or.inl ⟨by rfl, ?hz1⟩) (by assumption) ?rezt1
  case hz1 => (intro w' hSw; (try dsimp only at hSw); go_simp; try with_reducible rfl)
  try simp only [Act.put, List.setIfInBounds_toArray, List.set_cons_zero, List.set_cons_succ, List.getElem_toArray, List.getElem_cons_zero, List.getElem_cons_succ]
  refine' wpAnyH_take (i := 1) (oi := _) (v := _) rfl (by kernel_rfl) (by kernel_rfl) (by kernel_rfl) (fun _ _ _ h => h) (Or.inl ⟨by rfl, ?hz2⟩) (by assumption) ?rezt2
  case hz2 => (intro w' hSw; (try dsimp only at hSw); go_simp; try with_reducible rfl)
  try simp only [Act.put, List.setIfInBounds_toArray, List.set_cons_zero, List.set_cons_succ, List.getElem_toArray, List.getElem_cons_zero, List.getElem_cons_succ]
  refine' wpAnyH_take (i := 2) (oi := _) (v := _) rfl (by kernel_rfl) (by kernel_rfl) (by kernel_rfl) (fun _ _ _ h => h) (Or.inl ⟨by rfl, ?hz3⟩) (by assumption) ?rezt3
  case hz3 => (intro w' hSw; (try dsimp only at hSw); go_simp; try with_reducible rfl)
  try simp only [Act.put, List.setIfInBounds_toArray, List.set_cons_zero, List.set_cons_succ, List.getElem_toArray, List.getElem_cons_zero, List.getElem_cons_succ]
  refine' wpAnyH_take (i := 3) (oi := _) (v := _) rfl (by kernel_rfl) (by kernel_rfl) (by kernel_rfl) (fun _ _ _ h => h) (Or.inl ⟨by rfl, ?hz4⟩) (by assumption) ?rezt4
  case hz4 => (intro w' hSw; (try dsimp only at hSw); go_simp; try with_reducible rfl)
  try simp only [Act.put, List.setIfInBounds_toArray, List.set_cons_zero, List.set_cons_succ, List.getElem_toArray, List.getElem_cons_zero, List.getElem_cons_succ]
  refine' wpAnyH_take (i := 4) (oi := _) (v := _) rfl (by kernel_rfl) (by kernel_rfl) (by kernel_rfl) (fun _ _ _ h => h) (Or.inl ⟨by rfl, ?hz5⟩) (by assumption) ?rezt5
  case hz5 => (intro w' hSw; (try dsimp only at hSw); go_simp; try with_reducible rfl)
  try simp only [Act.put, List.setIfInBounds_toArray, List.set_cons_zero, List.set_cons_succ, List.getElem_toArray, List.getElem_cons_zero, List.getElem_cons_succ]
  refine' wpAnyH_take (i := 5) (oi := _) (v := _) rfl (by kernel_rfl) (by kernel_rfl) (by kernel_rfl) (fun _ _ _ h => h) (Or.inl ⟨by rfl, ?hz6⟩) (by assumption) ?rezt6
  case hz6 => (intro w' hSw; (try dsimp only at hSw); go_simp; try with_reducible rfl)
  try simp only [Act.put, List.setIfInBounds_toArray, List.set_cons_zero, List.set_cons_succ, List.getElem_toArray, List.getElem_cons_zero, List.getElem_cons_succ]
  refine' wpAnyH_take (i := 7) (oi := _) (v := _) rfl (by kernel_rfl) (by kernel_rfl) (by kernel_rfl) (fun _ _ _ h => h) (Or.inl ⟨by rfl, ?hz7⟩) (by assumption) ?rezt7
  case hz7 => (intro w' hSw; (try dsimp only at hSw); go_simp; try with_reducible rfl)
  try simp only [Act.put, List.setIfInBounds_toArray, List.set_cons_zero, List.set_cons_succ, List.getElem_toArray, List.getElem_cons_zero, List.getElem_cons_succ]
  refine' wpAnyH_take (i := 8) (oi := _) (v := _) rfl (by kernel_rfl) (by kernel_rfl) (by kernel_rfl) (fun _ _ _ h => h) (Or.inl ⟨by rfl, ?hz8⟩) (by assumption) ?rezt8
  case hz8 => (intro w' hSw; (try dsimp only at hSw); go_simp; try with_reducible rfl)
  try simp only [Act.put, List.setIfInBounds_toArray, List.set_cons_zero, List.set_cons_succ, List.getElem_toArray, List.getElem_cons_zero, List.getElem_cons_succ]
  refine' wpAnyH_take (i := 9) (oi := _) (v := _) rfl (by kernel_rfl) (by kernel_rfl) (by kernel_rfl) (fun _ _ _ h => h) (Or.inl ⟨by rfl, ?hz9⟩) (by assumption) ?rezt9
  case hz9 => (intro w' hSw; (try dsimp only at hSw); go_simp; try with_reducible rfl)
  try simp only [Act.put, List.setIfInBounds_toArray, List.set_cons_zero, List.set_cons_succ, List.getElem_toArray, List.getElem_cons_zero, List.getElem_cons_succ]
  refine' wpAnyH_take (i := 12) (oi := _) (v := _) rfl (by kernel_rfl) (by kernel_rfl) (by kernel_rfl) (fun _ _ _ h => h) (Or.inl ⟨by rfl, ?hz10⟩) (by assumption) ?rezt10
  case hz10 => (intro w' hSw; (try dsimp only at hSw); go_simp; try with_reducible rfl)
  try simp only [Act.put, List.setIfInBounds_toArray, List.set_cons_zero, List.set_cons_succ, List.getElem_toArray, List.getElem_cons_zero, List.getElem_cons_succ]
  refine' wpAnyH_take (i := 13) (oi := _) (v := _) rfl (by kernel_rfl) (by kernel_rfl) (by kernel_rfl) (fun _ _ _ h => h) (Or.inl ⟨by rfl, ?hz11⟩) (by assumption) ?rezt11
  case hz11 => (intro w' hSw; (try dsimp only at hSw); go_simp; try with_reducible rfl)
  try simp only [Act.put, List.setIfInBounds_toArray, List.set_cons_zero, List.set_cons_succ, List.getElem_toArray, List.getElem_cons_zero, List.getElem_cons_succ]
  refine' wpAnyH_take (i := 14) (oi := _) (v := _) rfl (by kernel_rfl) (by kernel_rfl) (by kernel_rfl) (fun _ _ _ h => h) (Or.inl ⟨by rfl, ?hz12⟩) (by assumption) ?rezt12
  case hz12 => (intro w' hSw; (try dsimp only at hSw); go_simp; try with_reducible rfl)
  try simp only [Act.put, List.setIfInBounds_toArray, List.set_cons_zero, List.set_cons_succ, List.getElem_toArray, List.getElem_cons_zero, List.getElem_cons_succ]
  refine' wpAnyH_take (i := 15) (oi := _) (v := _) rfl (by kernel_rfl) (by kernel_rfl) (by kernel_rfl) (fun _ _ _ h => h) (Or.inl ⟨by rfl, ?hz13⟩) (by assumption) ?rezt13
  case hz13 => (intro w' hSw; (try dsimp only at hSw); go_simp; try with_reducible rfl)
  try simp only [Act.put, List.setIfInBounds_toArray, List.set_cons_zero, List.set_cons_succ, List.getElem_toArray, List.getElem_cons_zero, List.getElem_cons_succ]
  refine' wpAnyH_take (i := 16) (oi := _) (v := _) rfl (by kernel_rfl) (by kernel_rfl) (by kernel_rfl) (fun _ _ _ h => h) (Or.inl ⟨by rfl, ?hz14⟩) (by assumption) ?rezt14
  case hz14 => (intro w' hSw; (try dsimp only at hSw); go_simp; try with_reducible rfl)
  try simp only [Act.put, List.setIfInBounds_toArray, List.set_cons_zero, List.set_cons_succ, List.getElem_toArray, List.getElem_cons_zero, List.getElem_cons_succ]
  refine' wpAnyH_take (i := 17) (oi := _) (v := _) rfl (by kernel_rfl) (by kernel_rfl) (by kernel_rfl) (fun _ _ _ h => h) (Or.inl ⟨by rfl, ?hz15⟩) (by assumption) ?rezt15
  case hz15 => (intro w' hSw; (try dsimp only at hSw); go_simp; try with_reducible rfl)
  try simp only [Act.put, List.setIfInBounds_toArray, List.set_cons_zero, List.set_cons_succ, List.getElem_toArray, List.getElem_cons_zero, List.getElem_cons_succ]
  refine' wpAnyH_take (i := 18) (oi := _) (v := _) rfl (by kernel_rfl) (by kernel_rfl) (by kernel_rfl) (fun _ _ _ h => h) (Or.inl ⟨by rfl, ?hz16⟩) (by assumption) ?rezt16
  case hz16 => (intro w' hSw; (try dsimp only at hSw); go_simp; try with_reducible rfl)
  try simp only [Act.put, List.setIfInBounds_toArray, List.set_cons_zero, List.set_cons_succ, List.getElem_toArray, List.getElem_cons_zero, List.getElem_cons_succ]
  refine' wpAnyH_take (i := 20) (oi := _) (v := _) rfl (by kernel_rfl) (by kernel_rfl) (by kernel_rfl) (fun _ _ _ h => h) (Or.inl ⟨by rfl, ?hz17⟩) (by assumption) ?rezt17
  case hz17 => (intro w' hSw; (try dsimp only at hSw); go_simp; try with_reducible rfl)
  try simp only [Act.put, List.setIfInBounds_toArray, List.set_cons_zero, List.set_cons_succ, List.getElem_toArray, List.getElem_cons_zero, List.getElem_cons_succ]
  refine' wpAnyH_take (i := 21) (oi := _) (v := _) rfl (by kernel_rfl) (by kernel_rfl) (by kernel_rfl) (fun _ _ _ h => h) (Or.inl ⟨by rfl, ?hz18⟩) (by assumption) ?rezt18
  case hz18 => (intro w' hSw; (try dsimp only at hSw); go_simp; try with_reducible rfl)
  try simp only [Act.put, List.setIfInBounds_toArray, List.set_cons_zero, List.set_cons_succ, List.getElem_toArray, List.getElem_cons_zero, List.getElem_cons_succ]
  refine wpAnyH_ready (rs := [6]) (by kernel_rfl) (by simp) ?_
  refine AllReadyH.cons (o := _) rfl (fun K hK => ?_) AllReadyH.nil
  go_simp
  go_at_call 68
  refine (pslot_any _ g gb c M.h A X HP5d.out hh (j : Int) (by omega) (by omega)).mono ?_
  rintro e w6 ⟨rfl, rfl⟩
  refine hK.out _ _ ?_ (fun hHeld => ?_)
  · exact (Mut.refl w5 gb).drew
  clear hK K
  try simp only [Act.put, List.setIfInBounds_toArray, List.set_cons_zero, List.set_cons_succ, List.getElem_toArray, List.getElem_cons_zero, List.getElem_cons_succ]
  refine wpAnyH_ready (rs := [10]) (by kernel_rfl) (by simp) ?_
  refine AllReadyH.cons (o := _) rfl (fun K hK => ?_) AllReadyH.nil
  go_simp
  go_at_call 68
  refine (pslot_any _ g gb c M.h A X HP5d.out hh ((M.k : Int) - 1) (by omega) (by omega)).mono ?_
  rintro e w6 ⟨rfl, rfl⟩
  refine hK.out _ _ ?_ (fun hHeld => ?_)
  · exact (Mut.refl w5 gb).drew
  clear hK K
  try simp only [Act.put, List.setIfInBounds_toArray, List.set_cons_zero, List.set_cons_succ, List.getElem_toArray, List.getElem_cons_zero, List.getElem_cons_succ]
  refine' wpAnyH_take (i := 11) (oi := _) (v := _) rfl (by kernel_rfl) (by kernel_rfl) (by kernel_rfl) (fun _ _ _ h => h) (Or.inl ⟨by rfl, ?hz19⟩) (by assumption) ?rezt19
  case hz19 => (intro w' hSw; (try dsimp only at hSw); go_simp; try with_reducible rfl)
  try simp only [Act.put, List.setIfInBounds_toArray, List.set_cons_zero, List.set_cons_succ, List.getElem_toArray, List.getElem_cons_zero, List.getElem_cons_succ]
  refine wpAnyH_ready (rs := [19]) (by kernel_rfl) (by simp) ?_
  refine AllReadyH.cons (o := _) rfl (fun K hK => ?_) AllReadyH.nil
  go_simp
  go_at_call 68
  refine (pslot_any _ g gb c M.h A X HP5d.out hh ((j : Int) + 1) (by omega) (by omega)).mono ?_
  rintro e w6 ⟨rfl, rfl⟩
  refine hK.out _ _ ?_ (fun hHeld => ?_)
  · exact (Mut.refl w5 gb).drew
  clear hK K
  try simp only [Act.put, List.setIfInBounds_toArray, List.set_cons_zero, List.set_cons_succ, List.getElem_toArray, List.getElem_cons_zero, List.getElem_cons_succ]
  refine wpAnyH_ready (rs := [22]) (by kernel_rfl) (by simp) ?_
  refine AllReadyH.cons (o := _) rfl (fun K hK => ?_) AllReadyH.nil
  go_simp
  go_at_call 68
  refine (pslot_any _ g gb c M.h A X HP5d.out hh (M.k : Int) (by omega) (by omega)).mono ?_
  rintro e w6 ⟨rfl, rfl⟩
  refine hK.out _ _ ?_ (fun hHeld => ?_)
  · exact (Mut.refl w5 gb).drew
  clear hK K
  try simp only [Act.put, List.setIfInBounds_toArray, List.set_cons_zero, List.set_cons_succ, List.getElem_toArray, List.getElem_cons_zero, List.getElem_cons_succ]
  refine' wpAnyH_take (i := 23) (oi := _) (v := _) rfl (by kernel_rfl) (by kernel_rfl) (by kernel_rfl) (fun _ _ _ h => h) (Or.inl ⟨by rfl, ?hz20⟩) (by assumption) ?rezt20
  case hz20 => (intro w' hSw; (try dsimp only at hSw); go_simp; try with_reducible rfl)
  try simp only [Act.put, List.setIfInBounds_toArray, List.set_cons_zero, List.set_cons_succ, List.getElem_toArray, List.getElem_cons_zero, List.getElem_cons_succ]
  refine wpAnyH_ready (rs := [24]) (by kernel_rfl) (by simp) ?_
  refine AllReadyH.cons (o := _) rfl (fun K hK => ?_) AllReadyH.nil
  refine step_copy_pg rfl (.tmp 47) (.tmp 59) rfl gb (M.h + 2 + 2 * j) (2 * (M.k - 1 - j)) (c - (M.h + 2 + 2 * j)) c A S X (by rw [HD1.out]; rfl) HP5d.out.row HP5.out.cap (by rw [HAL.out]; omega) D2 (2 * (M.k - 1 - j)) (c - (M.h + 2 + 2 * (j + 1))) rfl HSS.out (Nat.le_refl _) HRS.out ?_
  intro w7 hr7 hm7
  have hm7' : Mut w5 gb w7 := (Mut.of hbd5 gb).trans hm7
  refine hK.out _ _ ?_ (fun hHeld => ?_)
  · exact hm7'
  clear hK K
  try simp only [Act.put, List.setIfInBounds_toArray, List.set_cons_zero, List.set_cons_succ, List.getElem_toArray, List.getElem_cons_zero, List.getElem_cons_succ]
  refine wpAnyH_done (by kernel_rfl) ?_ _
  obtain ⟨B, hB'⟩ : ∃ B, B = splice A (M.h + 2 + 2 * j) S := ⟨_, rfl⟩
  rw [← hB'] at hr7
  have hBl : B.length = A.length := by rw [hB']; exact splice_len (by rw [HSS.out, HAL.out]; omega)
  have hBb : IsB B := by rw [hB', HS.out]; exact splice_isB HP5.out.byts (isB_dt HP5.out.byts _ _) _
  have HP7 := Lib.hid (HP5.out.mut hm7' hr7 hBl hBb)
  have HM7 := Lib.hid (HM5.out.trans hm7')
  have HBE := Lib.hid hB'
  have HBL := Lib.hid (hBl.trans HAL.out)
  clear hB' hBl hBb hr7 hm7 hm7' K0 hc1 hc2 HD1 HD2 HRS HP5d hbd5 e1 e2
  go_wp2_with fail
  refine (pslot_any _ g gb c M.h B X HP7.out hh ((M.k : Int) - 1) (by omega) (by omega)).mono ?_
  rintro e w8 ⟨rfl, rfl⟩
  rw [show (M.h : Int) + 2 + 2 * ((M.k : Int) - 1) = ((M.h + 2 + 2 * (M.k - 1) : Nat) : Int) by omega]
  go_wp2_with fail
  refine (pset_any _ g gb c M.h B X HP7.out (M.h + 2 + 2 * (M.k - 1)) 0 (by rw [HBL.out]; omega) (by omega) (by omega)).mono ?_
  rintro e w8 ⟨rfl, hp8, hm8⟩
  obtain ⟨D, hD⟩ : ∃ D, D = splice B (M.h + 2 + 2 * (M.k - 1)) (fxL 0 2) := ⟨_, rfl⟩
  rw [← hD] at hp8
  have HP8 := Lib.hid hp8
  have HDE := Lib.hid hD
  have HDL := Lib.hid (show D.length = M.n by rw [hD, set_len (by rw [HBL.out]; omega), HBL.out])
  have HM8 := Lib.hid (HM7.out.trans hm8)
  have m1 := hp8.m1
  clear hp8 hD hm8
  go_wp2_with fail
  refine (pset_any _ g gb c M.h D X HP8.out M.h ((M.k : Int) - 1) (by rw [HDL.out]; omega) (by omega) (by omega)).mono ?_
  rintro e w9 ⟨rfl, hp9, hm9⟩
  obtain ⟨z1, z2, z3⟩ := del_page HG.out HI.out hjk HQ.out HM.out
  have z5 : splice D M.h (fxL ((M.k : Int) - 1) 2) = delL M.h M.k j q m L := by
    rw [HDE.out, HBE.out, HS.out, HA.out]
    rfl
  rw [z5] at hp9
  have hM9 := HM8.out.trans hm9
  clear hm9 m1
  go_wp2
  rw [HR.out, HF.out]
  exact ⟨rfl, HG.out.del hjk, _, ⟨hp9, hM9⟩, z1⟩
end Go.Proofs.Ytoeaffmlolapnaa
