/- Walk over a page: Insert. Printed by genSs.py. -/
import Derived.Test.YtoeaffmlolapnaaSlR
namespace Go.Proofs.Ytoeaffmlolapnaa
open Go.RowKit
set_option maxRecDepth 100000
set_option linter.unusedVariables false
set_option linter.unusedSimpArgs false
set_option linter.unnecessarySimpa false

def Mdl.room1 (M : Mdl) (m : Nat) : Mdl := if (M.top : Int) - 2 - m < (M.used (M.k + 1) : Int) then M.pack else M
def insM (M : Mdl) (i : Int) (c : List Int) : Mdl × Int :=
  if i < 0 ∨ (M.k : Int) < i then (M, 1) else if M.left < 4 + (c.length : Int) then (M, 5) else ((M.room1 c.length).ins i.toNat ((M.room1 c.length).top - 2 - c.length) c, 0)
theorem pack_top {M : Mdl} (g : Good M) : M.n - sz M.C ≤ M.pack.top := by
  refine minP_ge (fun p hp => ?_) (Nat.sub_le _ _)
  obtain ⟨i, _, rfl⟩ := List.mem_map.1 hp
  have := sz_take_le M.C (i + 1)
  unfold Mdl.pk
  omega
theorem left_sz (M : Mdl) : M.left = (M.n : Int) - (M.used M.k : Int) - (sz M.C : Int) := by
  have := taken_sz M.C
  unfold Mdl.left Mdl.used Mdl.k
  omega
theorem room1_ok {M : Mdl} (g : Good M) {m : Nat} (h : ¬ M.left < 4 + (m : Int)) : Good (M.room1 m) ∧ (M.room1 m).k = M.k ∧ (M.room1 m).h = M.h ∧ (M.room1 m).n = M.n ∧ (M.room1 m).C = M.C ∧ M.used (M.k + 1) + 2 + m ≤ (M.room1 m).top ∧ M.used (M.k + 1) + sz M.C + (2 + m) ≤ M.n := by
  have hu : M.used (M.k + 1) = M.used M.k + 2 := rfl
  rw [left_sz] at h
  unfold Mdl.room1
  by_cases h1 : (M.top : Int) - 2 - m < (M.used (M.k + 1) : Int)
  · rw [if_pos h1]
    have := pack_top g
    exact ⟨g.packed, rfl, rfl, rfl, rfl, by omega, by omega⟩
  · rw [if_neg h1]
    exact ⟨g, rfl, rfl, rfl, rfl, by omega, by omega⟩
/-- What comes back of a deed: a number, and the page as the document's is. -/
def DeedBack (g gb c : Nat) (X : List Value) (w : World) (r : Mdl × Int) (e : Ending) (w' : World) : Prop :=
  e = .returned (.int .i64 r.2) ∧ Good r.1 ∧ ∃ L', PgBack g gb c r.1.h X w L' w' ∧ IsP L' r.1

set_option maxHeartbeats 32000000 in
theorem pIns_any (w : World) (g gb c : Nat) (L : List Int) (X : List Value) (M : Mdl) (hp : Pg w g gb c M.h L X) (hi : IsP L M) (hg : Good M) (i : Int) (i0 : -9223372036854775808 ≤ i) (i1 : i ≤ 9223372036854775807) (sp : Option Addr) (m sc : Nat) (cs : List Int) (hm : cs.length = m) (hmx : m ≤ 1000000) (hrd : Rd w sp cs) (hB : IsB cs) (hne : ∀ a, sp = some a → cs ≠ [] → a.block ≠ gb) (R : Ending → World → Prop) (hR : R = DeedBack g gb c X w (insM M i cs)) :
    Calls Try.prog 29 #[.pointer (some ⟨g, 0, none⟩), .int .i64 i, .slice sp m sc] w R := by
  have HR := Lib.hid hR; clear hR
  have HP := Lib.hid hp
  have HI := Lib.hid hi
  have HG := Lib.hid hg
  have HM := Lib.hid hm
  have HRD := Lib.hid hrd
  have HNE := Lib.hid hne
  have hn1 := hg.n1
  have hh := hg.h1
  have hfit := hg.fit
  have hk := hg.kle
  unfold Mdl.used at hfit
  have HLN := Lib.hid hi.len
  have HMN := Lib.hid hi.many
  have hb := left_bd hg
  clear hp hi hg hm hrd hne
  have same : ∀ W z, Below w.heap.size w W → insM M i cs = (M, z) → R (.returned (.int .i64 z)) W := fun W z h1 h2 => by
    rw [HR.out, h2]
    exact ⟨rfl, HG.out, L, ⟨HP.out.keep h1, Mut.of h1 gb⟩, HI.out⟩
  have SAME := Lib.hid same
  clear same
  by_cases hneg : i < 0
  · have HF := Lib.hid (show insM M i cs = (M, 1) from if_pos (.inl hneg))
    go_enter Try.func29, Try.ntmps29
    go_wp2
    exact SAME.out _ _ (Below.refl _ _) HF.out
  by_cases hbig : (M.k : Int) < i
  · have HF := Lib.hid (show insM M i cs = (M, 1) from if_pos (.inr hbig))
    go_enter Try.func29, Try.ntmps29
    go_wp2_with fail
    refine (pmany_any _ g gb c M.h L X HP.out (by rw [HLN.out]; omega)).mono ?_
    rintro e w1 ⟨rfl, rfl⟩
    rw [HMN.out]
    go_wp2
    exact SAME.out _ _ (Below.refl _ _) HF.out
  have hF0 : insM M i cs = if M.left < 4 + (m : Int) then (M, 5) else ((M.room1 m).ins i.toNat ((M.room1 m).top - 2 - m) cs, 0) := by
    unfold insM
    rw [if_neg (by omega), HM.out]
  have HF0 := Lib.hid hF0
  clear hF0
  obtain ⟨j, rfl⟩ := Int.eq_ofNat_of_zero_le (show 0 ≤ i by omega)
  have hjk : j ≤ M.k := by omega
  go_enter Try.func29, Try.ntmps29
  go_wp2_with fail
  refine (pmany_any _ g gb c M.h L X HP.out (by rw [HLN.out]; omega)).mono ?_
  rintro e w1 ⟨rfl, rfl⟩
  rw [HMN.out]
  go_wp2_with fail
  refine (pleft_any _ g gb c L X M HP.out HI.out HG.out).mono ?_
  rintro e w1 ⟨rfl, hb1⟩
  have HP1 := Lib.hid (HP.out.keep hb1)
  have HRD1 := Lib.hid (HRD.out.keep hb1)
  by_cases hfull : M.left < 4 + (m : Int)
  · have HF := Lib.hid (show insM M (j : Int) cs = (M, 5) by rw [HF0.out]; exact if_pos hfull)
    obtain ⟨t, ht⟩ : ∃ t, M.left = t := ⟨_, rfl⟩
    rw [ht] at hfull hb ⊢
    clear ht
    go_wp2
    exact SAME.out _ _ hb1 HF.out
  obtain ⟨q1, q2, q3, q4, q5, q6, q7⟩ := room1_ok HG.out hfull
  have HF := Lib.hid (show insM M (j : Int) cs = ((M.room1 m).ins j ((M.room1 m).top - 2 - m) cs, 0) by rw [HF0.out, if_neg hfull, Int.toNat_natCast])
  have hm4 : m ≤ 4096 := by omega
  clear HF0
  have hu1 : M.used (M.k + 1) = M.h + 2 + 2 * (M.k + 1) := rfl
  obtain ⟨M1, hM1⟩ : ∃ M1, M.room1 m = M1 := ⟨_, rfl⟩
  have HRM := Lib.hid (show M1 = if (M.top : Int) - 2 - m < (M.used (M.k + 1) : Int) then M.pack else M from hM1.symm)
  rw [hM1] at q1 q2 q3 q4 q5 q6 HF
  clear hM1
  rw [hu1] at q6 q7 HRM
  have htn := top_n M
  have htn1 := top_n M1
  rw [q4] at htn1
  have HG1 := Lib.hid q1
  have HQ2 := Lib.hid q2
  have HQ3 := Lib.hid q3
  have HQ4 := Lib.hid q4
  have HQ5 := Lib.hid q5
  clear q1 q2 q3 q4 q5 hu1
  -- the page has room at its front
  obtain ⟨tl, htl⟩ : ∃ t, M.left = t := ⟨_, rfl⟩
  rw [htl] at hfull hb ⊢
  clear htl
  go_wp2_with fail
  refine (pmany_any _ g gb c M.h L X HP1.out (by rw [HLN.out]; omega)).mono ?_
  rintro e w2 ⟨rfl, rfl⟩
  rw [HMN.out]
  go_wp2_with fail
  refine (ptop_any _ g gb c L X M HP1.out HI.out HG.out).mono ?_
  rintro e w2 ⟨rfl, rfl⟩
  obtain ⟨tp, htp⟩ : ∃ t, M.top = t := ⟨_, rfl⟩
  rw [htp] at HRM htn ⊢
  go_wp2_with fail
  refine (pslot_any _ g gb c M.h L X HP1.out hh ((M.k : Int) + 1) (by omega) (by omega)).mono ?_
  rintro e w2 ⟨rfl, rfl⟩
  by_cases hpk : (tp : Int) - 2 - (m : Int) < (M.h : Int) + 2 + 2 * ((M.k : Int) + 1)
  · have hM1 : M1 = M.pack := by rw [HRM.out]; exact if_pos (by omega)
    clear HRM htp
    go_wp2_with fail
    refine (pPack_any _ g gb c L X M HP1.out HI.out HG.out).mono ?_
    rintro e w3 ⟨rfl, L1, ⟨hp3, hm3⟩, hi3⟩
    rw [← hM1] at hi3
    rw [← HQ3.out] at hp3
    have HP3 := Lib.hid hp3
    have HI3 := Lib.hid hi3
    have HM3 := Lib.hid ((Mut.of hb1 gb).trans hm3)
    have HRD3 := Lib.hid (HRD1.out.mut hm3 HNE.out)
    clear hM1 hp3 hi3 hm3
    have HL1 := Lib.hid HI3.out.len
    rw [HQ4.out] at HL1
    clear hb1 HP1 HRD1 HP HI HRD
    obtain ⟨r, hr⟩ : ∃ r, M1.top - 2 - m = r := ⟨_, rfl⟩
    rw [hr] at HF
    have htop : (M1.top : Int) = (r : Int) + 2 + (m : Int) := by omega
    have hrq : r + 2 + m ≤ M1.top := by omega
    have HRQ := Lib.hid hrq
    have hrn : r + 2 + m ≤ M.n := by omega
    have hru : M.h + 2 + 2 * (M.k + 1) ≤ r := by omega
    have hr65 : (r : Int) ≤ 65535 := by omega
    have HTOP := Lib.hid htop
    clear hr htop hrq q6
    go_wp2_with fail
    refine (ptop_any _ g gb c L1 X M1 HP3.out HI3.out HG1.out).mono ?_
    rintro e w4 ⟨rfl, rfl⟩
    rw [HTOP.out]
    clear hpk
    go_wp2_with fail
    refine (play_any _ g gb c M1.h L1 X HP3.out (by rw [HL1.out]; exact hn1) r m sp sc cs (by rw [HL1.out]; exact hrn) HM.out HRD3.out hB HNE.out).mono ?_
    rintro e w5 ⟨rfl, hp5, hm5⟩
    obtain ⟨A, hA⟩ : ∃ A, A = layL L1 r cs := ⟨_, rfl⟩
    rw [← hA] at hp5
    have hAl : A.length = M.n := by rw [hA, layL_len (by rw [HM.out, HL1.out]; exact hrn), HL1.out]
    have HA := Lib.hid hA
    have HAL := Lib.hid hAl
    rw [HQ3.out] at hp5
    have HP5 := Lib.hid hp5
    have HM5 := Lib.hid (HM3.out.trans hm5)
    have m0 := hp5.m0
    rw [hAl] at m0
    have hlc := hp5.len
    rw [hAl] at hlc
    clear hA hAl hp5 hm5
    have K0 : ∀ W : World, Mut w5 gb W → W.cell? ⟨g, 0, none⟩ = some (.slice (some ⟨gb, 0, none⟩) M.n c) := fun W hW => by
      have := heap_cell (i := 0) ((hW.block g HP5.out.lt.1 HP5.out.ne).trans HP5.out.head)
      rw [HAL.out] at this
      exact this
    clear m0
    have hc1 := run_cut (some ⟨gb, 0, none⟩) M.n c (M.h + 2 + 2 * (j + 1)) (2 * (M.k - j)) (by omega)
    rw [show ((M.h + 2 + 2 * (j + 1) : Nat) : Int) = (M.h : Int) + 2 + 2 * ((j : Int) + 1) by omega, show (M.h : Int) + 2 + 2 * ((j : Int) + 1) + ((2 * (M.k - j) : Nat) : Int) = (M.h : Int) + 2 + 2 * ((M.k : Int) + 1) by omega] at hc1
    have hc2 := run_cut (some ⟨gb, 0, none⟩) M.n c (M.h + 2 + 2 * j) (2 * (M.k - j)) (by omega)
    rw [show ((M.h + 2 + 2 * j : Nat) : Int) = (M.h : Int) + 2 + 2 * (j : Int) by omega, show (M.h : Int) + 2 + 2 * (j : Int) + ((2 * (M.k - j) : Nat) : Int) = (M.h : Int) + 2 + 2 * (M.k : Int) by omega] at hc2
    obtain ⟨D1, hD1⟩ : ∃ D, cutA (some ⟨gb, 0, none⟩) c (M.h + 2 + 2 * (j + 1)) = D := ⟨_, rfl⟩
    obtain ⟨D2, hD2⟩ : ∃ D, cutA (some ⟨gb, 0, none⟩) c (M.h + 2 + 2 * j) = D := ⟨_, rfl⟩
    have HD1 := Lib.hid hD1
    have HD2 := Lib.hid hD2
    rw [hD1] at hc1
    rw [hD2] at hc2
    clear hD1 hD2
    have hsS : ((A.drop (M.h + 2 + 2 * j)).take (2 * (M.k - j))).length = 2 * (M.k - j) := by rw [List.length_take, List.length_drop, HAL.out]; omega
    obtain ⟨S, hS⟩ : ∃ S, S = (A.drop (M.h + 2 + 2 * j)).take (2 * (M.k - j)) := ⟨_, rfl⟩
    rw [← hS] at hsS
    have HS := Lib.hid hS
    have HSS := Lib.hid hsS
    have hbd5 : Below w5.heap.size w5 w5.drew := (Below.refl _ w5).drew
    have HP5d := Lib.hid (HP5.out.keep hbd5)
    have HRS := Lib.hid (show Rd w5.drew D2 S by rw [← HD2.out, HS.out]; exact cutA_rd HP5d.out.rd c _ _ (by rw [HAL.out]; exact hlc.1))
    have hj1 : (j : Int) + 1 ≤ 70000 ∧ (M.k : Int) + 1 ≤ 70000 := by omega
    have e1 : IntKind.i64.wrap ((j : Int) + 1) = (j : Int) + 1 := IntWalk.i64_in _ (by omega)
    have e2 : IntKind.i64.wrap ((M.k : Int) + 1) = (M.k : Int) + 1 := IntWalk.i64_in _ (by omega)
    clear hS hsS
    go_upto_region 10 with fail
    refine wp_region_held_drew (S := (fun W => Mut w5 gb W)) (by kernel_rfl) ?_ (fun hHeld => ?_)
    · exact (Mut.refl w5 gb).drew
    refine' wpAnyH_take (i := 0) (oi := _) (v := _) rfl (by kernel_rfl) (by kernel_rfl) (by kernel_rfl) (fun _ _ _ h => h) (Or.inl ⟨by rfl, ?hz1⟩) (by assumption) ?rezt1
    case hz1 => (intro w' hSw; (try dsimp only at hSw); go_simp; try with_reducible rfl)
    try simp only [Act.put, List.setIfInBounds_toArray, List.set_cons_zero, List.set_cons_succ, List.getElem_toArray, List.getElem_cons_zero, List.getElem_cons_succ]
    refine' wpAnyH_take (i := 1) (oi := _) (v := _) rfl (by kernel_rfl) (by kernel_rfl) (by kernel_rfl) (fun _ _ _ h => h) (Or.inl ⟨by rfl, ?hz2⟩) (by assumption) ?rezt2
    case hz2 => (intro w' hSw; (try dsimp only at hSw); go_simp; try with_reducible rfl)
    try simp only [Act.put, List.setIfInBounds_toArray, List.set_cons_zero, List.set_cons_succ, List.getElem_toArray, List.getElem_cons_zero, List.getElem_cons_succ]
    refine' wpAnyH_take (i := 2) (oi := _) (v := _) rfl (by kernel_rfl) (by kernel_rfl) (by kernel_rfl) (fun _ _ _ h => h) (Or.inl ⟨by rfl, ?hz3⟩) (by assumption) ?rezt3
    case hz3 => (intro w' hSw; (try dsimp only at hSw); go_simp; try with_reducible rfl)
    try simp only [Act.put, List.setIfInBounds_toArray, List.set_cons_zero, List.set_cons_succ, List.getElem_toArray, List.getElem_cons_zero, List.getElem_cons_succ]
    refine' wpAnyH_take (i := 3) (oi := _) (v := _) rfl (by kernel_rfl) (by kernel_rfl) (by kernel_rfl) (fun _ _ _ h => h) (Or.inl ⟨by rfl, ?hz4⟩) (by assumption) ?rezt4
    case hz4 => (intro w' hSw; (try dsimp only at hSw); go_simp; try with_reducible rfl)
    try simp only [Act.put, List.setIfInBounds_toArray, List.set_cons_zero, List.set_cons_succ, List.getElem_toArray, List.getElem_cons_zero, List.getElem_cons_succ]
    refine' wpAnyH_take (i := 4) (oi := _) (v := _) rfl (by kernel_rfl) (by kernel_rfl) (by kernel_rfl) (fun _ _ _ h => h) (Or.inl ⟨by rfl, ?hz5⟩) (by assumption) ?rezt5
    case hz5 => (intro w' hSw; (try dsimp only at hSw); go_simp; try with_reducible rfl)
    try simp only [Act.put, List.setIfInBounds_toArray, List.set_cons_zero, List.set_cons_succ, List.getElem_toArray, List.getElem_cons_zero, List.getElem_cons_succ]
    refine' wpAnyH_take (i := 5) (oi := _) (v := _) rfl (by kernel_rfl) (by kernel_rfl) (by kernel_rfl) (fun _ _ _ h => h) (Or.inl ⟨by rfl, ?hz6⟩) (by assumption) ?rezt6
    case hz6 => (intro w' hSw; (try dsimp only at hSw); go_simp; try with_reducible rfl)
    try simp only [Act.put, List.setIfInBounds_toArray, List.set_cons_zero, List.set_cons_succ, List.getElem_toArray, List.getElem_cons_zero, List.getElem_cons_succ]
    refine' wpAnyH_take (i := 6) (oi := _) (v := _) rfl (by kernel_rfl) (by kernel_rfl) (by kernel_rfl) (fun _ _ _ h => h) (Or.inl ⟨by rfl, ?hz7⟩) (by assumption) ?rezt7
    case hz7 => (intro w' hSw; (try dsimp only at hSw); go_simp; try with_reducible rfl)
    try simp only [Act.put, List.setIfInBounds_toArray, List.set_cons_zero, List.set_cons_succ, List.getElem_toArray, List.getElem_cons_zero, List.getElem_cons_succ]
    refine' wpAnyH_take (i := 8) (oi := _) (v := _) rfl (by kernel_rfl) (by kernel_rfl) (by kernel_rfl) (fun _ _ _ h => h) (Or.inl ⟨by rfl, ?hz8⟩) (by assumption) ?rezt8
    case hz8 => (intro w' hSw; (try dsimp only at hSw); go_simp; try with_reducible rfl)
    try simp only [Act.put, List.setIfInBounds_toArray, List.set_cons_zero, List.set_cons_succ, List.getElem_toArray, List.getElem_cons_zero, List.getElem_cons_succ]
    refine' wpAnyH_take (i := 9) (oi := _) (v := _) rfl (by kernel_rfl) (by kernel_rfl) (by kernel_rfl) (fun _ _ _ h => h) (Or.inl ⟨by rfl, ?hz9⟩) (by assumption) ?rezt9
    case hz9 => (intro w' hSw; (try dsimp only at hSw); go_simp; try with_reducible rfl)
    try simp only [Act.put, List.setIfInBounds_toArray, List.set_cons_zero, List.set_cons_succ, List.getElem_toArray, List.getElem_cons_zero, List.getElem_cons_succ]
    refine' wpAnyH_take (i := 10) (oi := _) (v := _) rfl (by kernel_rfl) (by kernel_rfl) (by kernel_rfl) (fun _ _ _ h => h) (Or.inl ⟨by rfl, ?hz10⟩) (by assumption) ?rezt10
    case hz10 => (intro w' hSw; (try dsimp only at hSw); go_simp; try with_reducible rfl)
    try simp only [Act.put, List.setIfInBounds_toArray, List.set_cons_zero, List.set_cons_succ, List.getElem_toArray, List.getElem_cons_zero, List.getElem_cons_succ]
    refine' wpAnyH_take (i := 13) (oi := _) (v := _) rfl (by kernel_rfl) (by kernel_rfl) (by kernel_rfl) (fun _ _ _ h => h) (Or.inl ⟨by rfl, ?hz11⟩) (by assumption) ?rezt11
    case hz11 => (intro w' hSw; (try dsimp only at hSw); go_simp; try with_reducible rfl)
    try simp only [Act.put, List.setIfInBounds_toArray, List.set_cons_zero, List.set_cons_succ, List.getElem_toArray, List.getElem_cons_zero, List.getElem_cons_succ]
    refine' wpAnyH_take (i := 14) (oi := _) (v := _) rfl (by kernel_rfl) (by kernel_rfl) (by kernel_rfl) (fun _ _ _ h => h) (Or.inl ⟨by rfl, ?hz12⟩) (by assumption) ?rezt12
    case hz12 => (intro w' hSw; (try dsimp only at hSw); go_simp; try with_reducible rfl)
    try simp only [Act.put, List.setIfInBounds_toArray, List.set_cons_zero, List.set_cons_succ, List.getElem_toArray, List.getElem_cons_zero, List.getElem_cons_succ]
    refine' wpAnyH_take (i := 15) (oi := _) (v := _) rfl (by kernel_rfl) (by kernel_rfl) (by kernel_rfl) (fun _ _ _ h => h) (Or.inl ⟨by rfl, ?hz13⟩) (by assumption) ?rezt13
    case hz13 => (intro w' hSw; (try dsimp only at hSw); go_simp; try with_reducible rfl)
    try simp only [Act.put, List.setIfInBounds_toArray, List.set_cons_zero, List.set_cons_succ, List.getElem_toArray, List.getElem_cons_zero, List.getElem_cons_succ]
    refine' wpAnyH_take (i := 16) (oi := _) (v := _) rfl (by kernel_rfl) (by kernel_rfl) (by kernel_rfl) (fun _ _ _ h => h) (Or.inl ⟨by rfl, ?hz14⟩) (by assumption) ?rezt14
    case hz14 => (intro w' hSw; (try dsimp only at hSw); go_simp; try with_reducible rfl)
    try simp only [Act.put, List.setIfInBounds_toArray, List.set_cons_zero, List.set_cons_succ, List.getElem_toArray, List.getElem_cons_zero, List.getElem_cons_succ]
    refine' wpAnyH_take (i := 17) (oi := _) (v := _) rfl (by kernel_rfl) (by kernel_rfl) (by kernel_rfl) (fun _ _ _ h => h) (Or.inl ⟨by rfl, ?hz15⟩) (by assumption) ?rezt15
    case hz15 => (intro w' hSw; (try dsimp only at hSw); go_simp; try with_reducible rfl)
    try simp only [Act.put, List.setIfInBounds_toArray, List.set_cons_zero, List.set_cons_succ, List.getElem_toArray, List.getElem_cons_zero, List.getElem_cons_succ]
    refine' wpAnyH_take (i := 18) (oi := _) (v := _) rfl (by kernel_rfl) (by kernel_rfl) (by kernel_rfl) (fun _ _ _ h => h) (Or.inl ⟨by rfl, ?hz16⟩) (by assumption) ?rezt16
    case hz16 => (intro w' hSw; (try dsimp only at hSw); go_simp; try with_reducible rfl)
    try simp only [Act.put, List.setIfInBounds_toArray, List.set_cons_zero, List.set_cons_succ, List.getElem_toArray, List.getElem_cons_zero, List.getElem_cons_succ]
    refine' wpAnyH_take (i := 20) (oi := _) (v := _) rfl (by kernel_rfl) (by kernel_rfl) (by kernel_rfl) (fun _ _ _ h => h) (Or.inl ⟨by rfl, ?hz17⟩) (by assumption) ?rezt17
    case hz17 => (intro w' hSw; (try dsimp only at hSw); go_simp; try with_reducible rfl)
    try simp only [Act.put, List.setIfInBounds_toArray, List.set_cons_zero, List.set_cons_succ, List.getElem_toArray, List.getElem_cons_zero, List.getElem_cons_succ]
    refine' wpAnyH_take (i := 21) (oi := _) (v := _) rfl (by kernel_rfl) (by kernel_rfl) (by kernel_rfl) (fun _ _ _ h => h) (Or.inl ⟨by rfl, ?hz18⟩) (by assumption) ?rezt18
    case hz18 => (intro w' hSw; (try dsimp only at hSw); go_simp; try with_reducible rfl)
    try simp only [Act.put, List.setIfInBounds_toArray, List.set_cons_zero, List.set_cons_succ, List.getElem_toArray, List.getElem_cons_zero, List.getElem_cons_succ]
    refine wpAnyH_ready (rs := [7]) (by kernel_rfl) (by simp) ?_
    refine AllReadyH.cons (o := _) rfl (fun K hK => ?_) AllReadyH.nil
    go_simp
    go_at_call 68
    refine (pslot_any _ g gb c M.h A X HP5d.out hh ((j : Int) + 1) (by omega) (by omega)).mono ?_
    rintro e w6 ⟨rfl, rfl⟩
    refine hK.out _ _ ?_ (fun hHeld => ?_)
    · exact (Mut.refl w5 gb).drew
    clear hK K
    try simp only [Act.put, List.setIfInBounds_toArray, List.set_cons_zero, List.set_cons_succ, List.getElem_toArray, List.getElem_cons_zero, List.getElem_cons_succ]
    refine wpAnyH_ready (rs := [11]) (by kernel_rfl) (by simp) ?_
    refine AllReadyH.cons (o := _) rfl (fun K hK => ?_) AllReadyH.nil
    go_simp
    go_at_call 68
    refine (pslot_any _ g gb c M.h A X HP5d.out hh ((M.k : Int) + 1) (by omega) (by omega)).mono ?_
    rintro e w6 ⟨rfl, rfl⟩
    refine hK.out _ _ ?_ (fun hHeld => ?_)
    · exact (Mut.refl w5 gb).drew
    clear hK K
    try simp only [Act.put, List.setIfInBounds_toArray, List.set_cons_zero, List.set_cons_succ, List.getElem_toArray, List.getElem_cons_zero, List.getElem_cons_succ]
    refine' wpAnyH_take (i := 12) (oi := _) (v := _) rfl (by kernel_rfl) (by kernel_rfl) (by kernel_rfl) (fun _ _ _ h => h) (Or.inl ⟨by rfl, ?hz19⟩) (by assumption) ?rezt19
    case hz19 => (intro w' hSw; (try dsimp only at hSw); go_simp; try with_reducible rfl)
    try simp only [Act.put, List.setIfInBounds_toArray, List.set_cons_zero, List.set_cons_succ, List.getElem_toArray, List.getElem_cons_zero, List.getElem_cons_succ]
    refine wpAnyH_ready (rs := [19]) (by kernel_rfl) (by simp) ?_
    refine AllReadyH.cons (o := _) rfl (fun K hK => ?_) AllReadyH.nil
    go_simp
    go_at_call 68
    refine (pslot_any _ g gb c M.h A X HP5d.out hh (j : Int) (by omega) (by omega)).mono ?_
    rintro e w6 ⟨rfl, rfl⟩
    refine hK.out _ _ ?_ (fun hHeld => ?_)
    · exact (Mut.refl w5 gb).drew
    clear hK K
    try simp only [Act.put, List.setIfInBounds_toArray, List.set_cons_zero, List.set_cons_succ, List.getElem_toArray, List.getElem_cons_zero, List.getElem_cons_succ]
    refine wpAnyH_ready (rs := [22]) (by kernel_rfl) (by simp) ?_
    refine AllReadyH.cons (o := _) rfl (fun K hK => ?_) AllReadyH.nil
    go_simp
    go_at_call 68
    refine (pslot_any _ g gb c M.h A X HP5d.out hh (M.k : Int) (by omega) (by omega)).mono ?_
    rintro e w6 ⟨rfl, rfl⟩
    refine hK.out _ _ ?_ (fun hHeld => ?_)
    · exact (Mut.refl w5 gb).drew
    clear hK K
    try simp only [Act.put, List.setIfInBounds_toArray, List.set_cons_zero, List.set_cons_succ, List.getElem_toArray, List.getElem_cons_zero, List.getElem_cons_succ]
    refine' wpAnyH_take (i := 23) (oi := _) (v := _) rfl (by kernel_rfl) (by kernel_rfl) (by kernel_rfl) (fun _ _ _ h => h) (Or.inl ⟨by rfl, ?hz20⟩) (by assumption) ?rezt20
    case hz20 => (intro w' hSw; (try dsimp only at hSw); go_simp; try with_reducible rfl)
    try simp only [Act.put, List.setIfInBounds_toArray, List.set_cons_zero, List.set_cons_succ, List.getElem_toArray, List.getElem_cons_zero, List.getElem_cons_succ]
    refine wpAnyH_ready (rs := [24]) (by kernel_rfl) (by simp) ?_
    refine AllReadyH.cons (o := _) rfl (fun K hK => ?_) AllReadyH.nil
    refine step_copy_pg rfl (.tmp 60) (.tmp 71) rfl gb (M.h + 2 + 2 * (j + 1)) (2 * (M.k - j)) (c - (M.h + 2 + 2 * (j + 1))) c A S X (by rw [HD1.out]; rfl) HP5d.out.row HP5.out.cap (by rw [HAL.out]; omega) D2 (2 * (M.k - j)) (c - (M.h + 2 + 2 * j)) rfl HSS.out (Nat.le_refl _) HRS.out ?_
    intro w7 hr7 hm7
    have hm7' : Mut w5 gb w7 := (Mut.of hbd5 gb).trans hm7
    refine hK.out _ _ ?_ (fun hHeld => ?_)
    · exact hm7'
    clear hK K
    try simp only [Act.put, List.setIfInBounds_toArray, List.set_cons_zero, List.set_cons_succ, List.getElem_toArray, List.getElem_cons_zero, List.getElem_cons_succ]
    refine wpAnyH_done (by kernel_rfl) ?_ _
    obtain ⟨B, hB'⟩ : ∃ B, B = splice A (M.h + 2 + 2 * (j + 1)) S := ⟨_, rfl⟩
    rw [← hB'] at hr7
    have hBl : B.length = A.length := by rw [hB']; exact splice_len (by rw [HSS.out, HAL.out]; omega)
    have hBb : IsB B := by rw [hB', HS.out]; exact splice_isB HP5.out.byts (isB_dt HP5.out.byts _ _) _
    have HP7 := Lib.hid (HP5.out.mut hm7' hr7 hBl hBb)
    have HM7 := Lib.hid (HM5.out.trans hm7')
    have HBE := Lib.hid hB'
    have HBL := Lib.hid (hBl.trans HAL.out)
    clear hB' hBl hBb hr7 hm7 hm7' K0 hc1 hc2 HD1 HD2 HRS HP5d hbd5 e1 e2
    go_wp2_with fail
    refine (pslot_any _ g gb c M.h B X HP7.out hh (j : Int) (by omega) (by omega)).mono ?_
    rintro e w8 ⟨rfl, rfl⟩
    rw [show (M.h : Int) + 2 + 2 * (j : Int) = ((M.h + 2 + 2 * j : Nat) : Int) by omega]
    go_wp2_with fail
    refine (pset_any _ g gb c M.h B X HP7.out (M.h + 2 + 2 * j) (r : Int) (by rw [HBL.out]; omega) (by omega) hr65).mono ?_
    rintro e w8 ⟨rfl, hp8, hm8⟩
    obtain ⟨D, hD⟩ : ∃ D, D = splice B (M.h + 2 + 2 * j) (fxL (r : Int) 2) := ⟨_, rfl⟩
    rw [← hD] at hp8
    have HP8 := Lib.hid hp8
    have HDE := Lib.hid hD
    have HDL := Lib.hid (show D.length = M.n by rw [hD, set_len (by rw [HBL.out]; omega), HBL.out])
    have HM8 := Lib.hid (HM7.out.trans hm8)
    have m1 := hp8.m1
    clear hp8 hD hm8
    go_wp2_with fail
    refine (pset_any _ g gb c M.h D X HP8.out M.h ((M.k : Int) + 1) (by rw [HDL.out]; omega) (by omega) (by omega)).mono ?_
    rintro e w9 ⟨rfl, hp9, hm9⟩
    have hj1' : j ≤ M1.k := by rw [HQ2.out]; exact hjk
    obtain ⟨z1, z2, z3⟩ := ins_page HG1.out HI3.out (i := j) (q := r) (c := cs) hj1' (by rw [HM.out]; exact HRQ.out) (show M1.h + 2 + 2 * (M1.k + 1) ≤ r by rw [HQ2.out, HQ3.out]; exact hru) hB
    have z4 : Good (M1.ins j r cs) := HG1.out.ins hj1' (by rw [HM.out]; exact HRQ.out) (show M1.h + 2 + 2 * (M1.k + 1) ≤ r by rw [HQ2.out, HQ3.out]; exact hru) (show M1.h + 2 + 2 * (M1.k + 1) + sz M1.C + (2 + cs.length) ≤ M1.n by rw [HQ2.out, HQ3.out, HQ4.out, HQ5.out, HM.out]; exact q7) hB
    have z5 : splice D M.h (fxL ((M.k : Int) + 1) 2) = insL M1.h M1.k j r L1 cs := by
      rw [HDE.out, HBE.out, HS.out, HA.out, HQ2.out, HQ3.out]
      rfl
    have z6 : (M1.ins j r cs).h = M.h := HQ3.out
    rw [z5] at hp9
    have hM9 := HM8.out.trans hm9
    clear hm9 m1
    go_wp2
    rw [HR.out, HF.out]
    refine ⟨rfl, z4, _, ⟨?_, hM9⟩, z1⟩
    rw [z6]
    exact hp9
  · have hM1 : M1 = M := by rw [HRM.out]; exact if_neg (by omega)
    clear HRM htp
    have HP3 := Lib.hid HP1.out
    rw [← HQ3.out] at HP3
    have HI3 := Lib.hid HI.out
    rw [← hM1] at HI3
    have HM3 := Lib.hid (Mut.of hb1 gb)
    have HRD3 := Lib.hid HRD1.out
    obtain ⟨L1, hL1⟩ : ∃ L1, L1 = L := ⟨_, rfl⟩
    rw [← hL1] at HP3 HI3
    clear hM1 hL1
    have HL1 := Lib.hid HI3.out.len
    rw [HQ4.out] at HL1
    clear hb1 HP1 HRD1 HP HI HRD
    obtain ⟨r, hr⟩ : ∃ r, M1.top - 2 - m = r := ⟨_, rfl⟩
    rw [hr] at HF
    have htop : (M1.top : Int) = (r : Int) + 2 + (m : Int) := by omega
    have hrq : r + 2 + m ≤ M1.top := by omega
    have HRQ := Lib.hid hrq
    have hrn : r + 2 + m ≤ M.n := by omega
    have hru : M.h + 2 + 2 * (M.k + 1) ≤ r := by omega
    have hr65 : (r : Int) ≤ 65535 := by omega
    have HTOP := Lib.hid htop
    clear hr htop hrq q6
    go_wp2_with fail
    refine (ptop_any _ g gb c L1 X M1 HP3.out HI3.out HG1.out).mono ?_
    rintro e w4 ⟨rfl, rfl⟩
    rw [HTOP.out]
    clear hpk
    go_wp2_with fail
    refine (play_any _ g gb c M1.h L1 X HP3.out (by rw [HL1.out]; exact hn1) r m sp sc cs (by rw [HL1.out]; exact hrn) HM.out HRD3.out hB HNE.out).mono ?_
    rintro e w5 ⟨rfl, hp5, hm5⟩
    obtain ⟨A, hA⟩ : ∃ A, A = layL L1 r cs := ⟨_, rfl⟩
    rw [← hA] at hp5
    have hAl : A.length = M.n := by rw [hA, layL_len (by rw [HM.out, HL1.out]; exact hrn), HL1.out]
    have HA := Lib.hid hA
    have HAL := Lib.hid hAl
    rw [HQ3.out] at hp5
    have HP5 := Lib.hid hp5
    have HM5 := Lib.hid (HM3.out.trans hm5)
    have m0 := hp5.m0
    rw [hAl] at m0
    have hlc := hp5.len
    rw [hAl] at hlc
    clear hA hAl hp5 hm5
    have K0 : ∀ W : World, Mut w5 gb W → W.cell? ⟨g, 0, none⟩ = some (.slice (some ⟨gb, 0, none⟩) M.n c) := fun W hW => by
      have := heap_cell (i := 0) ((hW.block g HP5.out.lt.1 HP5.out.ne).trans HP5.out.head)
      rw [HAL.out] at this
      exact this
    clear m0
    have hc1 := run_cut (some ⟨gb, 0, none⟩) M.n c (M.h + 2 + 2 * (j + 1)) (2 * (M.k - j)) (by omega)
    rw [show ((M.h + 2 + 2 * (j + 1) : Nat) : Int) = (M.h : Int) + 2 + 2 * ((j : Int) + 1) by omega, show (M.h : Int) + 2 + 2 * ((j : Int) + 1) + ((2 * (M.k - j) : Nat) : Int) = (M.h : Int) + 2 + 2 * ((M.k : Int) + 1) by omega] at hc1
    have hc2 := run_cut (some ⟨gb, 0, none⟩) M.n c (M.h + 2 + 2 * j) (2 * (M.k - j)) (by omega)
    rw [show ((M.h + 2 + 2 * j : Nat) : Int) = (M.h : Int) + 2 + 2 * (j : Int) by omega, show (M.h : Int) + 2 + 2 * (j : Int) + ((2 * (M.k - j) : Nat) : Int) = (M.h : Int) + 2 + 2 * (M.k : Int) by omega] at hc2
    obtain ⟨D1, hD1⟩ : ∃ D, cutA (some ⟨gb, 0, none⟩) c (M.h + 2 + 2 * (j + 1)) = D := ⟨_, rfl⟩
    obtain ⟨D2, hD2⟩ : ∃ D, cutA (some ⟨gb, 0, none⟩) c (M.h + 2 + 2 * j) = D := ⟨_, rfl⟩
    have HD1 := Lib.hid hD1
    have HD2 := Lib.hid hD2
    rw [hD1] at hc1
    rw [hD2] at hc2
    clear hD1 hD2
    have hsS : ((A.drop (M.h + 2 + 2 * j)).take (2 * (M.k - j))).length = 2 * (M.k - j) := by rw [List.length_take, List.length_drop, HAL.out]; omega
    obtain ⟨S, hS⟩ : ∃ S, S = (A.drop (M.h + 2 + 2 * j)).take (2 * (M.k - j)) := ⟨_, rfl⟩
    rw [← hS] at hsS
    have HS := Lib.hid hS
    have HSS := Lib.hid hsS
    have hbd5 : Below w5.heap.size w5 w5.drew := (Below.refl _ w5).drew
    have HP5d := Lib.hid (HP5.out.keep hbd5)
    have HRS := Lib.hid (show Rd w5.drew D2 S by rw [← HD2.out, HS.out]; exact cutA_rd HP5d.out.rd c _ _ (by rw [HAL.out]; exact hlc.1))
    have hj1 : (j : Int) + 1 ≤ 70000 ∧ (M.k : Int) + 1 ≤ 70000 := by omega
    have e1 : IntKind.i64.wrap ((j : Int) + 1) = (j : Int) + 1 := IntWalk.i64_in _ (by omega)
    have e2 : IntKind.i64.wrap ((M.k : Int) + 1) = (M.k : Int) + 1 := IntWalk.i64_in _ (by omega)
    clear hS hsS
    go_upto_region 10 with fail
    refine wp_region_held_drew (S := (fun W => Mut w5 gb W)) (by kernel_rfl) ?_ (fun hHeld => ?_)
    · exact (Mut.refl w5 gb).drew
    refine' wpAnyH_take (i := 0) (oi := _) (v := _) rfl (by kernel_rfl) (by kernel_rfl) (by kernel_rfl) (fun _ _ _ h => h) (Or.inl ⟨by rfl, ?hz21⟩) (by assumption) ?rezt21
    case hz21 => (intro w' hSw; (try dsimp only at hSw); go_simp; try with_reducible rfl)
    try simp only [Act.put, List.setIfInBounds_toArray, List.set_cons_zero, List.set_cons_succ, List.getElem_toArray, List.getElem_cons_zero, List.getElem_cons_succ]
    refine' wpAnyH_take (i := 1) (oi := _) (v := _) rfl (by kernel_rfl) (by kernel_rfl) (by kernel_rfl) (fun _ _ _ h => h) (Or.inl ⟨by rfl, ?hz22⟩) (by assumption) ?rezt22
    case hz22 => (intro w' hSw; (try dsimp only at hSw); go_simp; try with_reducible rfl)
    try simp only [Act.put, List.setIfInBounds_toArray, List.set_cons_zero, List.set_cons_succ, List.getElem_toArray, List.getElem_cons_zero, List.getElem_cons_succ]
    refine' wpAnyH_take (i := 2) (oi := _) (v := _) rfl (by kernel_rfl) (by kernel_rfl) (by kernel_rfl) (fun _ _ _ h => h) (Or.inl ⟨by rfl, ?hz23⟩) (by assumption) ?rezt23
    case hz23 => (intro w' hSw; (try dsimp only at hSw); go_simp; try with_reducible rfl)
    try simp only [Act.put, List.setIfInBounds_toArray, List.set_cons_zero, List.set_cons_succ, List.getElem_toArray, List.getElem_cons_zero, List.getElem_cons_succ]
    refine' wpAnyH_take (i := 3) (oi := _) (v := _) rfl (by kernel_rfl) (by kernel_rfl) (by kernel_rfl) (fun _ _ _ h => h) (Or.inl ⟨by rfl, ?hz24⟩) (by assumption) ?rezt24
    case hz24 => (intro w' hSw; (try dsimp only at hSw); go_simp; try with_reducible rfl)
    try simp only [Act.put, List.setIfInBounds_toArray, List.set_cons_zero, List.set_cons_succ, List.getElem_toArray, List.getElem_cons_zero, List.getElem_cons_succ]
    refine' wpAnyH_take (i := 4) (oi := _) (v := _) rfl (by kernel_rfl) (by kernel_rfl) (by kernel_rfl) (fun _ _ _ h => h) (Or.inl ⟨by rfl, ?hz25⟩) (by assumption) ?rezt25
    case hz25 => (intro w' hSw; (try dsimp only at hSw); go_simp; try with_reducible rfl)
    try simp only [Act.put, List.setIfInBounds_toArray, List.set_cons_zero, List.set_cons_succ, List.getElem_toArray, List.getElem_cons_zero, List.getElem_cons_succ]
    refine' wpAnyH_take (i := 5) (oi := _) (v := _) rfl (by kernel_rfl) (by kernel_rfl) (by kernel_rfl) (fun _ _ _ h => h) (Or.inl ⟨by rfl, ?hz26⟩) (by assumption) ?rezt26
    case hz26 => (intro w' hSw; (try dsimp only at hSw); go_simp; try with_reducible rfl)
    try simp only [Act.put, List.setIfInBounds_toArray, List.set_cons_zero, List.set_cons_succ, List.getElem_toArray, List.getElem_cons_zero, List.getElem_cons_succ]
    refine' wpAnyH_take (i := 6) (oi := _) (v := _) rfl (by kernel_rfl) (by kernel_rfl) (by kernel_rfl) (fun _ _ _ h => h) (Or.inl ⟨by rfl, ?hz27⟩) (by assumption) ?rezt27
    case hz27 => (intro w' hSw; (try dsimp only at hSw); go_simp; try with_reducible rfl)
    try simp only [Act.put, List.setIfInBounds_toArray, List.set_cons_zero, List.set_cons_succ, List.getElem_toArray, List.getElem_cons_zero, List.getElem_cons_succ]
    refine' wpAnyH_take (i := 8) (oi := _) (v := _) rfl (by kernel_rfl) (by kernel_rfl) (by kernel_rfl) (fun _ _ _ h => h) (Or.inl ⟨by rfl, ?hz28⟩) (by assumption) ?rezt28
    case hz28 => (intro w' hSw; (try dsimp only at hSw); go_simp; try with_reducible rfl)
    try simp only [Act.put, List.setIfInBounds_toArray, List.set_cons_zero, List.set_cons_succ, List.getElem_toArray, List.getElem_cons_zero, List.getElem_cons_succ]
    refine' wpAnyH_take (i := 9) (oi := _) (v := _) rfl (by kernel_rfl) (by kernel_rfl) (by kernel_rfl) (fun _ _ _ h => h) (Or.inl ⟨by rfl, ?hz29⟩) (by assumption) ?rezt29
    case hz29 => (intro w' hSw; (try dsimp only at hSw); go_simp; try with_reducible rfl)
    try simp only [Act.put, List.setIfInBounds_toArray, List.set_cons_zero, List.set_cons_succ, List.getElem_toArray, List.getElem_cons_zero, List.getElem_cons_succ]
    refine' wpAnyH_take (i := 10) (oi := _) (v := _) rfl (by kernel_rfl) (by kernel_rfl) (by kernel_rfl) (fun _ _ _ h => h) (Or.inl ⟨by rfl, ?hz30⟩) (by assumption) ?rezt30
    case hz30 => (intro w' hSw; (try dsimp only at hSw); go_simp; try with_reducible rfl)
    try simp only [Act.put, List.setIfInBounds_toArray, List.set_cons_zero, List.set_cons_succ, List.getElem_toArray, List.getElem_cons_zero, List.getElem_cons_succ]
    refine' wpAnyH_take (i := 13) (oi := _) (v := _) rfl (by kernel_rfl) (by kernel_rfl) (by kernel_rfl) (fun _ _ _ h => h) (Or.inl ⟨by rfl, ?hz31⟩) (by assumption) ?rezt31
    case hz31 => (intro w' hSw; (try dsimp only at hSw); go_simp; try with_reducible rfl)
    try simp only [Act.put, List.setIfInBounds_toArray, List.set_cons_zero, List.set_cons_succ, List.getElem_toArray, List.getElem_cons_zero, List.getElem_cons_succ]
    refine' wpAnyH_take (i := 14) (oi := _) (v := _) rfl (by kernel_rfl) (by kernel_rfl) (by kernel_rfl) (fun _ _ _ h => h) (Or.inl ⟨by rfl, ?hz32⟩) (by assumption) ?rezt32
    case hz32 => (intro w' hSw; (try dsimp only at hSw); go_simp; try with_reducible rfl)
    try simp only [Act.put, List.setIfInBounds_toArray, List.set_cons_zero, List.set_cons_succ, List.getElem_toArray, List.getElem_cons_zero, List.getElem_cons_succ]
    refine' wpAnyH_take (i := 15) (oi := _) (v := _) rfl (by kernel_rfl) (by kernel_rfl) (by kernel_rfl) (fun _ _ _ h => h) (Or.inl ⟨by rfl, ?hz33⟩) (by assumption) ?rezt33
    case hz33 => (intro w' hSw; (try dsimp only at hSw); go_simp; try with_reducible rfl)
    try simp only [Act.put, List.setIfInBounds_toArray, List.set_cons_zero, List.set_cons_succ, List.getElem_toArray, List.getElem_cons_zero, List.getElem_cons_succ]
    refine' wpAnyH_take (i := 16) (oi := _) (v := _) rfl (by kernel_rfl) (by kernel_rfl) (by kernel_rfl) (fun _ _ _ h => h) (Or.inl ⟨by rfl, ?hz34⟩) (by assumption) ?rezt34
    case hz34 => (intro w' hSw; (try dsimp only at hSw); go_simp; try with_reducible rfl)
    try simp only [Act.put, List.setIfInBounds_toArray, List.set_cons_zero, List.set_cons_succ, List.getElem_toArray, List.getElem_cons_zero, List.getElem_cons_succ]
    refine' wpAnyH_take (i := 17) (oi := _) (v := _) rfl (by kernel_rfl) (by kernel_rfl) (by kernel_rfl) (fun _ _ _ h => h) (Or.inl ⟨by rfl, ?hz35⟩) (by assumption) ?rezt35
    case hz35 => (intro w' hSw; (try dsimp only at hSw); go_simp; try with_reducible rfl)
    try simp only [Act.put, List.setIfInBounds_toArray, List.set_cons_zero, List.set_cons_succ, List.getElem_toArray, List.getElem_cons_zero, List.getElem_cons_succ]
    refine' wpAnyH_take (i := 18) (oi := _) (v := _) rfl (by kernel_rfl) (by kernel_rfl) (by kernel_rfl) (fun _ _ _ h => h) (Or.inl ⟨by rfl, ?hz36⟩) (by assumption) ?rezt36
    case hz36 => (intro w' hSw; (try dsimp only at hSw); go_simp; try with_reducible rfl)
    try simp only [Act.put, List.setIfInBounds_toArray, List.set_cons_zero, List.set_cons_succ, List.getElem_toArray, List.getElem_cons_zero, List.getElem_cons_succ]
    refine' wpAnyH_take (i := 20) (oi := _) (v := _) rfl (by kernel_rfl) (by kernel_rfl) (by kernel_rfl) (fun _ _ _ h => h) (Or.inl ⟨by rfl, ?hz37⟩) (by assumption) ?rezt37
    case hz37 => (intro w' hSw; (try dsimp only at hSw); go_simp; try with_reducible rfl)
    try simp only [Act.put, List.setIfInBounds_toArray, List.set_cons_zero, List.set_cons_succ, List.getElem_toArray, List.getElem_cons_zero, List.getElem_cons_succ]
    refine' wpAnyH_take (i := 21) (oi := _) (v := _) rfl (by kernel_rfl) (by kernel_rfl) (by kernel_rfl) (fun _ _ _ h => h) (Or.inl ⟨by rfl, ?hz38⟩) (by assumption) ?rezt38
    case hz38 => (intro w' hSw; (try dsimp only at hSw); go_simp; try with_reducible rfl)
    try simp only [Act.put, List.setIfInBounds_toArray, List.set_cons_zero, List.set_cons_succ, List.getElem_toArray, List.getElem_cons_zero, List.getElem_cons_succ]
    refine wpAnyH_ready (rs := [7]) (by kernel_rfl) (by simp) ?_
    refine AllReadyH.cons (o := _) rfl (fun K hK => ?_) AllReadyH.nil
    go_simp
    go_at_call 68
    refine (pslot_any _ g gb c M.h A X HP5d.out hh ((j : Int) + 1) (by omega) (by omega)).mono ?_
    rintro e w6 ⟨rfl, rfl⟩
    refine hK.out _ _ ?_ (fun hHeld => ?_)
    · exact (Mut.refl w5 gb).drew
    clear hK K
    try simp only [Act.put, List.setIfInBounds_toArray, List.set_cons_zero, List.set_cons_succ, List.getElem_toArray, List.getElem_cons_zero, List.getElem_cons_succ]
    refine wpAnyH_ready (rs := [11]) (by kernel_rfl) (by simp) ?_
    refine AllReadyH.cons (o := _) rfl (fun K hK => ?_) AllReadyH.nil
    go_simp
    go_at_call 68
    refine (pslot_any _ g gb c M.h A X HP5d.out hh ((M.k : Int) + 1) (by omega) (by omega)).mono ?_
    rintro e w6 ⟨rfl, rfl⟩
    refine hK.out _ _ ?_ (fun hHeld => ?_)
    · exact (Mut.refl w5 gb).drew
    clear hK K
    try simp only [Act.put, List.setIfInBounds_toArray, List.set_cons_zero, List.set_cons_succ, List.getElem_toArray, List.getElem_cons_zero, List.getElem_cons_succ]
    refine' wpAnyH_take (i := 12) (oi := _) (v := _) rfl (by kernel_rfl) (by kernel_rfl) (by kernel_rfl) (fun _ _ _ h => h) (Or.inl ⟨by rfl, ?hz39⟩) (by assumption) ?rezt39
    case hz39 => (intro w' hSw; (try dsimp only at hSw); go_simp; try with_reducible rfl)
    try simp only [Act.put, List.setIfInBounds_toArray, List.set_cons_zero, List.set_cons_succ, List.getElem_toArray, List.getElem_cons_zero, List.getElem_cons_succ]
    refine wpAnyH_ready (rs := [19]) (by kernel_rfl) (by simp) ?_
    refine AllReadyH.cons (o := _) rfl (fun K hK => ?_) AllReadyH.nil
    go_simp
    go_at_call 68
    refine (pslot_any _ g gb c M.h A X HP5d.out hh (j : Int) (by omega) (by omega)).mono ?_
    rintro e w6 ⟨rfl, rfl⟩
    refine hK.out _ _ ?_ (fun hHeld => ?_)
    · exact (Mut.refl w5 gb).drew
    clear hK K
    try simp only [Act.put, List.setIfInBounds_toArray, List.set_cons_zero, List.set_cons_succ, List.getElem_toArray, List.getElem_cons_zero, List.getElem_cons_succ]
    refine wpAnyH_ready (rs := [22]) (by kernel_rfl) (by simp) ?_
    refine AllReadyH.cons (o := _) rfl (fun K hK => ?_) AllReadyH.nil
    go_simp
    go_at_call 68
    refine (pslot_any _ g gb c M.h A X HP5d.out hh (M.k : Int) (by omega) (by omega)).mono ?_
    rintro e w6 ⟨rfl, rfl⟩
    refine hK.out _ _ ?_ (fun hHeld => ?_)
    · exact (Mut.refl w5 gb).drew
    clear hK K
    try simp only [Act.put, List.setIfInBounds_toArray, List.set_cons_zero, List.set_cons_succ, List.getElem_toArray, List.getElem_cons_zero, List.getElem_cons_succ]
    refine' wpAnyH_take (i := 23) (oi := _) (v := _) rfl (by kernel_rfl) (by kernel_rfl) (by kernel_rfl) (fun _ _ _ h => h) (Or.inl ⟨by rfl, ?hz40⟩) (by assumption) ?rezt40
    case hz40 => (intro w' hSw; (try dsimp only at hSw); go_simp; try with_reducible rfl)
    try simp only [Act.put, List.setIfInBounds_toArray, List.set_cons_zero, List.set_cons_succ, List.getElem_toArray, List.getElem_cons_zero, List.getElem_cons_succ]
    refine wpAnyH_ready (rs := [24]) (by kernel_rfl) (by simp) ?_
    refine AllReadyH.cons (o := _) rfl (fun K hK => ?_) AllReadyH.nil
    refine step_copy_pg rfl (.tmp 60) (.tmp 71) rfl gb (M.h + 2 + 2 * (j + 1)) (2 * (M.k - j)) (c - (M.h + 2 + 2 * (j + 1))) c A S X (by rw [HD1.out]; rfl) HP5d.out.row HP5.out.cap (by rw [HAL.out]; omega) D2 (2 * (M.k - j)) (c - (M.h + 2 + 2 * j)) rfl HSS.out (Nat.le_refl _) HRS.out ?_
    intro w7 hr7 hm7
    have hm7' : Mut w5 gb w7 := (Mut.of hbd5 gb).trans hm7
    refine hK.out _ _ ?_ (fun hHeld => ?_)
    · exact hm7'
    clear hK K
    try simp only [Act.put, List.setIfInBounds_toArray, List.set_cons_zero, List.set_cons_succ, List.getElem_toArray, List.getElem_cons_zero, List.getElem_cons_succ]
    refine wpAnyH_done (by kernel_rfl) ?_ _
    obtain ⟨B, hB'⟩ : ∃ B, B = splice A (M.h + 2 + 2 * (j + 1)) S := ⟨_, rfl⟩
    rw [← hB'] at hr7
    have hBl : B.length = A.length := by rw [hB']; exact splice_len (by rw [HSS.out, HAL.out]; omega)
    have hBb : IsB B := by rw [hB', HS.out]; exact splice_isB HP5.out.byts (isB_dt HP5.out.byts _ _) _
    have HP7 := Lib.hid (HP5.out.mut hm7' hr7 hBl hBb)
    have HM7 := Lib.hid (HM5.out.trans hm7')
    have HBE := Lib.hid hB'
    have HBL := Lib.hid (hBl.trans HAL.out)
    clear hB' hBl hBb hr7 hm7 hm7' K0 hc1 hc2 HD1 HD2 HRS HP5d hbd5 e1 e2
    go_wp2_with fail
    refine (pslot_any _ g gb c M.h B X HP7.out hh (j : Int) (by omega) (by omega)).mono ?_
    rintro e w8 ⟨rfl, rfl⟩
    rw [show (M.h : Int) + 2 + 2 * (j : Int) = ((M.h + 2 + 2 * j : Nat) : Int) by omega]
    go_wp2_with fail
    refine (pset_any _ g gb c M.h B X HP7.out (M.h + 2 + 2 * j) (r : Int) (by rw [HBL.out]; omega) (by omega) hr65).mono ?_
    rintro e w8 ⟨rfl, hp8, hm8⟩
    obtain ⟨D, hD⟩ : ∃ D, D = splice B (M.h + 2 + 2 * j) (fxL (r : Int) 2) := ⟨_, rfl⟩
    rw [← hD] at hp8
    have HP8 := Lib.hid hp8
    have HDE := Lib.hid hD
    have HDL := Lib.hid (show D.length = M.n by rw [hD, set_len (by rw [HBL.out]; omega), HBL.out])
    have HM8 := Lib.hid (HM7.out.trans hm8)
    have m1 := hp8.m1
    clear hp8 hD hm8
    go_wp2_with fail
    refine (pset_any _ g gb c M.h D X HP8.out M.h ((M.k : Int) + 1) (by rw [HDL.out]; omega) (by omega) (by omega)).mono ?_
    rintro e w9 ⟨rfl, hp9, hm9⟩
    have hj1' : j ≤ M1.k := by rw [HQ2.out]; exact hjk
    obtain ⟨z1, z2, z3⟩ := ins_page HG1.out HI3.out (i := j) (q := r) (c := cs) hj1' (by rw [HM.out]; exact HRQ.out) (show M1.h + 2 + 2 * (M1.k + 1) ≤ r by rw [HQ2.out, HQ3.out]; exact hru) hB
    have z4 : Good (M1.ins j r cs) := HG1.out.ins hj1' (by rw [HM.out]; exact HRQ.out) (show M1.h + 2 + 2 * (M1.k + 1) ≤ r by rw [HQ2.out, HQ3.out]; exact hru) (show M1.h + 2 + 2 * (M1.k + 1) + sz M1.C + (2 + cs.length) ≤ M1.n by rw [HQ2.out, HQ3.out, HQ4.out, HQ5.out, HM.out]; exact q7) hB
    have z5 : splice D M.h (fxL ((M.k : Int) + 1) 2) = insL M1.h M1.k j r L1 cs := by
      rw [HDE.out, HBE.out, HS.out, HA.out, HQ2.out, HQ3.out]
      rfl
    have z6 : (M1.ins j r cs).h = M.h := HQ3.out
    rw [z5] at hp9
    have hM9 := HM8.out.trans hm9
    clear hm9 m1
    go_wp2
    rw [HR.out, HF.out]
    refine ⟨rfl, z4, _, ⟨?_, hM9⟩, z1⟩
    rw [z6]
    exact hp9
end Go.Proofs.Ytoeaffmlolapnaa
