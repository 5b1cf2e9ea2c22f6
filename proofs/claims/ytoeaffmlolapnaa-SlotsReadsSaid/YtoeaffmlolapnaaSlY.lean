/- Walks: the document's page: used, top, left, Room, Pack. -/
import Derived.Test.YtoeaffmlolapnaaSlX
import Derived.Test.YtoeaffmlolapnaaSlS
namespace Go.Proofs.Ytoeaffmlolapnaa
open Go.RowKit
set_option maxRecDepth 100000
set_option linter.unusedVariables false
set_option linter.unusedSimpArgs false
set_option linter.unnecessarySimpa false

/-- A page of the document that is not too great. -/
structure Sm (M : Mdl) : Prop where
  n1 : M.n ≤ 4096
  h1 : M.h ≤ 64
  k1 : M.k ≤ 2047
  same : M.P.length = M.k
  clen : ∀ c ∈ M.C, c.length ≤ 4096
  plen : ∀ p ∈ M.P, p ≤ 4096
  room : sz M.C ≤ M.n
theorem Good.sm {M : Mdl} (g : Good M) : Sm M where
  n1 := g.n1
  h1 := g.h1
  k1 := g.kle
  same := g.same
  clen := g.clen
  plen := fun p hp => by have := g.plen p hp; have := g.n1; omega
  room := by have := g.room'; omega
theorem natC_get {P : List Nat} {j : Nat} (h : j < P.length) : (natC P)[j]? = some (.int .i64 (P.getD j 0 : Int)) := by simp [natC, h]
theorem rowC_get {S : List Sl} {j : Nat} {s : Sl} (h : S[j]? = some s) : (rowC S)[j]? = some (.slice s.A s.n s.c) := by simp [rowC, h]
theorem Sm.left_bd {M : Mdl} (g : Sm M) : -8400000 ≤ M.left ∧ M.left ≤ 4096 := by
  have h1 := takenC_le (C := M.C) 4096 g.clen
  have h2 := g.k1
  have h3 := g.n1
  have h4 := g.h1
  have h5 : (4 + 4096) * M.C.length ≤ 4100 * 2047 := Nat.mul_le_mul_left _ h2
  unfold Mdl.left
  omega

set_option maxHeartbeats 4000000 in
theorem rused_any (w : World) (M : Mdl) (r : RV) (hg : Sm M) (i : Int) (i0 : -70000 ≤ i) (i1 : i ≤ 70000) :
    Calls Try.prog 66 #[r.val M, .int .i64 i] w fun e w' => e = .returned (.int .i64 ((M.h : Int) + 2 + 2 * i)) ∧ Below w.heap.size w w' := by
  have hh := hg.h1
  clear hg
  obtain ⟨W0, hW0⟩ : ∃ W, W = w.alloc (.cells #[.int .i64 (M.n : Int), .slice r.FA M.h r.fc, .slice r.CA M.k r.cc, .slice r.PA M.P.length r.pc] 33) := ⟨_, rfl⟩
  have hB0 : Below w.heap.size w W0 := by rw [hW0]; exact (Below.refl _ _).alloc (Nat.le_refl _) _
  have hR0 : RpAt W0 w.heap.size r M := by rw [hW0]; exact RpAt.made w r M _
  obtain ⟨m0, m1, m2, m3⟩ := hR0.all
  have HW := Lib.hid hW0
  clear hW0 hR0 m0 m2 m3
  unfold RV.val
  go_enter Try.func66, Try.ntmps66
  go_upto_region 1 with fail
  rw [← HW.out]
  clear HW
  go_wp2_with fail
  go_ret
  exact ⟨rfl, hB0⟩

set_option maxHeartbeats 4000000 in
theorem rtop_any (w : World) (bad : List Nat) (M : Mdl) (r : RV) (hr : RefV w bad M r) (hg : Sm M) :
    Calls Try.prog 103 #[r.val M] w fun e w' => e = .returned (.int .i64 (M.top : Int)) ∧ Below w.heap.size w w' := by
  have hk := hg.k1
  have hn := hg.n1
  have hs := hg.same
  have HPL := Lib.hid hg.plen
  obtain ⟨W0, hW0⟩ : ∃ W, W = w.alloc (.cells #[.int .i64 (M.n : Int), .slice r.FA M.h r.fc, .slice r.CA M.k r.cc, .slice r.PA M.P.length r.pc] 33) := ⟨_, rfl⟩
  have hB0 : Below w.heap.size w W0 := by rw [hW0]; exact (Below.refl _ _).alloc (Nat.le_refl _) _
  have hR0 : RpAt W0 w.heap.size r M := by rw [hW0]; exact RpAt.made w r M _
  have HPA := Lib.hid (hr.places.keep hB0)
  obtain ⟨m0, m1, m2, m3⟩ := hR0.all
  rw [hs] at m3
  have HS := Lib.hid hs
  have HW := Lib.hid hW0
  clear hW0 hR0 m1 m2 hr hs hg
  unfold RV.val
  go_enter Try.func103, Try.ntmps103
  go_upto_region 1 with fail
  rw [← HW.out]
  clear HW
  go_wp2_with fail
  go_loop [3, 4] (fun t i => ∃ j : Nat, j ≤ M.k ∧ i = .int .i64 j ∧ t = .int .i64 (minP M.n (M.P.take j) : Int)) (fun _ i => M.k - (intOf i).toNat)
  case atStart => exact ⟨0, Nat.zero_le _, rfl, rfl⟩
  case round =>
    obtain ⟨j, hj, rfl, rfl⟩ := hrel
    by_cases hlt : j < M.k
    · have hjP : j < M.P.length := by rw [HS.out]; exact hlt
      have hst := minP_take (n := M.n) (P := M.P) (i := j) hjP
      obtain ⟨b, off, hA, hcell⟩ := HPA.out.at (by rw [show (natC M.P).length = M.P.length by simp [natC]]; omega)
      have hc := hcell j _ (natC_get hjP)
      have hq1 := HPL.out (M.P.getD j 0) (by simp [hjP])
      have hm0 := minP_le M.n (M.P.take j)
      obtain ⟨q, hq⟩ : ∃ q, M.P.getD j 0 = q := ⟨_, rfl⟩
      rw [hq] at hst hc hq1
      obtain ⟨t, ht⟩ : ∃ t, minP M.n (M.P.take j) = t := ⟨_, rfl⟩
      rw [ht] at hst hm0 ⊢
      rw [hA] at m3
      have HST := Lib.hid hst
      have hlt' : (j : Int) < (M.k : Int) := by omega
      have i0 : (0 : Int) ≤ (j : Int) := by omega
      clear hst hq ht hcell hA
      by_cases hqt : (q : Int) < (t : Int)
      · go_wp2_with fail
        go_round
        case rel => exact ⟨j + 1, by omega, by go_num, by rw [HST.out]; congr 1; omega⟩
        case measure => simp [intOf]; omega
      · go_wp2_with fail
        go_round
        case rel => exact ⟨j + 1, by omega, by go_num, by rw [HST.out]; congr 1; omega⟩
        case measure => simp [intOf]; omega
    · obtain rfl : j = M.k := by omega
      have ht : minP M.n (M.P.take M.k) = M.top := by rw [← HS.out, List.take_length]; rfl
      rw [ht]
      clear ht
      go_wp2_with fail
      go_ret
      exact ⟨rfl, hB0⟩

set_option maxHeartbeats 4000000 in
theorem rleft_any (w : World) (bad : List Nat) (M : Mdl) (r : RV) (hr : RefV w bad M r) (hg : Sm M) :
    Calls Try.prog 102 #[r.val M] w fun e w' => e = .returned (.int .i64 M.left) ∧ Below w.heap.size w w' := by
  have hk := hg.k1
  have hn := hg.n1
  have hh := hg.h1
  have HCL := Lib.hid hg.clen
  obtain ⟨W0, hW0⟩ : ∃ W, W = w.alloc (.cells #[.int .i64 (M.n : Int), .slice r.FA M.h r.fc, .slice r.CA M.k r.cc, .slice r.PA M.P.length r.pc] 33) := ⟨_, rfl⟩
  have hB0 : Below w.heap.size w W0 := by rw [hW0]; exact (Below.refl _ _).alloc (Nat.le_refl _) _
  have hR0 : RpAt W0 w.heap.size r M := by rw [hW0]; exact RpAt.made w r M _
  have HCA := Lib.hid (hr.cells.keep hB0)
  have HRW := Lib.hid hr.rows
  obtain ⟨m0, m1, m2, m3⟩ := hR0.all
  have HW := Lib.hid hW0
  clear hW0 hR0 m3 hr hg
  unfold RV.val
  go_enter Try.func102, Try.ntmps102
  go_upto_region 1 with fail
  rw [← HW.out]
  clear HW
  go_wp2_with fail
  go_loop [3, 4] (fun t i => ∃ j : Nat, j ≤ M.k ∧ i = .int .i64 j ∧ t = .int .i64 ((M.n : Int) - (M.h : Int) - 2 - (takenC (M.C.take j) : Int))) (fun _ i => M.k - (intOf i).toNat)
  case atStart => exact ⟨0, Nat.zero_le _, rfl, by simp [takenC]⟩
  case round =>
    obtain ⟨j, hj, rfl, rfl⟩ := hrel
    by_cases hlt : j < M.k
    · have hst := takenC_take (C := M.C) (i := j) hlt
      obtain ⟨s, hs1, hs2⟩ := HRW.out.get hlt
      obtain ⟨b, off, hA, hcell⟩ := HCA.out.at (by rw [show (rowC r.S).length = r.S.length by simp [rowC], HRW.out.len]; exact Nat.lt_of_le_of_lt (Nat.zero_le _) hlt)
      have hc := hcell j _ (rowC_get hs1)
      have hsn := hs2.1
      have htk := takenC_le (C := M.C.take j) 4096 (fun d hd => HCL.out d (List.mem_of_mem_take hd))
      have htl : (M.C.take j).length ≤ 2047 := by rw [List.length_take]; show min j M.k ≤ 2047; omega
      have htk2 : takenC (M.C.take j) ≤ 8400000 := by
        have : (4 + 4096) * (M.C.take j).length ≤ 4100 * 2047 := Nat.mul_le_mul_left _ htl
        omega
      have hlen : (M.C.getD j []).length ≤ 4096 := HCL.out _ (by have : j < M.C.length := hlt; simp [this])
      obtain ⟨sA, sn, sc⟩ := s
      simp only at hc hsn
      rw [← hsn] at hst hlen
      obtain ⟨t, ht⟩ : ∃ t, takenC (M.C.take j) = t := ⟨_, rfl⟩
      rw [ht] at hst htk2 ⊢
      rw [hA] at m2
      have HST := Lib.hid hst
      have hlt' : (j : Int) < (M.k : Int) := by omega
      have i0 : (0 : Int) ≤ (j : Int) := by omega
      clear hst ht hcell hA htk htl hsn hs2 hs1
      go_wp2_with fail
      go_round
      case rel => exact ⟨j + 1, by omega, by go_num, by rw [HST.out]; congr 1; omega⟩
      case measure => simp [intOf]; omega
    · obtain rfl : j = M.k := by omega
      have ht : (M.n : Int) - (M.h : Int) - 2 - (takenC (M.C.take M.k) : Int) = M.left := by unfold Mdl.left Mdl.k; rw [List.take_length]
      rw [ht]
      clear ht
      go_wp2_with fail
      go_ret
      exact ⟨rfl, hB0⟩

set_option maxHeartbeats 4000000 in
theorem rRoom_any (w : World) (bad : List Nat) (M : Mdl) (r : RV) (hr : RefV w bad M r) (hg : Sm M) :
    Calls Try.prog 59 #[r.val M] w fun e w' => e = .returned (.int .i64 M.room) ∧ Below w.heap.size w w' := by
  have HG := Lib.hid hg
  have hb := hg.left_bd
  obtain ⟨W0, hW0⟩ : ∃ W, W = w.alloc (.cells #[.int .i64 (M.n : Int), .slice r.FA M.h r.fc, .slice r.CA M.k r.cc, .slice r.PA M.P.length r.pc] 33) := ⟨_, rfl⟩
  have hB0 : Below w.heap.size w W0 := by rw [hW0]; exact (Below.refl _ _).alloc (Nat.le_refl _) _
  have HR0 := Lib.hid (show RpAt W0 w.heap.size r M by rw [hW0]; exact RpAt.made w r M _)
  have HRV := Lib.hid (hr.keep hB0)
  have HR := Lib.hid (show M.room = if M.left < 4 then -1 else M.left - 4 from rfl)
  have HW := Lib.hid hW0
  clear hW0 hr hg
  unfold RV.val
  go_enter Try.func59, Try.ntmps59
  go_upto_region 1 with fail
  rw [← HW.out]
  clear HW
  go_step
  refine wp_load_rp rfl _ rfl w.heap.size r M rfl HR0.out ?_
  go_wp2_with fail
  refine (rleft_any _ bad M r HRV.out HG.out).mono ?_
  rintro e w1 ⟨rfl, hb1⟩
  have hB1 : Below w.heap.size w w1 := hB0.trans (hb1.mono hB0.size)
  have HR1 := Lib.hid (HR0.out.keep hb1)
  have HRV1 := Lib.hid (HRV.out.keep hb1)
  clear hb1
  by_cases h4 : M.left < 4
  · go_wp2_with fail
    go_ret
    exact ⟨ret_int (by rw [HR.out, if_pos h4]), hB1⟩
  · go_upto_region 3 with fail
    go_step
    refine wp_load_rp rfl _ rfl w.heap.size r M rfl HR1.out ?_
    go_wp2_with fail
    refine (rleft_any _ bad M r HRV1.out HG.out).mono ?_
    rintro e w2 ⟨rfl, hb2⟩
    have hB2 : Below w.heap.size w w2 := hB1.trans (hb2.mono hB1.size)
    obtain ⟨t, ht⟩ : ∃ t, M.left = t := ⟨_, rfl⟩
    rw [ht] at hb HR h4 ⊢
    clear ht
    go_wp2_with fail
    go_ret
    exact ⟨ret_int (by rw [HR.out, if_neg (by omega)]), hB2⟩
end Go.Proofs.Ytoeaffmlolapnaa
