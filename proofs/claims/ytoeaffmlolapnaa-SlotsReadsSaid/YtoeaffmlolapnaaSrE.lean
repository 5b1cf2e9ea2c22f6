/- Walks: the document's New; small. -/
import Derived.Test.YtoeaffmlolapnaaSrB
import Derived.Test.YtoeaffmlolapnaaSrD
import Derived.Test.YtoeaffmlolapnaaSlW
namespace Go.Proofs.Ytoeaffmlolapnaa
open Go.RowKit
set_option maxRecDepth 100000
set_option linter.unusedVariables false
set_option linter.unusedSimpArgs false
set_option linter.unnecessarySimpa false

def zeroM : Mdl := ⟨0, [], [], []⟩
def zeroRV : RV := ⟨none, 0, none, 0, none, 0, []⟩
theorem zero_val : zeroRV.val zeroM = .agg #[.int .i64 0, .slice none 0 0, .slice none 0 0, .slice none 0 0] := rfl
theorem zero_ref (w : World) (bad : List Nat) : RefV w bad zeroM zeroRV :=
  ⟨.inl rfl, ⟨Nat.le_refl _, Nat.zero_le _⟩, .inl rfl, trivial, ⟨Nat.le_refl _, Nat.zero_le _⟩, .inl rfl, ⟨Nat.le_refl _, Nat.zero_le _⟩⟩
theorem zero_sm : Sm zeroM where
  n1 := by decide
  h1 := by decide
  k1 := by decide
  same := rfl
  clen := fun c hc => by simp [zeroM] at hc
  plen := fun c hc => by simp [zeroM] at hc
  room := by decide
theorem zero_left : zeroM.left = -2 := by decide
theorem zero_do (d : Dd) : doM zeroM d = zeroM := by
  unfold doM insM remM
  rw [zero_left]
  have hk : (zeroM.k : Int) = 0 := rfl
  rw [hk]
  by_cases h : d.kd = 0
  · rw [if_pos h]
    split
    · rfl
    · rw [if_pos (by omega)]
  · rw [if_neg h]
    by_cases h1 : d.kd = 1
    · rw [if_pos h1, if_pos (by omega)]
    · rw [if_neg h1]
      rfl
def RNewBack (w : World) (bad : List Nat) (n h : Int) (e : Ending) (w' : World) : Prop :=
  Below w.heap.size w w' ∧ ∃ r' M z, e = .returned (.tuple #[r'.val M, .int .i64 z]) ∧ RefV w' bad M r' ∧ ((¬ mayP n h ∧ M = zeroM ∧ z = 1) ∨ (mayP n h ∧ M = newM n.toNat h.toNat ∧ z = 0))

set_option maxHeartbeats 8000000 in
theorem rNew_any (w : World) (bad : List Nat) (n h : Int) (hn : -9223372036854775808 ≤ n ∧ n ≤ 9223372036854775807) (hh : -9223372036854775808 ≤ h ∧ h ≤ 9223372036854775807) (hbad : ∀ g ∈ bad, g < w.heap.size) (R : Ending → World → Prop) (hR : R = RNewBack w bad n h) :
    Calls Try.prog 18 #[.int .i64 n, .int .i64 h] w R := by
  have HR := Lib.hid hR; clear hR
  have HBAD := Lib.hid hbad; clear hbad
  obtain ⟨W1, hW1⟩ : ∃ W, W = w.alloc (.cells #[.int .i64 0, .slice none 0 0, .slice none 0 0, .slice none 0 0] 33) := ⟨_, rfl⟩
  have hb1 : Below w.heap.size w W1 := by rw [hW1]; exact (Below.refl _ _).alloc (Nat.le_refl _) _
  have hT1 : W1.there w.heap.size 0 4 := by rw [hW1]; exact there_new4 w _ _ _ _ _
  have HT1 := Lib.hid hT1
  have HW := Lib.hid hW1
  clear hW1 hT1
  by_cases hm : mayP n h
  · have HM := Lib.hid hm
    obtain ⟨h1, h2, h3, h4⟩ := hm
    obtain ⟨N, rfl⟩ := Int.eq_ofNat_of_zero_le (show 0 ≤ n by omega)
    obtain ⟨D, rfl⟩ := Int.eq_ofNat_of_zero_le h3
    have hD : D ≤ 64 := by omega
    have hmk := run_mk D D (Nat.le_refl _) (by omega)
    obtain ⟨W2, hW2⟩ : ∃ W, W = W1.alloc (.cells (zrs D) 5) := ⟨_, rfl⟩
    have hb2 : Below W1.heap.size W1 W2 := by rw [hW2]; exact (Below.refl _ _).alloc (Nat.le_refl _) _
    have HO2 := Lib.hid (show OwnB W2 W1.heap.size (some ⟨W1.heap.size, 0, none⟩) D D (List.replicate D 0) by rw [hW2]; exact OwnB.zeros W1 _ D (Nat.le_refl _) (by unfold maxLen; omega))
    have hz1 := hb1.size
    have hl1 : w.heap.size < W1.heap.size := by rw [HW.out]; simp
    have HT2 := Lib.hid (there_keepR HT1.out hb2 hl1)
    have HW2 := Lib.hid hW2
    clear hW2
    obtain ⟨r, hr⟩ : ∃ r : RV, r = ⟨some ⟨W1.heap.size, 0, none⟩, D, none, 0, none, 0, []⟩ := ⟨_, rfl⟩
    have HVAL := Lib.hid (show Value.agg #[.int .i64 (N : Int), .slice (some ⟨W1.heap.size, 0, none⟩) D D, .slice none 0 0, .slice none 0 0] = r.val (newM N D) by rw [hr]; simp [RV.val, newM, Mdl.h, Mdl.k])
    have HRE := Lib.hid hr
    clear hr
    go_enter Try.func18, Try.ntmps18
    go_upto_region 1 with fail
    rw [← HW.out]
    clear HW
    go_upto_region 3 with fail
    iterate 13 go_step
    clear hmk
    rw [← HW2.out]
    clear HW2
    refine wp_store_rp rfl _ _ rfl w.heap.size r (newM N D) rfl HVAL.out HT2.out ?_
    repeat go_step
    refine ret_rp rfl rfl (RpAt.stored HT2.out r (newM N D)) rfl ?_
    rw [HR.out]
    have hbe : Below w.heap.size w (W2.setCells w.heap.size 0 (rpC r (newM N D))) := below_setCellsR (hb1.trans (hb2.mono hz1)) (Nat.le_refl _) _ _
    refine ⟨hbe, r, newM N D, 0, rfl, ?_, .inr ⟨HM.out, rfl, rfl⟩⟩
    have h1 : RdG W2 (w.heap.size :: bad) (some ⟨W1.heap.size, 0, none⟩) (vb (List.replicate D 0)) := HO2.out.rdG fun g hg => by
      rcases List.mem_cons.1 hg with h | h
      · omega
      · have := HBAD.out g h; omega
    have hre := HRE.out
    subst hre
    refine ⟨h1.frame (fun i hi _ => ?_) (fun g hg => List.mem_cons_of_mem _ hg), ⟨?_, by unfold maxLen; simp only; omega⟩, .inl rfl, trivial, ⟨Nat.zero_le _, Nat.zero_le _⟩, .inl rfl, ⟨Nat.zero_le _, Nat.zero_le _⟩⟩
    · simp only [List.mem_cons, not_or] at hi
      exact heap_setCells_ne _ _ _ _ hi.1
    · rw [new_h]; exact Nat.le_refl _
  · have HM := Lib.hid hm
    have hcase : n < 256 ∨ (256 ≤ n ∧ 4096 < n) ∨ (256 ≤ n ∧ n ≤ 4096 ∧ h < 0) ∨ (256 ≤ n ∧ n ≤ 4096 ∧ 0 ≤ h ∧ 64 < h) := by
      unfold mayP at hm
      omega
    clear hm
    rcases hcase with h1 | ⟨h1, h2⟩ | ⟨h1, h2, h3⟩ | ⟨h1, h2, h3, h4⟩
    all_goals
      go_enter Try.func18, Try.ntmps18
      go_upto_region 1 with fail
      rw [← HW.out]
      clear HW
      go_upto_region 2 with fail
      iterate 4 go_step
      refine wp_store_rp rfl _ _ rfl w.heap.size zeroRV zeroM rfl rfl HT1.out ?_
      repeat go_step
      refine ret_rp rfl rfl (RpAt.stored HT1.out zeroRV zeroM) rfl ?_
      rw [HR.out]
      have hbe : Below w.heap.size w (W1.setCells w.heap.size 0 (rpC zeroRV zeroM)) := below_setCellsR hb1 (Nat.le_refl _) _ _
      exact ⟨hbe, zeroRV, zeroM, 1, rfl, zero_ref _ _, .inl ⟨HM.out, rfl, rfl⟩⟩

set_option maxHeartbeats 8000000 in
theorem small9_any (w : World) (A : Option Addr) (n c : Nat) (F : List Dd) (hn : F.length = n) (hnc : n ≤ c) (hcm : c ≤ maxLen) (hA : RdDd w A F) :
    Calls Try.prog 15 #[.slice A n c] w fun e w' => e = .returned (.bool (decide (smallD F))) ∧ w = w' := by
  have HA := Lib.hid hA
  have HN := Lib.hid hn
  have hnm : n ≤ 9223372036854775807 := by unfold maxLen at hcm; omega
  clear hA hn hcm
  by_cases hg : n ≤ 100
  case neg =>
    have hno : decide (smallD F) = false := decide_eq_false (fun h => by have := h.1; rw [HN.out] at this; omega)
    rw [hno]
    have hg' : (100 : Int) < (n : Int) := by omega
    go_enter Try.func15, Try.ntmps15
    go_wp2_with fail
    go_ret
    exact ⟨rfl, rfl⟩
  obtain ⟨R, hR⟩ : ∃ R : Ending → World → Prop, R = fun e w' => e = .returned (.bool (decide (smallD F))) ∧ w = w' := ⟨_, rfl⟩
  rw [← hR]
  have HR := Lib.hid hR
  clear hR
  go_enter Try.func15, Try.ntmps15
  go_wp2_with fail
  go_loop [3] (fun i => ∃ j : Nat, j ≤ n ∧ i = .int .i64 j ∧ Hid (∀ d ∈ F.take j, d.b.length ≤ 8192)) (fun i => n - (intOf i).toNat)
  case atStart => exact ⟨0, Nat.zero_le _, rfl, Lib.hid (by simp)⟩
  case round =>
    obtain ⟨j, hj, rfl, HJ⟩ := hrel
    by_cases hlt : j < n
    · have hjF : j < F.length := by rw [HN.out]; exact hlt
      obtain ⟨b, off, hA, hcell⟩ := HA.out.at (by omega)
      obtain ⟨B, cB, _, _, h3, h4, h5, _⟩ := hcell j hjF
      have hd : dd_ F j ∈ F := by rw [dd_lt hjF]; exact List.getElem_mem hjF
      obtain ⟨m, hm⟩ : ∃ m, (dd_ F j).b.length = m := ⟨_, rfl⟩
      rw [hm] at h3 h4
      have HM := Lib.hid hm
      have HD := Lib.hid hd
      subst hA
      have hlt' : (j : Int) < (n : Int) := by omega
      have i0 : (0 : Int) ≤ (j : Int) := by omega
      have hm63 : m ≤ 9223372036854775807 := by unfold maxLen at h5; omega
      clear hcell hm hd h5
      by_cases hbig : (8192 : Int) < (m : Int)
      · have hno : decide (smallD F) = false := decide_eq_false (fun h => by have := h.2 _ HD.out; rw [HM.out] at this; omega)
        go_wp2_with fail
        rw [HR.out, hno]
        exact ⟨rfl, rfl⟩
      · go_wp2_with fail
        go_round
        case rel =>
          refine ⟨j + 1, by omega, by go_num, Lib.hid (fun d hd => ?_)⟩
          rw [List.take_succ_eq_append_getElem hjF] at hd
          rcases List.mem_append.1 hd with h | h
          · exact HJ.out d h
          · have e : d = dd_ F j := by rw [dd_lt hjF]; simpa using h
            rw [e, HM.out]; omega
        case measure => simp [intOf]; omega
    · obtain rfl : j = n := by omega
      have hyes : decide (smallD F) = true := decide_eq_true ⟨by rw [HN.out]; exact hg, fun d hd => HJ.out d (by rw [← HN.out, List.take_length]; exact hd)⟩
      go_wp2_with fail
      rw [HR.out, hyes]
      exact ⟨rfl, rfl⟩
end Go.Proofs.Ytoeaffmlolapnaa
