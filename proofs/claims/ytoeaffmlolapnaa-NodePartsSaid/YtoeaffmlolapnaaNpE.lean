/- Several texts of this proof as one: ClB. Laid by merge.py. -/
import Derived.Test.YtoeaffmlolapnaaNpA
import Derived.Test.YtoeaffmlolapnaaNpB
import Derived.Test.YtoeaffmlolapnaaNpD
import Derived.BigQuiet
import Derived.Deep.DeepCutAuto
import Derived.Deep.QuietTactic
import Derived.Handy
import Derived.Lib.Hide
import Derived.Maps.AppendAt
import Derived.Test.YtoeaffmlolapnaaProg
import Derived.WalkKit
import Derived.WalkSpells
namespace Go.Proofs.Ytoeaffmlolapnaa
section
open Go.RowKit
set_option maxRecDepth 100000
set_option maxHeartbeats 8000000 in
theorem rcheck_one (w : World) (ky ch tt sp : Int) (lo : List Int) (A : Option Addr) (n d : Nat) (hc : (⟨ky, ch, tt, sp, lo⟩ : Cl).ok) (_hn : (n : Int) ≤ 9223372036854775807) (R : Ending → World → Prop) (hR : R = fun e w' => e = .returned (.int .i64 (checkZ 1 ⟨ky, ch, tt, sp, lo⟩ n)) ∧ Below w.heap.size w w') :
    Calls Try.prog 86 #[.int .i64 1, .agg #[.int .i64 ky, .int .i64 ch, .int .i64 tt, .slice A n d, .int .i64 sp]] w R := by
  have HR := Lib.hid hR; clear hR
  obtain ⟨c0, c1, c2, c3⟩ := hc
  simp only at c0 c1 c2 c3
  obtain ⟨W1, hW1⟩ : ∃ W, W = w.alloc (.cells #[.int .i64 ky, .int .i64 ch, .int .i64 tt, .slice A n d, .int .i64 sp] 55) := ⟨_, rfl⟩
  have hbW : Below w.heap.size w W1 := by rw [hW1]; exact (Below.refl _ _).alloc (Nat.le_refl _) _
  have k0 : W1.cell? ⟨w.heap.size, 0, none⟩ = some (.int .i64 ky) := by rw [hW1]; simp [go_sem]
  have k1 : W1.cell? ⟨w.heap.size, 1, none⟩ = some (.int .i64 ch) := by rw [hW1]; simp [go_sem]
  have k2 : W1.cell? ⟨w.heap.size, 2, none⟩ = some (.int .i64 tt) := by rw [hW1]; simp [go_sem]
  have k3 : W1.cell? ⟨w.heap.size, 3, none⟩ = some (.slice A n d) := by rw [hW1]; simp [go_sem]
  have k4 : W1.cell? ⟨w.heap.size, 4, none⟩ = some (.int .i64 sp) := by rw [hW1]; simp [go_sem]
  have HW := Lib.hid hW1
  have hend : ∀ z, checkZ 1 ⟨ky, ch, tt, sp, lo⟩ n = z → R (.returned (.int .i64 z)) W1 := by
    intro z hz
    rw [HR.out]
    exact ⟨by rw [hz], hbW⟩
  have HEND := Lib.hid hend; clear hend
  go_enter Try.func86, Try.ntmps86
  go_wp2_with fail
  rw [← hW1]
  clear hW1 HW

  refine (rkind_any _ _).mono ?_
  rintro e w1 ⟨rfl, rfl⟩
  simp only [show decide (isK 1) = true from rfl]
  by_cases hch : ch = 0
  rotate_left
  · have ech : (ch != 0) = true := by simp [hch]
    go_wp2_with (first | (go_at_call 78; refine (rchild_any _ _).mono ?_; rintro e w1 ⟨rfl, rfl⟩; simp only [show decide (hasC 1) = false from rfl]) | (go_at_call 80; refine (rkeyed_any _ _).mono ?_; rintro e w1 ⟨rfl, rfl⟩; simp only [show decide (hasK 1) = true from rfl]) | (go_at_call 82; refine (rpays_any _ _).mono ?_; rintro e w1 ⟨rfl, rfl⟩; simp only [show decide ((1 : Int) ≠ 2) = true from rfl]))
    exact HEND.out 1 (if_neg (fun h => by simp [goodC, goodL, isP, hasC, hasK, isK] at h; omega))
  have ech : (ch != 0) = false := by simp [hch]
  by_cases hlo : 0 ≤ tt
  rotate_left
  · skip
    go_wp2_with (first | (go_at_call 78; refine (rchild_any _ _).mono ?_; rintro e w1 ⟨rfl, rfl⟩; simp only [show decide (hasC 1) = false from rfl]) | (go_at_call 80; refine (rkeyed_any _ _).mono ?_; rintro e w1 ⟨rfl, rfl⟩; simp only [show decide (hasK 1) = true from rfl]) | (go_at_call 82; refine (rpays_any _ _).mono ?_; rintro e w1 ⟨rfl, rfl⟩; simp only [show decide ((1 : Int) ≠ 2) = true from rfl]))
    exact HEND.out 1 (if_neg (fun h => by simp [goodC, goodL, isP, hasC, hasK, isK] at h; omega))
  by_cases hhi : tt ≤ 16384
  rotate_left
  · skip
    go_wp2_with (first | (go_at_call 78; refine (rchild_any _ _).mono ?_; rintro e w1 ⟨rfl, rfl⟩; simp only [show decide (hasC 1) = false from rfl]) | (go_at_call 80; refine (rkeyed_any _ _).mono ?_; rintro e w1 ⟨rfl, rfl⟩; simp only [show decide (hasK 1) = true from rfl]) | (go_at_call 82; refine (rpays_any _ _).mono ?_; rintro e w1 ⟨rfl, rfl⟩; simp only [show decide ((1 : Int) ≠ 2) = true from rfl]))
    exact HEND.out 1 (if_neg (fun h => by simp [goodC, goodL, isP, hasC, hasK, isK] at h; omega))
  by_cases hnl : (n : Int) ≤ tt
  rotate_left
  · skip
    go_wp2_with (first | (go_at_call 78; refine (rchild_any _ _).mono ?_; rintro e w1 ⟨rfl, rfl⟩; simp only [show decide (hasC 1) = false from rfl]) | (go_at_call 80; refine (rkeyed_any _ _).mono ?_; rintro e w1 ⟨rfl, rfl⟩; simp only [show decide (hasK 1) = true from rfl]) | (go_at_call 82; refine (rpays_any _ _).mono ?_; rintro e w1 ⟨rfl, rfl⟩; simp only [show decide ((1 : Int) ≠ 2) = true from rfl]))
    exact HEND.out 1 (if_neg (fun h => by simp [goodC, goodL, isP, hasC, hasK, isK] at h; omega))
  by_cases hq : (n : Int) = tt
  · have eq : ((n : Int) == tt) = true := by simp [hq]
    have nl : ¬ (n : Int) < tt := by omega
    by_cases hsp : sp = 0
    rotate_left
    · have esp : (sp != 0) = true := by simp [hsp]
      go_wp2_with (first | (go_at_call 78; refine (rchild_any _ _).mono ?_; rintro e w1 ⟨rfl, rfl⟩; simp only [show decide (hasC 1) = false from rfl]) | (go_at_call 80; refine (rkeyed_any _ _).mono ?_; rintro e w1 ⟨rfl, rfl⟩; simp only [show decide (hasK 1) = true from rfl]) | (go_at_call 82; refine (rpays_any _ _).mono ?_; rintro e w1 ⟨rfl, rfl⟩; simp only [show decide ((1 : Int) ≠ 2) = true from rfl]))
      exact HEND.out 1 (if_neg (fun h => by simp [goodC, goodL, isP, hasC, hasK, isK] at h; omega))
    have esp : (sp != 0) = false := by simp [hsp]
    go_wp2_with (first | (go_at_call 78; refine (rchild_any _ _).mono ?_; rintro e w1 ⟨rfl, rfl⟩; simp only [show decide (hasC 1) = false from rfl]) | (go_at_call 80; refine (rkeyed_any _ _).mono ?_; rintro e w1 ⟨rfl, rfl⟩; simp only [show decide (hasK 1) = true from rfl]) | (go_at_call 82; refine (rpays_any _ _).mono ?_; rintro e w1 ⟨rfl, rfl⟩; simp only [show decide ((1 : Int) ≠ 2) = true from rfl]))
    exact HEND.out 0 (if_pos ⟨⟨by omega, by omega⟩, fun h => by unfold hasC at h; exact ⟨by simp only; omega, by simp only; omega⟩, fun h => by unfold hasC at h; simp only; omega, fun h => by unfold hasK at h; simp only; omega, fun h => ⟨by simp only; omega, by simp only; omega, by simp only; omega, fun h2 => by simp only at h2; simp only; omega, fun h2 => ⟨by simp only at h2; simp only; omega, by simp only at h2; simp only; omega⟩⟩, fun h => ⟨by simp only; omega, by omega, by simp only; omega⟩⟩)
  · have eq : ((n : Int) == tt) = false := by simp [hq]
    have nl : (n : Int) < tt := by omega
    by_cases gs1 : 1 ≤ sp
    rotate_left
    · skip
      go_wp2_with (first | (go_at_call 78; refine (rchild_any _ _).mono ?_; rintro e w1 ⟨rfl, rfl⟩; simp only [show decide (hasC 1) = false from rfl]) | (go_at_call 80; refine (rkeyed_any _ _).mono ?_; rintro e w1 ⟨rfl, rfl⟩; simp only [show decide (hasK 1) = true from rfl]) | (go_at_call 82; refine (rpays_any _ _).mono ?_; rintro e w1 ⟨rfl, rfl⟩; simp only [show decide ((1 : Int) ≠ 2) = true from rfl]))
      exact HEND.out 1 (if_neg (fun h => by simp [goodC, goodL, isP, hasC, hasK, isK] at h; omega))
    by_cases gs2 : sp ≤ 1048576
    rotate_left
    · skip
      go_wp2_with (first | (go_at_call 78; refine (rchild_any _ _).mono ?_; rintro e w1 ⟨rfl, rfl⟩; simp only [show decide (hasC 1) = false from rfl]) | (go_at_call 80; refine (rkeyed_any _ _).mono ?_; rintro e w1 ⟨rfl, rfl⟩; simp only [show decide (hasK 1) = true from rfl]) | (go_at_call 82; refine (rpays_any _ _).mono ?_; rintro e w1 ⟨rfl, rfl⟩; simp only [show decide ((1 : Int) ≠ 2) = true from rfl]))
      exact HEND.out 1 (if_neg (fun h => by simp [goodC, goodL, isP, hasC, hasK, isK] at h; omega))
    go_wp2_with (first | (go_at_call 78; refine (rchild_any _ _).mono ?_; rintro e w1 ⟨rfl, rfl⟩; simp only [show decide (hasC 1) = false from rfl]) | (go_at_call 80; refine (rkeyed_any _ _).mono ?_; rintro e w1 ⟨rfl, rfl⟩; simp only [show decide (hasK 1) = true from rfl]) | (go_at_call 82; refine (rpays_any _ _).mono ?_; rintro e w1 ⟨rfl, rfl⟩; simp only [show decide ((1 : Int) ≠ 2) = true from rfl]))
    exact HEND.out 0 (if_pos ⟨⟨by omega, by omega⟩, fun h => by unfold hasC at h; exact ⟨by simp only; omega, by simp only; omega⟩, fun h => by unfold hasC at h; simp only; omega, fun h => by unfold hasK at h; simp only; omega, fun h => ⟨by simp only; omega, by simp only; omega, by simp only; omega, fun h2 => by simp only at h2; simp only; omega, fun h2 => ⟨by simp only at h2; simp only; omega, by simp only at h2; simp only; omega⟩⟩, fun h => ⟨by simp only; omega, by omega, by simp only; omega⟩⟩)
set_option maxHeartbeats 8000000 in
theorem rcheck_two (w : World) (ky ch tt sp : Int) (lo : List Int) (A : Option Addr) (n d : Nat) (hc : (⟨ky, ch, tt, sp, lo⟩ : Cl).ok) (_hn : (n : Int) ≤ 9223372036854775807) (R : Ending → World → Prop) (hR : R = fun e w' => e = .returned (.int .i64 (checkZ 2 ⟨ky, ch, tt, sp, lo⟩ n)) ∧ Below w.heap.size w w') :
    Calls Try.prog 86 #[.int .i64 2, .agg #[.int .i64 ky, .int .i64 ch, .int .i64 tt, .slice A n d, .int .i64 sp]] w R := by
  have HR := Lib.hid hR; clear hR
  obtain ⟨c0, c1, c2, c3⟩ := hc
  simp only at c0 c1 c2 c3
  obtain ⟨W1, hW1⟩ : ∃ W, W = w.alloc (.cells #[.int .i64 ky, .int .i64 ch, .int .i64 tt, .slice A n d, .int .i64 sp] 55) := ⟨_, rfl⟩
  have hbW : Below w.heap.size w W1 := by rw [hW1]; exact (Below.refl _ _).alloc (Nat.le_refl _) _
  have k0 : W1.cell? ⟨w.heap.size, 0, none⟩ = some (.int .i64 ky) := by rw [hW1]; simp [go_sem]
  have k1 : W1.cell? ⟨w.heap.size, 1, none⟩ = some (.int .i64 ch) := by rw [hW1]; simp [go_sem]
  have k2 : W1.cell? ⟨w.heap.size, 2, none⟩ = some (.int .i64 tt) := by rw [hW1]; simp [go_sem]
  have k3 : W1.cell? ⟨w.heap.size, 3, none⟩ = some (.slice A n d) := by rw [hW1]; simp [go_sem]
  have k4 : W1.cell? ⟨w.heap.size, 4, none⟩ = some (.int .i64 sp) := by rw [hW1]; simp [go_sem]
  have HW := Lib.hid hW1
  have hend : ∀ z, checkZ 2 ⟨ky, ch, tt, sp, lo⟩ n = z → R (.returned (.int .i64 z)) W1 := by
    intro z hz
    rw [HR.out]
    exact ⟨by rw [hz], hbW⟩
  have HEND := Lib.hid hend; clear hend
  go_enter Try.func86, Try.ntmps86
  go_wp2_with fail
  rw [← hW1]
  clear hW1 HW

  refine (rkind_any _ _).mono ?_
  rintro e w1 ⟨rfl, rfl⟩
  simp only [show decide (isK 2) = true from rfl]
  by_cases gch1 : 1 ≤ ch
  rotate_left
  · skip
    go_wp2_with (first | (go_at_call 78; refine (rchild_any _ _).mono ?_; rintro e w1 ⟨rfl, rfl⟩; simp only [show decide (hasC 2) = true from rfl]) | (go_at_call 80; refine (rkeyed_any _ _).mono ?_; rintro e w1 ⟨rfl, rfl⟩; simp only [show decide (hasK 2) = true from rfl]) | (go_at_call 82; refine (rpays_any _ _).mono ?_; rintro e w1 ⟨rfl, rfl⟩; simp only [show decide ((2 : Int) ≠ 2) = false from rfl]))
    exact HEND.out 1 (if_neg (fun h => by simp [goodC, goodL, isP, hasC, hasK, isK] at h; omega))
  by_cases gch2 : ch ≤ 1048576
  rotate_left
  · skip
    go_wp2_with (first | (go_at_call 78; refine (rchild_any _ _).mono ?_; rintro e w1 ⟨rfl, rfl⟩; simp only [show decide (hasC 2) = true from rfl]) | (go_at_call 80; refine (rkeyed_any _ _).mono ?_; rintro e w1 ⟨rfl, rfl⟩; simp only [show decide (hasK 2) = true from rfl]) | (go_at_call 82; refine (rpays_any _ _).mono ?_; rintro e w1 ⟨rfl, rfl⟩; simp only [show decide ((2 : Int) ≠ 2) = false from rfl]))
    exact HEND.out 1 (if_neg (fun h => by simp [goodC, goodL, isP, hasC, hasK, isK] at h; omega))
  by_cases htt : tt = 0
  rotate_left
  · have ett : (tt != 0) = true := by simp [htt]
    go_wp2_with (first | (go_at_call 78; refine (rchild_any _ _).mono ?_; rintro e w1 ⟨rfl, rfl⟩; simp only [show decide (hasC 2) = true from rfl]) | (go_at_call 80; refine (rkeyed_any _ _).mono ?_; rintro e w1 ⟨rfl, rfl⟩; simp only [show decide (hasK 2) = true from rfl]) | (go_at_call 82; refine (rpays_any _ _).mono ?_; rintro e w1 ⟨rfl, rfl⟩; simp only [show decide ((2 : Int) ≠ 2) = false from rfl]))
    exact HEND.out 1 (if_neg (fun h => by simp [goodC, goodL, isP, hasC, hasK, isK] at h; omega))
  have ett : (tt != 0) = false := by simp [htt]
  by_cases hn0 : n = 0
  rotate_left
  · have en : ((n : Int) != 0) = true := by simp [hn0]
    go_wp2_with (first | (go_at_call 78; refine (rchild_any _ _).mono ?_; rintro e w1 ⟨rfl, rfl⟩; simp only [show decide (hasC 2) = true from rfl]) | (go_at_call 80; refine (rkeyed_any _ _).mono ?_; rintro e w1 ⟨rfl, rfl⟩; simp only [show decide (hasK 2) = true from rfl]) | (go_at_call 82; refine (rpays_any _ _).mono ?_; rintro e w1 ⟨rfl, rfl⟩; simp only [show decide ((2 : Int) ≠ 2) = false from rfl]))
    exact HEND.out 1 (if_neg (fun h => by simp [goodC, goodL, isP, hasC, hasK, isK] at h; omega))
  have en : ((n : Int) != 0) = false := by simp [hn0]
  by_cases hsp : sp = 0
  rotate_left
  · have esp : (sp != 0) = true := by simp [hsp]
    go_wp2_with (first | (go_at_call 78; refine (rchild_any _ _).mono ?_; rintro e w1 ⟨rfl, rfl⟩; simp only [show decide (hasC 2) = true from rfl]) | (go_at_call 80; refine (rkeyed_any _ _).mono ?_; rintro e w1 ⟨rfl, rfl⟩; simp only [show decide (hasK 2) = true from rfl]) | (go_at_call 82; refine (rpays_any _ _).mono ?_; rintro e w1 ⟨rfl, rfl⟩; simp only [show decide ((2 : Int) ≠ 2) = false from rfl]))
    exact HEND.out 1 (if_neg (fun h => by simp [goodC, goodL, isP, hasC, hasK, isK] at h; omega))
  have esp : (sp != 0) = false := by simp [hsp]
  go_wp2_with (first | (go_at_call 78; refine (rchild_any _ _).mono ?_; rintro e w1 ⟨rfl, rfl⟩; simp only [show decide (hasC 2) = true from rfl]) | (go_at_call 80; refine (rkeyed_any _ _).mono ?_; rintro e w1 ⟨rfl, rfl⟩; simp only [show decide (hasK 2) = true from rfl]) | (go_at_call 82; refine (rpays_any _ _).mono ?_; rintro e w1 ⟨rfl, rfl⟩; simp only [show decide ((2 : Int) ≠ 2) = false from rfl]))
  exact HEND.out 0 (if_pos ⟨⟨by omega, by omega⟩, fun h => by unfold hasC at h; exact ⟨by simp only; omega, by simp only; omega⟩, fun h => by unfold hasC at h; simp only; omega, fun h => by unfold hasK at h; simp only; omega, fun h => ⟨by simp only; omega, by simp only; omega, by simp only; omega, fun h2 => by simp only at h2; simp only; omega, fun h2 => ⟨by simp only at h2; simp only; omega, by simp only at h2; simp only; omega⟩⟩, fun h => ⟨by simp only; omega, by omega, by simp only; omega⟩⟩)
set_option maxHeartbeats 8000000 in
theorem rcheck_three (w : World) (ky ch tt sp : Int) (lo : List Int) (A : Option Addr) (n d : Nat) (hc : (⟨ky, ch, tt, sp, lo⟩ : Cl).ok) (_hn : (n : Int) ≤ 9223372036854775807) (R : Ending → World → Prop) (hR : R = fun e w' => e = .returned (.int .i64 (checkZ 3 ⟨ky, ch, tt, sp, lo⟩ n)) ∧ Below w.heap.size w w') :
    Calls Try.prog 86 #[.int .i64 3, .agg #[.int .i64 ky, .int .i64 ch, .int .i64 tt, .slice A n d, .int .i64 sp]] w R := by
  have HR := Lib.hid hR; clear hR
  obtain ⟨c0, c1, c2, c3⟩ := hc
  simp only at c0 c1 c2 c3
  obtain ⟨W1, hW1⟩ : ∃ W, W = w.alloc (.cells #[.int .i64 ky, .int .i64 ch, .int .i64 tt, .slice A n d, .int .i64 sp] 55) := ⟨_, rfl⟩
  have hbW : Below w.heap.size w W1 := by rw [hW1]; exact (Below.refl _ _).alloc (Nat.le_refl _) _
  have k0 : W1.cell? ⟨w.heap.size, 0, none⟩ = some (.int .i64 ky) := by rw [hW1]; simp [go_sem]
  have k1 : W1.cell? ⟨w.heap.size, 1, none⟩ = some (.int .i64 ch) := by rw [hW1]; simp [go_sem]
  have k2 : W1.cell? ⟨w.heap.size, 2, none⟩ = some (.int .i64 tt) := by rw [hW1]; simp [go_sem]
  have k3 : W1.cell? ⟨w.heap.size, 3, none⟩ = some (.slice A n d) := by rw [hW1]; simp [go_sem]
  have k4 : W1.cell? ⟨w.heap.size, 4, none⟩ = some (.int .i64 sp) := by rw [hW1]; simp [go_sem]
  have HW := Lib.hid hW1
  have hend : ∀ z, checkZ 3 ⟨ky, ch, tt, sp, lo⟩ n = z → R (.returned (.int .i64 z)) W1 := by
    intro z hz
    rw [HR.out]
    exact ⟨by rw [hz], hbW⟩
  have HEND := Lib.hid hend; clear hend
  go_enter Try.func86, Try.ntmps86
  go_wp2_with fail
  rw [← hW1]
  clear hW1 HW

  refine (rkind_any _ _).mono ?_
  rintro e w1 ⟨rfl, rfl⟩
  simp only [show decide (isK 3) = true from rfl]
  by_cases hch : ch = 0
  rotate_left
  · have ech : (ch != 0) = true := by simp [hch]
    go_wp2_with (first | (go_at_call 78; refine (rchild_any _ _).mono ?_; rintro e w1 ⟨rfl, rfl⟩; simp only [show decide (hasC 3) = false from rfl]) | (go_at_call 80; refine (rkeyed_any _ _).mono ?_; rintro e w1 ⟨rfl, rfl⟩; simp only [show decide (hasK 3) = false from rfl]) | (go_at_call 82; refine (rpays_any _ _).mono ?_; rintro e w1 ⟨rfl, rfl⟩; simp only [show decide ((3 : Int) ≠ 2) = true from rfl]))
    exact HEND.out 1 (if_neg (fun h => by simp [goodC, goodL, isP, hasC, hasK, isK] at h; omega))
  have ech : (ch != 0) = false := by simp [hch]
  by_cases hky : ky = 0
  rotate_left
  · have eky : (ky != 0) = true := by simp [hky]
    go_wp2_with (first | (go_at_call 78; refine (rchild_any _ _).mono ?_; rintro e w1 ⟨rfl, rfl⟩; simp only [show decide (hasC 3) = false from rfl]) | (go_at_call 80; refine (rkeyed_any _ _).mono ?_; rintro e w1 ⟨rfl, rfl⟩; simp only [show decide (hasK 3) = false from rfl]) | (go_at_call 82; refine (rpays_any _ _).mono ?_; rintro e w1 ⟨rfl, rfl⟩; simp only [show decide ((3 : Int) ≠ 2) = true from rfl]))
    exact HEND.out 1 (if_neg (fun h => by simp [goodC, goodL, isP, hasC, hasK, isK] at h; omega))
  have eky : (ky != 0) = false := by simp [hky]
  by_cases hlo : 0 ≤ tt
  rotate_left
  · skip
    go_wp2_with (first | (go_at_call 78; refine (rchild_any _ _).mono ?_; rintro e w1 ⟨rfl, rfl⟩; simp only [show decide (hasC 3) = false from rfl]) | (go_at_call 80; refine (rkeyed_any _ _).mono ?_; rintro e w1 ⟨rfl, rfl⟩; simp only [show decide (hasK 3) = false from rfl]) | (go_at_call 82; refine (rpays_any _ _).mono ?_; rintro e w1 ⟨rfl, rfl⟩; simp only [show decide ((3 : Int) ≠ 2) = true from rfl]))
    exact HEND.out 1 (if_neg (fun h => by simp [goodC, goodL, isP, hasC, hasK, isK] at h; omega))
  by_cases hhi : tt ≤ 16384
  rotate_left
  · skip
    go_wp2_with (first | (go_at_call 78; refine (rchild_any _ _).mono ?_; rintro e w1 ⟨rfl, rfl⟩; simp only [show decide (hasC 3) = false from rfl]) | (go_at_call 80; refine (rkeyed_any _ _).mono ?_; rintro e w1 ⟨rfl, rfl⟩; simp only [show decide (hasK 3) = false from rfl]) | (go_at_call 82; refine (rpays_any _ _).mono ?_; rintro e w1 ⟨rfl, rfl⟩; simp only [show decide ((3 : Int) ≠ 2) = true from rfl]))
    exact HEND.out 1 (if_neg (fun h => by simp [goodC, goodL, isP, hasC, hasK, isK] at h; omega))
  by_cases hnl : (n : Int) ≤ tt
  rotate_left
  · skip
    go_wp2_with (first | (go_at_call 78; refine (rchild_any _ _).mono ?_; rintro e w1 ⟨rfl, rfl⟩; simp only [show decide (hasC 3) = false from rfl]) | (go_at_call 80; refine (rkeyed_any _ _).mono ?_; rintro e w1 ⟨rfl, rfl⟩; simp only [show decide (hasK 3) = false from rfl]) | (go_at_call 82; refine (rpays_any _ _).mono ?_; rintro e w1 ⟨rfl, rfl⟩; simp only [show decide ((3 : Int) ≠ 2) = true from rfl]))
    exact HEND.out 1 (if_neg (fun h => by simp [goodC, goodL, isP, hasC, hasK, isK] at h; omega))
  by_cases hq : (n : Int) = tt
  · have eq : ((n : Int) == tt) = true := by simp [hq]
    have nl : ¬ (n : Int) < tt := by omega
    by_cases hsp : sp = 0
    rotate_left
    · have esp : (sp != 0) = true := by simp [hsp]
      go_wp2_with (first | (go_at_call 78; refine (rchild_any _ _).mono ?_; rintro e w1 ⟨rfl, rfl⟩; simp only [show decide (hasC 3) = false from rfl]) | (go_at_call 80; refine (rkeyed_any _ _).mono ?_; rintro e w1 ⟨rfl, rfl⟩; simp only [show decide (hasK 3) = false from rfl]) | (go_at_call 82; refine (rpays_any _ _).mono ?_; rintro e w1 ⟨rfl, rfl⟩; simp only [show decide ((3 : Int) ≠ 2) = true from rfl]))
      exact HEND.out 1 (if_neg (fun h => by simp [goodC, goodL, isP, hasC, hasK, isK] at h; omega))
    have esp : (sp != 0) = false := by simp [hsp]
    go_wp2_with (first | (go_at_call 78; refine (rchild_any _ _).mono ?_; rintro e w1 ⟨rfl, rfl⟩; simp only [show decide (hasC 3) = false from rfl]) | (go_at_call 80; refine (rkeyed_any _ _).mono ?_; rintro e w1 ⟨rfl, rfl⟩; simp only [show decide (hasK 3) = false from rfl]) | (go_at_call 82; refine (rpays_any _ _).mono ?_; rintro e w1 ⟨rfl, rfl⟩; simp only [show decide ((3 : Int) ≠ 2) = true from rfl]))
    exact HEND.out 0 (if_pos ⟨⟨by omega, by omega⟩, fun h => by unfold hasC at h; exact ⟨by simp only; omega, by simp only; omega⟩, fun h => by unfold hasC at h; simp only; omega, fun h => by unfold hasK at h; simp only; omega, fun h => ⟨by simp only; omega, by simp only; omega, by simp only; omega, fun h2 => by simp only at h2; simp only; omega, fun h2 => ⟨by simp only at h2; simp only; omega, by simp only at h2; simp only; omega⟩⟩, fun h => ⟨by simp only; omega, by omega, by simp only; omega⟩⟩)
  · have eq : ((n : Int) == tt) = false := by simp [hq]
    have nl : (n : Int) < tt := by omega
    by_cases gs1 : 1 ≤ sp
    rotate_left
    · skip
      go_wp2_with (first | (go_at_call 78; refine (rchild_any _ _).mono ?_; rintro e w1 ⟨rfl, rfl⟩; simp only [show decide (hasC 3) = false from rfl]) | (go_at_call 80; refine (rkeyed_any _ _).mono ?_; rintro e w1 ⟨rfl, rfl⟩; simp only [show decide (hasK 3) = false from rfl]) | (go_at_call 82; refine (rpays_any _ _).mono ?_; rintro e w1 ⟨rfl, rfl⟩; simp only [show decide ((3 : Int) ≠ 2) = true from rfl]))
      exact HEND.out 1 (if_neg (fun h => by simp [goodC, goodL, isP, hasC, hasK, isK] at h; omega))
    by_cases gs2 : sp ≤ 1048576
    rotate_left
    · skip
      go_wp2_with (first | (go_at_call 78; refine (rchild_any _ _).mono ?_; rintro e w1 ⟨rfl, rfl⟩; simp only [show decide (hasC 3) = false from rfl]) | (go_at_call 80; refine (rkeyed_any _ _).mono ?_; rintro e w1 ⟨rfl, rfl⟩; simp only [show decide (hasK 3) = false from rfl]) | (go_at_call 82; refine (rpays_any _ _).mono ?_; rintro e w1 ⟨rfl, rfl⟩; simp only [show decide ((3 : Int) ≠ 2) = true from rfl]))
      exact HEND.out 1 (if_neg (fun h => by simp [goodC, goodL, isP, hasC, hasK, isK] at h; omega))
    go_wp2_with (first | (go_at_call 78; refine (rchild_any _ _).mono ?_; rintro e w1 ⟨rfl, rfl⟩; simp only [show decide (hasC 3) = false from rfl]) | (go_at_call 80; refine (rkeyed_any _ _).mono ?_; rintro e w1 ⟨rfl, rfl⟩; simp only [show decide (hasK 3) = false from rfl]) | (go_at_call 82; refine (rpays_any _ _).mono ?_; rintro e w1 ⟨rfl, rfl⟩; simp only [show decide ((3 : Int) ≠ 2) = true from rfl]))
    exact HEND.out 0 (if_pos ⟨⟨by omega, by omega⟩, fun h => by unfold hasC at h; exact ⟨by simp only; omega, by simp only; omega⟩, fun h => by unfold hasC at h; simp only; omega, fun h => by unfold hasK at h; simp only; omega, fun h => ⟨by simp only; omega, by simp only; omega, by simp only; omega, fun h2 => by simp only at h2; simp only; omega, fun h2 => ⟨by simp only at h2; simp only; omega, by simp only at h2; simp only; omega⟩⟩, fun h => ⟨by simp only; omega, by omega, by simp only; omega⟩⟩)
set_option maxHeartbeats 8000000 in
theorem rcheck_four (w : World) (ky ch tt sp : Int) (lo : List Int) (A : Option Addr) (n d : Nat) (hc : (⟨ky, ch, tt, sp, lo⟩ : Cl).ok) (_hn : (n : Int) ≤ 9223372036854775807) (R : Ending → World → Prop) (hR : R = fun e w' => e = .returned (.int .i64 (checkZ 4 ⟨ky, ch, tt, sp, lo⟩ n)) ∧ Below w.heap.size w w') :
    Calls Try.prog 86 #[.int .i64 4, .agg #[.int .i64 ky, .int .i64 ch, .int .i64 tt, .slice A n d, .int .i64 sp]] w R := by
  have HR := Lib.hid hR; clear hR
  obtain ⟨c0, c1, c2, c3⟩ := hc
  simp only at c0 c1 c2 c3
  obtain ⟨W1, hW1⟩ : ∃ W, W = w.alloc (.cells #[.int .i64 ky, .int .i64 ch, .int .i64 tt, .slice A n d, .int .i64 sp] 55) := ⟨_, rfl⟩
  have hbW : Below w.heap.size w W1 := by rw [hW1]; exact (Below.refl _ _).alloc (Nat.le_refl _) _
  have k0 : W1.cell? ⟨w.heap.size, 0, none⟩ = some (.int .i64 ky) := by rw [hW1]; simp [go_sem]
  have k1 : W1.cell? ⟨w.heap.size, 1, none⟩ = some (.int .i64 ch) := by rw [hW1]; simp [go_sem]
  have k2 : W1.cell? ⟨w.heap.size, 2, none⟩ = some (.int .i64 tt) := by rw [hW1]; simp [go_sem]
  have k3 : W1.cell? ⟨w.heap.size, 3, none⟩ = some (.slice A n d) := by rw [hW1]; simp [go_sem]
  have k4 : W1.cell? ⟨w.heap.size, 4, none⟩ = some (.int .i64 sp) := by rw [hW1]; simp [go_sem]
  have HW := Lib.hid hW1
  have hend : ∀ z, checkZ 4 ⟨ky, ch, tt, sp, lo⟩ n = z → R (.returned (.int .i64 z)) W1 := by
    intro z hz
    rw [HR.out]
    exact ⟨by rw [hz], hbW⟩
  have HEND := Lib.hid hend; clear hend
  go_enter Try.func86, Try.ntmps86
  go_wp2_with fail
  rw [← hW1]
  clear hW1 HW

  refine (rkind_any _ _).mono ?_
  rintro e w1 ⟨rfl, rfl⟩
  simp only [show decide (isK 4) = true from rfl]
  by_cases gch1 : 1 ≤ ch
  rotate_left
  · skip
    go_wp2_with (first | (go_at_call 78; refine (rchild_any _ _).mono ?_; rintro e w1 ⟨rfl, rfl⟩; simp only [show decide (hasC 4) = true from rfl]) | (go_at_call 80; refine (rkeyed_any _ _).mono ?_; rintro e w1 ⟨rfl, rfl⟩; simp only [show decide (hasK 4) = false from rfl]) | (go_at_call 82; refine (rpays_any _ _).mono ?_; rintro e w1 ⟨rfl, rfl⟩; simp only [show decide ((4 : Int) ≠ 2) = true from rfl]))
    exact HEND.out 1 (if_neg (fun h => by simp [goodC, goodL, isP, hasC, hasK, isK] at h; omega))
  by_cases gch2 : ch ≤ 1048576
  rotate_left
  · skip
    go_wp2_with (first | (go_at_call 78; refine (rchild_any _ _).mono ?_; rintro e w1 ⟨rfl, rfl⟩; simp only [show decide (hasC 4) = true from rfl]) | (go_at_call 80; refine (rkeyed_any _ _).mono ?_; rintro e w1 ⟨rfl, rfl⟩; simp only [show decide (hasK 4) = false from rfl]) | (go_at_call 82; refine (rpays_any _ _).mono ?_; rintro e w1 ⟨rfl, rfl⟩; simp only [show decide ((4 : Int) ≠ 2) = true from rfl]))
    exact HEND.out 1 (if_neg (fun h => by simp [goodC, goodL, isP, hasC, hasK, isK] at h; omega))
  by_cases hky : ky = 0
  rotate_left
  · have eky : (ky != 0) = true := by simp [hky]
    go_wp2_with (first | (go_at_call 78; refine (rchild_any _ _).mono ?_; rintro e w1 ⟨rfl, rfl⟩; simp only [show decide (hasC 4) = true from rfl]) | (go_at_call 80; refine (rkeyed_any _ _).mono ?_; rintro e w1 ⟨rfl, rfl⟩; simp only [show decide (hasK 4) = false from rfl]) | (go_at_call 82; refine (rpays_any _ _).mono ?_; rintro e w1 ⟨rfl, rfl⟩; simp only [show decide ((4 : Int) ≠ 2) = true from rfl]))
    exact HEND.out 1 (if_neg (fun h => by simp [goodC, goodL, isP, hasC, hasK, isK] at h; omega))
  have eky : (ky != 0) = false := by simp [hky]
  by_cases hlo : 0 ≤ tt
  rotate_left
  · skip
    go_wp2_with (first | (go_at_call 78; refine (rchild_any _ _).mono ?_; rintro e w1 ⟨rfl, rfl⟩; simp only [show decide (hasC 4) = true from rfl]) | (go_at_call 80; refine (rkeyed_any _ _).mono ?_; rintro e w1 ⟨rfl, rfl⟩; simp only [show decide (hasK 4) = false from rfl]) | (go_at_call 82; refine (rpays_any _ _).mono ?_; rintro e w1 ⟨rfl, rfl⟩; simp only [show decide ((4 : Int) ≠ 2) = true from rfl]))
    exact HEND.out 1 (if_neg (fun h => by simp [goodC, goodL, isP, hasC, hasK, isK] at h; omega))
  by_cases hhi : tt ≤ 16384
  rotate_left
  · skip
    go_wp2_with (first | (go_at_call 78; refine (rchild_any _ _).mono ?_; rintro e w1 ⟨rfl, rfl⟩; simp only [show decide (hasC 4) = true from rfl]) | (go_at_call 80; refine (rkeyed_any _ _).mono ?_; rintro e w1 ⟨rfl, rfl⟩; simp only [show decide (hasK 4) = false from rfl]) | (go_at_call 82; refine (rpays_any _ _).mono ?_; rintro e w1 ⟨rfl, rfl⟩; simp only [show decide ((4 : Int) ≠ 2) = true from rfl]))
    exact HEND.out 1 (if_neg (fun h => by simp [goodC, goodL, isP, hasC, hasK, isK] at h; omega))
  by_cases hnl : (n : Int) ≤ tt
  rotate_left
  · skip
    go_wp2_with (first | (go_at_call 78; refine (rchild_any _ _).mono ?_; rintro e w1 ⟨rfl, rfl⟩; simp only [show decide (hasC 4) = true from rfl]) | (go_at_call 80; refine (rkeyed_any _ _).mono ?_; rintro e w1 ⟨rfl, rfl⟩; simp only [show decide (hasK 4) = false from rfl]) | (go_at_call 82; refine (rpays_any _ _).mono ?_; rintro e w1 ⟨rfl, rfl⟩; simp only [show decide ((4 : Int) ≠ 2) = true from rfl]))
    exact HEND.out 1 (if_neg (fun h => by simp [goodC, goodL, isP, hasC, hasK, isK] at h; omega))
  by_cases hq : (n : Int) = tt
  · have eq : ((n : Int) == tt) = true := by simp [hq]
    have nl : ¬ (n : Int) < tt := by omega
    by_cases hsp : sp = 0
    rotate_left
    · have esp : (sp != 0) = true := by simp [hsp]
      go_wp2_with (first | (go_at_call 78; refine (rchild_any _ _).mono ?_; rintro e w1 ⟨rfl, rfl⟩; simp only [show decide (hasC 4) = true from rfl]) | (go_at_call 80; refine (rkeyed_any _ _).mono ?_; rintro e w1 ⟨rfl, rfl⟩; simp only [show decide (hasK 4) = false from rfl]) | (go_at_call 82; refine (rpays_any _ _).mono ?_; rintro e w1 ⟨rfl, rfl⟩; simp only [show decide ((4 : Int) ≠ 2) = true from rfl]))
      exact HEND.out 1 (if_neg (fun h => by simp [goodC, goodL, isP, hasC, hasK, isK] at h; omega))
    have esp : (sp != 0) = false := by simp [hsp]
    go_wp2_with (first | (go_at_call 78; refine (rchild_any _ _).mono ?_; rintro e w1 ⟨rfl, rfl⟩; simp only [show decide (hasC 4) = true from rfl]) | (go_at_call 80; refine (rkeyed_any _ _).mono ?_; rintro e w1 ⟨rfl, rfl⟩; simp only [show decide (hasK 4) = false from rfl]) | (go_at_call 82; refine (rpays_any _ _).mono ?_; rintro e w1 ⟨rfl, rfl⟩; simp only [show decide ((4 : Int) ≠ 2) = true from rfl]))
    exact HEND.out 0 (if_pos ⟨⟨by omega, by omega⟩, fun h => by unfold hasC at h; exact ⟨by simp only; omega, by simp only; omega⟩, fun h => by unfold hasC at h; simp only; omega, fun h => by unfold hasK at h; simp only; omega, fun h => ⟨by simp only; omega, by simp only; omega, by simp only; omega, fun h2 => by simp only at h2; simp only; omega, fun h2 => ⟨by simp only at h2; simp only; omega, by simp only at h2; simp only; omega⟩⟩, fun h => ⟨by simp only; omega, by omega, by simp only; omega⟩⟩)
  · have eq : ((n : Int) == tt) = false := by simp [hq]
    have nl : (n : Int) < tt := by omega
    by_cases gs1 : 1 ≤ sp
    rotate_left
    · skip
      go_wp2_with (first | (go_at_call 78; refine (rchild_any _ _).mono ?_; rintro e w1 ⟨rfl, rfl⟩; simp only [show decide (hasC 4) = true from rfl]) | (go_at_call 80; refine (rkeyed_any _ _).mono ?_; rintro e w1 ⟨rfl, rfl⟩; simp only [show decide (hasK 4) = false from rfl]) | (go_at_call 82; refine (rpays_any _ _).mono ?_; rintro e w1 ⟨rfl, rfl⟩; simp only [show decide ((4 : Int) ≠ 2) = true from rfl]))
      exact HEND.out 1 (if_neg (fun h => by simp [goodC, goodL, isP, hasC, hasK, isK] at h; omega))
    by_cases gs2 : sp ≤ 1048576
    rotate_left
    · skip
      go_wp2_with (first | (go_at_call 78; refine (rchild_any _ _).mono ?_; rintro e w1 ⟨rfl, rfl⟩; simp only [show decide (hasC 4) = true from rfl]) | (go_at_call 80; refine (rkeyed_any _ _).mono ?_; rintro e w1 ⟨rfl, rfl⟩; simp only [show decide (hasK 4) = false from rfl]) | (go_at_call 82; refine (rpays_any _ _).mono ?_; rintro e w1 ⟨rfl, rfl⟩; simp only [show decide ((4 : Int) ≠ 2) = true from rfl]))
      exact HEND.out 1 (if_neg (fun h => by simp [goodC, goodL, isP, hasC, hasK, isK] at h; omega))
    go_wp2_with (first | (go_at_call 78; refine (rchild_any _ _).mono ?_; rintro e w1 ⟨rfl, rfl⟩; simp only [show decide (hasC 4) = true from rfl]) | (go_at_call 80; refine (rkeyed_any _ _).mono ?_; rintro e w1 ⟨rfl, rfl⟩; simp only [show decide (hasK 4) = false from rfl]) | (go_at_call 82; refine (rpays_any _ _).mono ?_; rintro e w1 ⟨rfl, rfl⟩; simp only [show decide ((4 : Int) ≠ 2) = true from rfl]))
    exact HEND.out 0 (if_pos ⟨⟨by omega, by omega⟩, fun h => by unfold hasC at h; exact ⟨by simp only; omega, by simp only; omega⟩, fun h => by unfold hasC at h; simp only; omega, fun h => by unfold hasK at h; simp only; omega, fun h => ⟨by simp only; omega, by simp only; omega, by simp only; omega, fun h2 => by simp only at h2; simp only; omega, fun h2 => ⟨by simp only at h2; simp only; omega, by simp only at h2; simp only; omega⟩⟩, fun h => ⟨by simp only; omega, by omega, by simp only; omega⟩⟩)
set_option maxHeartbeats 8000000 in
theorem rcheck_no (w : World) (k : Int) (ky ch tt sp : Int) (lo : List Int) (A : Option Addr) (n d : Nat) (hno : ¬ isK k) (hc : (⟨ky, ch, tt, sp, lo⟩ : Cl).ok) (_hn : (n : Int) ≤ 9223372036854775807) (R : Ending → World → Prop) (hR : R = fun e w' => e = .returned (.int .i64 (checkZ k ⟨ky, ch, tt, sp, lo⟩ n)) ∧ Below w.heap.size w w') :
    Calls Try.prog 86 #[.int .i64 k, .agg #[.int .i64 ky, .int .i64 ch, .int .i64 tt, .slice A n d, .int .i64 sp]] w R := by
  have HR := Lib.hid hR; clear hR
  obtain ⟨c0, c1, c2, c3⟩ := hc
  simp only at c0 c1 c2 c3
  obtain ⟨W1, hW1⟩ : ∃ W, W = w.alloc (.cells #[.int .i64 ky, .int .i64 ch, .int .i64 tt, .slice A n d, .int .i64 sp] 55) := ⟨_, rfl⟩
  have hbW : Below w.heap.size w W1 := by rw [hW1]; exact (Below.refl _ _).alloc (Nat.le_refl _) _
  have k0 : W1.cell? ⟨w.heap.size, 0, none⟩ = some (.int .i64 ky) := by rw [hW1]; simp [go_sem]
  have k1 : W1.cell? ⟨w.heap.size, 1, none⟩ = some (.int .i64 ch) := by rw [hW1]; simp [go_sem]
  have k2 : W1.cell? ⟨w.heap.size, 2, none⟩ = some (.int .i64 tt) := by rw [hW1]; simp [go_sem]
  have k3 : W1.cell? ⟨w.heap.size, 3, none⟩ = some (.slice A n d) := by rw [hW1]; simp [go_sem]
  have k4 : W1.cell? ⟨w.heap.size, 4, none⟩ = some (.int .i64 sp) := by rw [hW1]; simp [go_sem]
  have HW := Lib.hid hW1
  have hend : ∀ z, checkZ k ⟨ky, ch, tt, sp, lo⟩ n = z → R (.returned (.int .i64 z)) W1 := by
    intro z hz
    rw [HR.out]
    exact ⟨by rw [hz], hbW⟩
  have HEND := Lib.hid hend; clear hend
  go_enter Try.func86, Try.ntmps86
  go_wp2_with fail
  rw [← hW1]
  clear hW1 HW

  refine (rkind_any _ _).mono ?_
  rintro e w1 ⟨rfl, rfl⟩
  simp only [decide_eq_false hno]
  go_wp2
  exact HEND.out 1 (if_neg (fun h => hno h.1))
theorem rcheckC_any (w : World) (k : Int) (c : Cl) (A : Option Addr) (n d : Nat) (hc : c.ok) (hn : (n : Int) ≤ 9223372036854775807) :
    Calls Try.prog 86 #[.int .i64 k, c.val A n d] w fun e w' => e = .returned (.int .i64 (checkZ k c n)) ∧ Below w.heap.size w w' := by
  obtain ⟨ky, ch, tt, sp, lo⟩ := c
  unfold Cl.val
  by_cases h : isK k
  · have := h
    unfold isK at this
    rcases (by omega : k = 1 ∨ k = 2 ∨ k = 3 ∨ k = 4) with rfl | rfl | rfl | rfl
    · exact rcheck_one w ky ch tt sp lo A n d hc hn _ rfl
    · exact rcheck_two w ky ch tt sp lo A n d hc hn _ rfl
    · exact rcheck_three w ky ch tt sp lo A n d hc hn _ rfl
    · exact rcheck_four w ky ch tt sp lo A n d hc hn _ rfl
  · exact rcheck_no w k ky ch tt sp lo A n d h hc hn _ rfl
end
end Go.Proofs.Ytoeaffmlolapnaa
