/- Several texts of this proof as one: ClA. Laid by merge.py. -/
import Derived.Test.YtoeaffmlolapnaaNpA
import Derived.Test.YtoeaffmlolapnaaNpB
import Derived.BigQuiet
import Derived.Deep.DeepCutAuto
import Derived.Deep.QuietTactic
import Derived.Handy
import Derived.Lib.Hide
import Derived.Maps.AppendAt
import Derived.Test.YtoeaffmlolapnaaProg
import Derived.WalkKit
import Derived.WalkSpells
namespace Go.Proofs.Ytoeaffmlolapnaa
section
open Go.RowKit
set_option maxRecDepth 100000
theorem results_tmp4 {fn : Func} {t u v x : Tmp} (h : fn.results = #[.tmp t, .tmp u, .tmp v, .tmp x]) (tmps : Array Value) (P : Program) (w : World) :
    (results fn tmps).run P w = .ok (.tuple #[tmps.getD t undef, tmps.getD u undef, tmps.getD v undef, tmps.getD x undef]) w := by
  simp [results, h]
def ClAt (w : World) (g : Nat) (c : Cl) (A : Option Addr) (n d : Nat) : Prop := w.cell? ⟨g, 0, none⟩ = some (.int .i64 c.key) ∧ w.cell? ⟨g, 1, none⟩ = some (.int .i64 c.child) ∧ w.cell? ⟨g, 2, none⟩ = some (.int .i64 c.total) ∧ w.cell? ⟨g, 3, none⟩ = some (.slice A n d) ∧ w.cell? ⟨g, 4, none⟩ = some (.int .i64 c.spill)
theorem ClAt.keepB {w w' : World} {B g : Nat} {c : Cl} {A : Option Addr} {n d : Nat} (h : ClAt w g c A n d) (hb : Below B w w') (hg : g < B) : ClAt w' g c A n d :=
  ⟨(hb.cell hg).trans h.1, (hb.cell hg).trans h.2.1, (hb.cell hg).trans h.2.2.1, (hb.cell hg).trans h.2.2.2.1, (hb.cell hg).trans h.2.2.2.2⟩
theorem ClAt.keep {w w' : World} {g : Nat} {c : Cl} {A : Option Addr} {n d : Nat} (h : ClAt w g c A n d) (hb : Below w.heap.size w w') : ClAt w' g c A n d := h.keepB hb (World.block_lt_of_cell? _ _ h.1)

theorem has_one (w : World) : Calls Try.prog 72 #[.int .i64 1] w fun e w' => e = .returned (.tuple #[.bool false, .bool true, .bool true, .bool true]) ∧ w = w' := by
  go_enter Try.func72, Try.ntmps72
  go_wp2
  try (rw [Exit.noGoto_ret])
  refine bodyPost_ret (results_tmp4 rfl _ _ _) rfl ?_
  exact ⟨rfl, rfl⟩
theorem has_two (w : World) : Calls Try.prog 72 #[.int .i64 2] w fun e w' => e = .returned (.tuple #[.bool true, .bool true, .bool false, .bool true]) ∧ w = w' := by
  go_enter Try.func72, Try.ntmps72
  go_wp2
  try (rw [Exit.noGoto_ret])
  refine bodyPost_ret (results_tmp4 rfl _ _ _) rfl ?_
  exact ⟨rfl, rfl⟩
theorem has_three (w : World) : Calls Try.prog 72 #[.int .i64 3] w fun e w' => e = .returned (.tuple #[.bool false, .bool false, .bool true, .bool true]) ∧ w = w' := by
  go_enter Try.func72, Try.ntmps72
  go_wp2
  try (rw [Exit.noGoto_ret])
  refine bodyPost_ret (results_tmp4 rfl _ _ _) rfl ?_
  exact ⟨rfl, rfl⟩
theorem has_four (w : World) : Calls Try.prog 72 #[.int .i64 4] w fun e w' => e = .returned (.tuple #[.bool true, .bool false, .bool true, .bool true]) ∧ w = w' := by
  go_enter Try.func72, Try.ntmps72
  go_wp2
  try (rw [Exit.noGoto_ret])
  refine bodyPost_ret (results_tmp4 rfl _ _ _) rfl ?_
  exact ⟨rfl, rfl⟩
theorem has_no (w : World) (k : Int) (h : ¬ isK k) : Calls Try.prog 72 #[.int .i64 k] w fun e w' => e = .returned (.tuple #[.bool false, .bool false, .bool false, .bool false]) ∧ w = w' := by
  unfold isK at h
  have h1 : (k == 1) = false := by simp; omega
  have h2 : (k == 2) = false := by simp; omega
  have h3 : (k == 3) = false := by simp; omega
  have h4 : (k == 4) = false := by simp; omega
  clear h
  go_enter Try.func72, Try.ntmps72
  go_wp2
  try (rw [Exit.noGoto_ret])
  refine bodyPost_ret (results_tmp4 rfl _ _ _) rfl ?_
  exact ⟨rfl, rfl⟩
theorem page_yes (w : World) (n : Int) (h : isP n) : Calls Try.prog 75 #[.int .i64 n] w fun e w' => e = .returned (.bool true) ∧ w = w' := by
  obtain ⟨h1, h2⟩ := h
  go_enter Try.func75, Try.ntmps75
  go_wp2
  go_ret
  exact ⟨rfl, rfl⟩
theorem page_no (w : World) (n : Int) (h : ¬ isP n) : Calls Try.prog 75 #[.int .i64 n] w fun e w' => e = .returned (.bool false) ∧ w = w' := by
  unfold isP at h
  by_cases h1 : 1 ≤ n
  · have h2 : ¬ n ≤ 1048576 := by omega
    clear h
    go_enter Try.func75, Try.ntmps75
    go_wp2
    go_ret
    exact ⟨rfl, rfl⟩
  · clear h
    go_enter Try.func75, Try.ntmps75
    go_wp2
    go_ret
    exact ⟨rfl, rfl⟩
theorem rkind_any (w : World) (k : Int) : Calls Try.prog 77 #[.int .i64 k] w fun e w' => e = .returned (.bool (decide (isK k))) ∧ w = w' := by
  by_cases h1 : 1 ≤ k
  · by_cases h2 : k ≤ 4
    · rw [decide_eq_true (show isK k from ⟨h1, h2⟩)]
      go_enter Try.func77, Try.ntmps77
      go_wp2
      go_ret
      exact ⟨rfl, rfl⟩
    · rw [decide_eq_false (show ¬ isK k from fun h => h2 h.2)]
      go_enter Try.func77, Try.ntmps77
      go_wp2
      go_ret
      exact ⟨rfl, rfl⟩
  · rw [decide_eq_false (show ¬ isK k from fun h => h1 h.1)]
    go_enter Try.func77, Try.ntmps77
    go_wp2
    go_ret
    exact ⟨rfl, rfl⟩
theorem rchild_any (w : World) (k : Int) : Calls Try.prog 78 #[.int .i64 k] w fun e w' => e = .returned (.bool (decide (hasC k))) ∧ w = w' := by
  by_cases h1 : k = 2
  · subst h1
    go_enter Try.func78, Try.ntmps78
    go_wp2
    go_ret
    exact ⟨rfl, rfl⟩
  · by_cases h2 : k = 4
    · subst h2
      go_enter Try.func78, Try.ntmps78
      go_wp2
      go_ret
      exact ⟨rfl, rfl⟩
    · rw [decide_eq_false (show ¬ hasC k from fun h => by unfold hasC at h; omega)]
      have e1 : (k == 2) = false := by simp [h1]
      have e2 : (k == 4) = false := by simp [h2]
      go_enter Try.func78, Try.ntmps78
      go_wp2
      go_ret
      exact ⟨rfl, rfl⟩
theorem rkeyed_any (w : World) (k : Int) : Calls Try.prog 80 #[.int .i64 k] w fun e w' => e = .returned (.bool (decide (hasK k))) ∧ w = w' := by
  by_cases h1 : k = 1
  · subst h1
    go_enter Try.func80, Try.ntmps80
    go_wp2
    go_ret
    exact ⟨rfl, rfl⟩
  · by_cases h2 : k = 2
    · subst h2
      go_enter Try.func80, Try.ntmps80
      go_wp2
      go_ret
      exact ⟨rfl, rfl⟩
    · rw [decide_eq_false (show ¬ hasK k from fun h => by unfold hasK at h; omega)]
      have e1 : (k == 1) = false := by simp [h1]
      have e2 : (k == 2) = false := by simp [h2]
      go_enter Try.func80, Try.ntmps80
      go_wp2
      go_ret
      exact ⟨rfl, rfl⟩
theorem rpays_any (w : World) (k : Int) : Calls Try.prog 82 #[.int .i64 k] w fun e w' => e = .returned (.bool (decide (k ≠ 2))) ∧ w = w' := by
  by_cases h1 : k = 2
  · subst h1
    go_enter Try.func82, Try.ntmps82
    go_wp2
    go_ret
    exact ⟨rfl, rfl⟩
  · rw [decide_eq_true h1]
    have e1 : (k != 2) = true := by simp [h1]
    go_enter Try.func82, Try.ntmps82
    go_wp2
    go_ret
    exact ⟨rfl, rfl⟩

set_option maxHeartbeats 8000000 in
theorem check_one (w : World) (ky ch tt sp : Int) (lo : List Int) (A : Option Addr) (n d : Nat) (hc : (⟨ky, ch, tt, sp, lo⟩ : Cl).ok) (_hn : (n : Int) ≤ 9223372036854775807) (R : Ending → World → Prop) (hR : R = fun e w' => e = .returned (.int .i64 (checkZ 1 ⟨ky, ch, tt, sp, lo⟩ n)) ∧ Below w.heap.size w w') :
    Calls Try.prog 37 #[.int .i64 1, .agg #[.int .i64 ky, .int .i64 ch, .int .i64 tt, .slice A n d, .int .i64 sp]] w R := by
  have HR := Lib.hid hR; clear hR
  obtain ⟨c0, c1, c2, c3⟩ := hc
  simp only at c0 c1 c2 c3
  obtain ⟨W1, hW1⟩ : ∃ W, W = w.alloc (.cells #[.int .i64 ky, .int .i64 ch, .int .i64 tt, .slice A n d, .int .i64 sp] 55) := ⟨_, rfl⟩
  have hbW : Below w.heap.size w W1 := by rw [hW1]; exact (Below.refl _ _).alloc (Nat.le_refl _) _
  have k0 : W1.cell? ⟨w.heap.size, 0, none⟩ = some (.int .i64 ky) := by rw [hW1]; simp [go_sem]
  have k1 : W1.cell? ⟨w.heap.size, 1, none⟩ = some (.int .i64 ch) := by rw [hW1]; simp [go_sem]
  have k2 : W1.cell? ⟨w.heap.size, 2, none⟩ = some (.int .i64 tt) := by rw [hW1]; simp [go_sem]
  have k3 : W1.cell? ⟨w.heap.size, 3, none⟩ = some (.slice A n d) := by rw [hW1]; simp [go_sem]
  have k4 : W1.cell? ⟨w.heap.size, 4, none⟩ = some (.int .i64 sp) := by rw [hW1]; simp [go_sem]
  have HW := Lib.hid hW1
  have hend : ∀ z, checkZ 1 ⟨ky, ch, tt, sp, lo⟩ n = z → R (.returned (.int .i64 z)) W1 := by
    intro z hz
    rw [HR.out]
    exact ⟨by rw [hz], hbW⟩
  have HEND := Lib.hid hend; clear hend
  go_enter Try.func37, Try.ntmps37
  go_wp2_with fail
  rw [← hW1]
  clear hW1 HW

  refine (has_one _).mono ?_
  rintro e w1 ⟨rfl, rfl⟩
  by_cases hch : ch = 0
  rotate_left
  · have ech : (ch != 0) = true := by simp [hch]
    go_wp2_with (go_at_call 75; first | (refine (page_yes _ _ (by unfold isP; omega)).mono ?_; rintro e w1 ⟨rfl, rfl⟩) | (refine (page_no _ _ (by unfold isP; omega)).mono ?_; rintro e w1 ⟨rfl, rfl⟩))
    exact HEND.out 1 (if_neg (fun h => by simp [goodC, goodL, isP, hasC, hasK, isK] at h; omega))
  have ech : (ch != 0) = false := by simp [hch]
  by_cases hlo : 0 ≤ tt
  rotate_left
  · skip
    go_wp2_with (go_at_call 75; first | (refine (page_yes _ _ (by unfold isP; omega)).mono ?_; rintro e w1 ⟨rfl, rfl⟩) | (refine (page_no _ _ (by unfold isP; omega)).mono ?_; rintro e w1 ⟨rfl, rfl⟩))
    exact HEND.out 1 (if_neg (fun h => by simp [goodC, goodL, isP, hasC, hasK, isK] at h; omega))
  by_cases hhi : tt ≤ 16384
  rotate_left
  · skip
    go_wp2_with (go_at_call 75; first | (refine (page_yes _ _ (by unfold isP; omega)).mono ?_; rintro e w1 ⟨rfl, rfl⟩) | (refine (page_no _ _ (by unfold isP; omega)).mono ?_; rintro e w1 ⟨rfl, rfl⟩))
    exact HEND.out 1 (if_neg (fun h => by simp [goodC, goodL, isP, hasC, hasK, isK] at h; omega))
  by_cases hnl : (n : Int) ≤ tt
  rotate_left
  · skip
    go_wp2_with (go_at_call 75; first | (refine (page_yes _ _ (by unfold isP; omega)).mono ?_; rintro e w1 ⟨rfl, rfl⟩) | (refine (page_no _ _ (by unfold isP; omega)).mono ?_; rintro e w1 ⟨rfl, rfl⟩))
    exact HEND.out 1 (if_neg (fun h => by simp [goodC, goodL, isP, hasC, hasK, isK] at h; omega))
  by_cases hq : (n : Int) = tt
  · have eq : ((n : Int) == tt) = true := by simp [hq]
    have nl : ¬ (n : Int) < tt := by omega
    by_cases hsp : sp = 0
    rotate_left
    · have esp : (sp != 0) = true := by simp [hsp]
      go_wp2_with (go_at_call 75; first | (refine (page_yes _ _ (by unfold isP; omega)).mono ?_; rintro e w1 ⟨rfl, rfl⟩) | (refine (page_no _ _ (by unfold isP; omega)).mono ?_; rintro e w1 ⟨rfl, rfl⟩))
      exact HEND.out 1 (if_neg (fun h => by simp [goodC, goodL, isP, hasC, hasK, isK] at h; omega))
    have esp : (sp != 0) = false := by simp [hsp]
    go_wp2_with (go_at_call 75; first | (refine (page_yes _ _ (by unfold isP; omega)).mono ?_; rintro e w1 ⟨rfl, rfl⟩) | (refine (page_no _ _ (by unfold isP; omega)).mono ?_; rintro e w1 ⟨rfl, rfl⟩))
    exact HEND.out 0 (if_pos ⟨⟨by omega, by omega⟩, fun h => by unfold hasC at h; exact ⟨by simp only; omega, by simp only; omega⟩, fun h => by unfold hasC at h; simp only; omega, fun h => by unfold hasK at h; simp only; omega, fun h => ⟨by simp only; omega, by simp only; omega, by simp only; omega, fun h2 => by simp only at h2; simp only; omega, fun h2 => ⟨by simp only at h2; simp only; omega, by simp only at h2; simp only; omega⟩⟩, fun h => ⟨by simp only; omega, by omega, by simp only; omega⟩⟩)
  · have eq : ((n : Int) == tt) = false := by simp [hq]
    have nl : (n : Int) < tt := by omega
    by_cases gs1 : 1 ≤ sp
    rotate_left
    · skip
      go_wp2_with (go_at_call 75; first | (refine (page_yes _ _ (by unfold isP; omega)).mono ?_; rintro e w1 ⟨rfl, rfl⟩) | (refine (page_no _ _ (by unfold isP; omega)).mono ?_; rintro e w1 ⟨rfl, rfl⟩))
      exact HEND.out 1 (if_neg (fun h => by simp [goodC, goodL, isP, hasC, hasK, isK] at h; omega))
    by_cases gs2 : sp ≤ 1048576
    rotate_left
    · skip
      go_wp2_with (go_at_call 75; first | (refine (page_yes _ _ (by unfold isP; omega)).mono ?_; rintro e w1 ⟨rfl, rfl⟩) | (refine (page_no _ _ (by unfold isP; omega)).mono ?_; rintro e w1 ⟨rfl, rfl⟩))
      exact HEND.out 1 (if_neg (fun h => by simp [goodC, goodL, isP, hasC, hasK, isK] at h; omega))
    go_wp2_with (go_at_call 75; first | (refine (page_yes _ _ (by unfold isP; omega)).mono ?_; rintro e w1 ⟨rfl, rfl⟩) | (refine (page_no _ _ (by unfold isP; omega)).mono ?_; rintro e w1 ⟨rfl, rfl⟩))
    exact HEND.out 0 (if_pos ⟨⟨by omega, by omega⟩, fun h => by unfold hasC at h; exact ⟨by simp only; omega, by simp only; omega⟩, fun h => by unfold hasC at h; simp only; omega, fun h => by unfold hasK at h; simp only; omega, fun h => ⟨by simp only; omega, by simp only; omega, by simp only; omega, fun h2 => by simp only at h2; simp only; omega, fun h2 => ⟨by simp only at h2; simp only; omega, by simp only at h2; simp only; omega⟩⟩, fun h => ⟨by simp only; omega, by omega, by simp only; omega⟩⟩)
set_option maxHeartbeats 8000000 in
theorem check_two (w : World) (ky ch tt sp : Int) (lo : List Int) (A : Option Addr) (n d : Nat) (hc : (⟨ky, ch, tt, sp, lo⟩ : Cl).ok) (_hn : (n : Int) ≤ 9223372036854775807) (R : Ending → World → Prop) (hR : R = fun e w' => e = .returned (.int .i64 (checkZ 2 ⟨ky, ch, tt, sp, lo⟩ n)) ∧ Below w.heap.size w w') :
    Calls Try.prog 37 #[.int .i64 2, .agg #[.int .i64 ky, .int .i64 ch, .int .i64 tt, .slice A n d, .int .i64 sp]] w R := by
  have HR := Lib.hid hR; clear hR
  obtain ⟨c0, c1, c2, c3⟩ := hc
  simp only at c0 c1 c2 c3
  obtain ⟨W1, hW1⟩ : ∃ W, W = w.alloc (.cells #[.int .i64 ky, .int .i64 ch, .int .i64 tt, .slice A n d, .int .i64 sp] 55) := ⟨_, rfl⟩
  have hbW : Below w.heap.size w W1 := by rw [hW1]; exact (Below.refl _ _).alloc (Nat.le_refl _) _
  have k0 : W1.cell? ⟨w.heap.size, 0, none⟩ = some (.int .i64 ky) := by rw [hW1]; simp [go_sem]
  have k1 : W1.cell? ⟨w.heap.size, 1, none⟩ = some (.int .i64 ch) := by rw [hW1]; simp [go_sem]
  have k2 : W1.cell? ⟨w.heap.size, 2, none⟩ = some (.int .i64 tt) := by rw [hW1]; simp [go_sem]
  have k3 : W1.cell? ⟨w.heap.size, 3, none⟩ = some (.slice A n d) := by rw [hW1]; simp [go_sem]
  have k4 : W1.cell? ⟨w.heap.size, 4, none⟩ = some (.int .i64 sp) := by rw [hW1]; simp [go_sem]
  have HW := Lib.hid hW1
  have hend : ∀ z, checkZ 2 ⟨ky, ch, tt, sp, lo⟩ n = z → R (.returned (.int .i64 z)) W1 := by
    intro z hz
    rw [HR.out]
    exact ⟨by rw [hz], hbW⟩
  have HEND := Lib.hid hend; clear hend
  go_enter Try.func37, Try.ntmps37
  go_wp2_with fail
  rw [← hW1]
  clear hW1 HW

  refine (has_two _).mono ?_
  rintro e w1 ⟨rfl, rfl⟩
  by_cases gch1 : 1 ≤ ch
  rotate_left
  · skip
    go_wp2_with (go_at_call 75; first | (refine (page_yes _ _ (by unfold isP; omega)).mono ?_; rintro e w1 ⟨rfl, rfl⟩) | (refine (page_no _ _ (by unfold isP; omega)).mono ?_; rintro e w1 ⟨rfl, rfl⟩))
    exact HEND.out 1 (if_neg (fun h => by simp [goodC, goodL, isP, hasC, hasK, isK] at h; omega))
  by_cases gch2 : ch ≤ 1048576
  rotate_left
  · skip
    go_wp2_with (go_at_call 75; first | (refine (page_yes _ _ (by unfold isP; omega)).mono ?_; rintro e w1 ⟨rfl, rfl⟩) | (refine (page_no _ _ (by unfold isP; omega)).mono ?_; rintro e w1 ⟨rfl, rfl⟩))
    exact HEND.out 1 (if_neg (fun h => by simp [goodC, goodL, isP, hasC, hasK, isK] at h; omega))
  by_cases htt : tt = 0
  rotate_left
  · have ett : (tt != 0) = true := by simp [htt]
    go_wp2_with (go_at_call 75; first | (refine (page_yes _ _ (by unfold isP; omega)).mono ?_; rintro e w1 ⟨rfl, rfl⟩) | (refine (page_no _ _ (by unfold isP; omega)).mono ?_; rintro e w1 ⟨rfl, rfl⟩))
    exact HEND.out 1 (if_neg (fun h => by simp [goodC, goodL, isP, hasC, hasK, isK] at h; omega))
  have ett : (tt != 0) = false := by simp [htt]
  by_cases hn0 : n = 0
  rotate_left
  · have en : ((n : Int) != 0) = true := by simp [hn0]
    go_wp2_with (go_at_call 75; first | (refine (page_yes _ _ (by unfold isP; omega)).mono ?_; rintro e w1 ⟨rfl, rfl⟩) | (refine (page_no _ _ (by unfold isP; omega)).mono ?_; rintro e w1 ⟨rfl, rfl⟩))
    exact HEND.out 1 (if_neg (fun h => by simp [goodC, goodL, isP, hasC, hasK, isK] at h; omega))
  have en : ((n : Int) != 0) = false := by simp [hn0]
  by_cases hsp : sp = 0
  rotate_left
  · have esp : (sp != 0) = true := by simp [hsp]
    go_wp2_with (go_at_call 75; first | (refine (page_yes _ _ (by unfold isP; omega)).mono ?_; rintro e w1 ⟨rfl, rfl⟩) | (refine (page_no _ _ (by unfold isP; omega)).mono ?_; rintro e w1 ⟨rfl, rfl⟩))
    exact HEND.out 1 (if_neg (fun h => by simp [goodC, goodL, isP, hasC, hasK, isK] at h; omega))
  have esp : (sp != 0) = false := by simp [hsp]
  go_wp2_with (go_at_call 75; first | (refine (page_yes _ _ (by unfold isP; omega)).mono ?_; rintro e w1 ⟨rfl, rfl⟩) | (refine (page_no _ _ (by unfold isP; omega)).mono ?_; rintro e w1 ⟨rfl, rfl⟩))
  exact HEND.out 0 (if_pos ⟨⟨by omega, by omega⟩, fun h => by unfold hasC at h; exact ⟨by simp only; omega, by simp only; omega⟩, fun h => by unfold hasC at h; simp only; omega, fun h => by unfold hasK at h; simp only; omega, fun h => ⟨by simp only; omega, by simp only; omega, by simp only; omega, fun h2 => by simp only at h2; simp only; omega, fun h2 => ⟨by simp only at h2; simp only; omega, by simp only at h2; simp only; omega⟩⟩, fun h => ⟨by simp only; omega, by omega, by simp only; omega⟩⟩)
set_option maxHeartbeats 8000000 in
theorem check_three (w : World) (ky ch tt sp : Int) (lo : List Int) (A : Option Addr) (n d : Nat) (hc : (⟨ky, ch, tt, sp, lo⟩ : Cl).ok) (_hn : (n : Int) ≤ 9223372036854775807) (R : Ending → World → Prop) (hR : R = fun e w' => e = .returned (.int .i64 (checkZ 3 ⟨ky, ch, tt, sp, lo⟩ n)) ∧ Below w.heap.size w w') :
    Calls Try.prog 37 #[.int .i64 3, .agg #[.int .i64 ky, .int .i64 ch, .int .i64 tt, .slice A n d, .int .i64 sp]] w R := by
  have HR := Lib.hid hR; clear hR
  obtain ⟨c0, c1, c2, c3⟩ := hc
  simp only at c0 c1 c2 c3
  obtain ⟨W1, hW1⟩ : ∃ W, W = w.alloc (.cells #[.int .i64 ky, .int .i64 ch, .int .i64 tt, .slice A n d, .int .i64 sp] 55) := ⟨_, rfl⟩
  have hbW : Below w.heap.size w W1 := by rw [hW1]; exact (Below.refl _ _).alloc (Nat.le_refl _) _
  have k0 : W1.cell? ⟨w.heap.size, 0, none⟩ = some (.int .i64 ky) := by rw [hW1]; simp [go_sem]
  have k1 : W1.cell? ⟨w.heap.size, 1, none⟩ = some (.int .i64 ch) := by rw [hW1]; simp [go_sem]
  have k2 : W1.cell? ⟨w.heap.size, 2, none⟩ = some (.int .i64 tt) := by rw [hW1]; simp [go_sem]
  have k3 : W1.cell? ⟨w.heap.size, 3, none⟩ = some (.slice A n d) := by rw [hW1]; simp [go_sem]
  have k4 : W1.cell? ⟨w.heap.size, 4, none⟩ = some (.int .i64 sp) := by rw [hW1]; simp [go_sem]
  have HW := Lib.hid hW1
  have hend : ∀ z, checkZ 3 ⟨ky, ch, tt, sp, lo⟩ n = z → R (.returned (.int .i64 z)) W1 := by
    intro z hz
    rw [HR.out]
    exact ⟨by rw [hz], hbW⟩
  have HEND := Lib.hid hend; clear hend
  go_enter Try.func37, Try.ntmps37
  go_wp2_with fail
  rw [← hW1]
  clear hW1 HW

  refine (has_three _).mono ?_
  rintro e w1 ⟨rfl, rfl⟩
  by_cases hch : ch = 0
  rotate_left
  · have ech : (ch != 0) = true := by simp [hch]
    go_wp2_with (go_at_call 75; first | (refine (page_yes _ _ (by unfold isP; omega)).mono ?_; rintro e w1 ⟨rfl, rfl⟩) | (refine (page_no _ _ (by unfold isP; omega)).mono ?_; rintro e w1 ⟨rfl, rfl⟩))
    exact HEND.out 1 (if_neg (fun h => by simp [goodC, goodL, isP, hasC, hasK, isK] at h; omega))
  have ech : (ch != 0) = false := by simp [hch]
  by_cases hky : ky = 0
  rotate_left
  · have eky : (ky != 0) = true := by simp [hky]
    go_wp2_with (go_at_call 75; first | (refine (page_yes _ _ (by unfold isP; omega)).mono ?_; rintro e w1 ⟨rfl, rfl⟩) | (refine (page_no _ _ (by unfold isP; omega)).mono ?_; rintro e w1 ⟨rfl, rfl⟩))
    exact HEND.out 1 (if_neg (fun h => by simp [goodC, goodL, isP, hasC, hasK, isK] at h; omega))
  have eky : (ky != 0) = false := by simp [hky]
  by_cases hlo : 0 ≤ tt
  rotate_left
  · skip
    go_wp2_with (go_at_call 75; first | (refine (page_yes _ _ (by unfold isP; omega)).mono ?_; rintro e w1 ⟨rfl, rfl⟩) | (refine (page_no _ _ (by unfold isP; omega)).mono ?_; rintro e w1 ⟨rfl, rfl⟩))
    exact HEND.out 1 (if_neg (fun h => by simp [goodC, goodL, isP, hasC, hasK, isK] at h; omega))
  by_cases hhi : tt ≤ 16384
  rotate_left
  · skip
    go_wp2_with (go_at_call 75; first | (refine (page_yes _ _ (by unfold isP; omega)).mono ?_; rintro e w1 ⟨rfl, rfl⟩) | (refine (page_no _ _ (by unfold isP; omega)).mono ?_; rintro e w1 ⟨rfl, rfl⟩))
    exact HEND.out 1 (if_neg (fun h => by simp [goodC, goodL, isP, hasC, hasK, isK] at h; omega))
  by_cases hnl : (n : Int) ≤ tt
  rotate_left
  · skip
    go_wp2_with (go_at_call 75; first | (refine (page_yes _ _ (by unfold isP; omega)).mono ?_; rintro e w1 ⟨rfl, rfl⟩) | (refine (page_no _ _ (by unfold isP; omega)).mono ?_; rintro e w1 ⟨rfl, rfl⟩))
    exact HEND.out 1 (if_neg (fun h => by simp [goodC, goodL, isP, hasC, hasK, isK] at h; omega))
  by_cases hq : (n : Int) = tt
  · have eq : ((n : Int) == tt) = true := by simp [hq]
    have nl : ¬ (n : Int) < tt := by omega
    by_cases hsp : sp = 0
    rotate_left
    · have esp : (sp != 0) = true := by simp [hsp]
      go_wp2_with (go_at_call 75; first | (refine (page_yes _ _ (by unfold isP; omega)).mono ?_; rintro e w1 ⟨rfl, rfl⟩) | (refine (page_no _ _ (by unfold isP; omega)).mono ?_; rintro e w1 ⟨rfl, rfl⟩))
      exact HEND.out 1 (if_neg (fun h => by simp [goodC, goodL, isP, hasC, hasK, isK] at h; omega))
    have esp : (sp != 0) = false := by simp [hsp]
    go_wp2_with (go_at_call 75; first | (refine (page_yes _ _ (by unfold isP; omega)).mono ?_; rintro e w1 ⟨rfl, rfl⟩) | (refine (page_no _ _ (by unfold isP; omega)).mono ?_; rintro e w1 ⟨rfl, rfl⟩))
    exact HEND.out 0 (if_pos ⟨⟨by omega, by omega⟩, fun h => by unfold hasC at h; exact ⟨by simp only; omega, by simp only; omega⟩, fun h => by unfold hasC at h; simp only; omega, fun h => by unfold hasK at h; simp only; omega, fun h => ⟨by simp only; omega, by simp only; omega, by simp only; omega, fun h2 => by simp only at h2; simp only; omega, fun h2 => ⟨by simp only at h2; simp only; omega, by simp only at h2; simp only; omega⟩⟩, fun h => ⟨by simp only; omega, by omega, by simp only; omega⟩⟩)
  · have eq : ((n : Int) == tt) = false := by simp [hq]
    have nl : (n : Int) < tt := by omega
    by_cases gs1 : 1 ≤ sp
    rotate_left
    · skip
      go_wp2_with (go_at_call 75; first | (refine (page_yes _ _ (by unfold isP; omega)).mono ?_; rintro e w1 ⟨rfl, rfl⟩) | (refine (page_no _ _ (by unfold isP; omega)).mono ?_; rintro e w1 ⟨rfl, rfl⟩))
      exact HEND.out 1 (if_neg (fun h => by simp [goodC, goodL, isP, hasC, hasK, isK] at h; omega))
    by_cases gs2 : sp ≤ 1048576
    rotate_left
    · skip
      go_wp2_with (go_at_call 75; first | (refine (page_yes _ _ (by unfold isP; omega)).mono ?_; rintro e w1 ⟨rfl, rfl⟩) | (refine (page_no _ _ (by unfold isP; omega)).mono ?_; rintro e w1 ⟨rfl, rfl⟩))
      exact HEND.out 1 (if_neg (fun h => by simp [goodC, goodL, isP, hasC, hasK, isK] at h; omega))
    go_wp2_with (go_at_call 75; first | (refine (page_yes _ _ (by unfold isP; omega)).mono ?_; rintro e w1 ⟨rfl, rfl⟩) | (refine (page_no _ _ (by unfold isP; omega)).mono ?_; rintro e w1 ⟨rfl, rfl⟩))
    exact HEND.out 0 (if_pos ⟨⟨by omega, by omega⟩, fun h => by unfold hasC at h; exact ⟨by simp only; omega, by simp only; omega⟩, fun h => by unfold hasC at h; simp only; omega, fun h => by unfold hasK at h; simp only; omega, fun h => ⟨by simp only; omega, by simp only; omega, by simp only; omega, fun h2 => by simp only at h2; simp only; omega, fun h2 => ⟨by simp only at h2; simp only; omega, by simp only at h2; simp only; omega⟩⟩, fun h => ⟨by simp only; omega, by omega, by simp only; omega⟩⟩)
set_option maxHeartbeats 8000000 in
theorem check_four (w : World) (ky ch tt sp : Int) (lo : List Int) (A : Option Addr) (n d : Nat) (hc : (⟨ky, ch, tt, sp, lo⟩ : Cl).ok) (_hn : (n : Int) ≤ 9223372036854775807) (R : Ending → World → Prop) (hR : R = fun e w' => e = .returned (.int .i64 (checkZ 4 ⟨ky, ch, tt, sp, lo⟩ n)) ∧ Below w.heap.size w w') :
    Calls Try.prog 37 #[.int .i64 4, .agg #[.int .i64 ky, .int .i64 ch, .int .i64 tt, .slice A n d, .int .i64 sp]] w R := by
  have HR := Lib.hid hR; clear hR
  obtain ⟨c0, c1, c2, c3⟩ := hc
  simp only at c0 c1 c2 c3
  obtain ⟨W1, hW1⟩ : ∃ W, W = w.alloc (.cells #[.int .i64 ky, .int .i64 ch, .int .i64 tt, .slice A n d, .int .i64 sp] 55) := ⟨_, rfl⟩
  have hbW : Below w.heap.size w W1 := by rw [hW1]; exact (Below.refl _ _).alloc (Nat.le_refl _) _
  have k0 : W1.cell? ⟨w.heap.size, 0, none⟩ = some (.int .i64 ky) := by rw [hW1]; simp [go_sem]
  have k1 : W1.cell? ⟨w.heap.size, 1, none⟩ = some (.int .i64 ch) := by rw [hW1]; simp [go_sem]
  have k2 : W1.cell? ⟨w.heap.size, 2, none⟩ = some (.int .i64 tt) := by rw [hW1]; simp [go_sem]
  have k3 : W1.cell? ⟨w.heap.size, 3, none⟩ = some (.slice A n d) := by rw [hW1]; simp [go_sem]
  have k4 : W1.cell? ⟨w.heap.size, 4, none⟩ = some (.int .i64 sp) := by rw [hW1]; simp [go_sem]
  have HW := Lib.hid hW1
  have hend : ∀ z, checkZ 4 ⟨ky, ch, tt, sp, lo⟩ n = z → R (.returned (.int .i64 z)) W1 := by
    intro z hz
    rw [HR.out]
    exact ⟨by rw [hz], hbW⟩
  have HEND := Lib.hid hend; clear hend
  go_enter Try.func37, Try.ntmps37
  go_wp2_with fail
  rw [← hW1]
  clear hW1 HW

  refine (has_four _).mono ?_
  rintro e w1 ⟨rfl, rfl⟩
  by_cases gch1 : 1 ≤ ch
  rotate_left
  · skip
    go_wp2_with (go_at_call 75; first | (refine (page_yes _ _ (by unfold isP; omega)).mono ?_; rintro e w1 ⟨rfl, rfl⟩) | (refine (page_no _ _ (by unfold isP; omega)).mono ?_; rintro e w1 ⟨rfl, rfl⟩))
    exact HEND.out 1 (if_neg (fun h => by simp [goodC, goodL, isP, hasC, hasK, isK] at h; omega))
  by_cases gch2 : ch ≤ 1048576
  rotate_left
  · skip
    go_wp2_with (go_at_call 75; first | (refine (page_yes _ _ (by unfold isP; omega)).mono ?_; rintro e w1 ⟨rfl, rfl⟩) | (refine (page_no _ _ (by unfold isP; omega)).mono ?_; rintro e w1 ⟨rfl, rfl⟩))
    exact HEND.out 1 (if_neg (fun h => by simp [goodC, goodL, isP, hasC, hasK, isK] at h; omega))
  by_cases hky : ky = 0
  rotate_left
  · have eky : (ky != 0) = true := by simp [hky]
    go_wp2_with (go_at_call 75; first | (refine (page_yes _ _ (by unfold isP; omega)).mono ?_; rintro e w1 ⟨rfl, rfl⟩) | (refine (page_no _ _ (by unfold isP; omega)).mono ?_; rintro e w1 ⟨rfl, rfl⟩))
    exact HEND.out 1 (if_neg (fun h => by simp [goodC, goodL, isP, hasC, hasK, isK] at h; omega))
  have eky : (ky != 0) = false := by simp [hky]
  by_cases hlo : 0 ≤ tt
  rotate_left
  · skip
    go_wp2_with (go_at_call 75; first | (refine (page_yes _ _ (by unfold isP; omega)).mono ?_; rintro e w1 ⟨rfl, rfl⟩) | (refine (page_no _ _ (by unfold isP; omega)).mono ?_; rintro e w1 ⟨rfl, rfl⟩))
    exact HEND.out 1 (if_neg (fun h => by simp [goodC, goodL, isP, hasC, hasK, isK] at h; omega))
  by_cases hhi : tt ≤ 16384
  rotate_left
  · skip
    go_wp2_with (go_at_call 75; first | (refine (page_yes _ _ (by unfold isP; omega)).mono ?_; rintro e w1 ⟨rfl, rfl⟩) | (refine (page_no _ _ (by unfold isP; omega)).mono ?_; rintro e w1 ⟨rfl, rfl⟩))
    exact HEND.out 1 (if_neg (fun h => by simp [goodC, goodL, isP, hasC, hasK, isK] at h; omega))
  by_cases hnl : (n : Int) ≤ tt
  rotate_left
  · skip
    go_wp2_with (go_at_call 75; first | (refine (page_yes _ _ (by unfold isP; omega)).mono ?_; rintro e w1 ⟨rfl, rfl⟩) | (refine (page_no _ _ (by unfold isP; omega)).mono ?_; rintro e w1 ⟨rfl, rfl⟩))
    exact HEND.out 1 (if_neg (fun h => by simp [goodC, goodL, isP, hasC, hasK, isK] at h; omega))
  by_cases hq : (n : Int) = tt
  · have eq : ((n : Int) == tt) = true := by simp [hq]
    have nl : ¬ (n : Int) < tt := by omega
    by_cases hsp : sp = 0
    rotate_left
    · have esp : (sp != 0) = true := by simp [hsp]
      go_wp2_with (go_at_call 75; first | (refine (page_yes _ _ (by unfold isP; omega)).mono ?_; rintro e w1 ⟨rfl, rfl⟩) | (refine (page_no _ _ (by unfold isP; omega)).mono ?_; rintro e w1 ⟨rfl, rfl⟩))
      exact HEND.out 1 (if_neg (fun h => by simp [goodC, goodL, isP, hasC, hasK, isK] at h; omega))
    have esp : (sp != 0) = false := by simp [hsp]
    go_wp2_with (go_at_call 75; first | (refine (page_yes _ _ (by unfold isP; omega)).mono ?_; rintro e w1 ⟨rfl, rfl⟩) | (refine (page_no _ _ (by unfold isP; omega)).mono ?_; rintro e w1 ⟨rfl, rfl⟩))
    exact HEND.out 0 (if_pos ⟨⟨by omega, by omega⟩, fun h => by unfold hasC at h; exact ⟨by simp only; omega, by simp only; omega⟩, fun h => by unfold hasC at h; simp only; omega, fun h => by unfold hasK at h; simp only; omega, fun h => ⟨by simp only; omega, by simp only; omega, by simp only; omega, fun h2 => by simp only at h2; simp only; omega, fun h2 => ⟨by simp only at h2; simp only; omega, by simp only at h2; simp only; omega⟩⟩, fun h => ⟨by simp only; omega, by omega, by simp only; omega⟩⟩)
  · have eq : ((n : Int) == tt) = false := by simp [hq]
    have nl : (n : Int) < tt := by omega
    by_cases gs1 : 1 ≤ sp
    rotate_left
    · skip
      go_wp2_with (go_at_call 75; first | (refine (page_yes _ _ (by unfold isP; omega)).mono ?_; rintro e w1 ⟨rfl, rfl⟩) | (refine (page_no _ _ (by unfold isP; omega)).mono ?_; rintro e w1 ⟨rfl, rfl⟩))
      exact HEND.out 1 (if_neg (fun h => by simp [goodC, goodL, isP, hasC, hasK, isK] at h; omega))
    by_cases gs2 : sp ≤ 1048576
    rotate_left
    · skip
      go_wp2_with (go_at_call 75; first | (refine (page_yes _ _ (by unfold isP; omega)).mono ?_; rintro e w1 ⟨rfl, rfl⟩) | (refine (page_no _ _ (by unfold isP; omega)).mono ?_; rintro e w1 ⟨rfl, rfl⟩))
      exact HEND.out 1 (if_neg (fun h => by simp [goodC, goodL, isP, hasC, hasK, isK] at h; omega))
    go_wp2_with (go_at_call 75; first | (refine (page_yes _ _ (by unfold isP; omega)).mono ?_; rintro e w1 ⟨rfl, rfl⟩) | (refine (page_no _ _ (by unfold isP; omega)).mono ?_; rintro e w1 ⟨rfl, rfl⟩))
    exact HEND.out 0 (if_pos ⟨⟨by omega, by omega⟩, fun h => by unfold hasC at h; exact ⟨by simp only; omega, by simp only; omega⟩, fun h => by unfold hasC at h; simp only; omega, fun h => by unfold hasK at h; simp only; omega, fun h => ⟨by simp only; omega, by simp only; omega, by simp only; omega, fun h2 => by simp only at h2; simp only; omega, fun h2 => ⟨by simp only at h2; simp only; omega, by simp only at h2; simp only; omega⟩⟩, fun h => ⟨by simp only; omega, by omega, by simp only; omega⟩⟩)
set_option maxHeartbeats 8000000 in
theorem check_no (w : World) (k : Int) (ky ch tt sp : Int) (lo : List Int) (A : Option Addr) (n d : Nat) (hno : ¬ isK k) (hc : (⟨ky, ch, tt, sp, lo⟩ : Cl).ok) (_hn : (n : Int) ≤ 9223372036854775807) (R : Ending → World → Prop) (hR : R = fun e w' => e = .returned (.int .i64 (checkZ k ⟨ky, ch, tt, sp, lo⟩ n)) ∧ Below w.heap.size w w') :
    Calls Try.prog 37 #[.int .i64 k, .agg #[.int .i64 ky, .int .i64 ch, .int .i64 tt, .slice A n d, .int .i64 sp]] w R := by
  have HR := Lib.hid hR; clear hR
  obtain ⟨c0, c1, c2, c3⟩ := hc
  simp only at c0 c1 c2 c3
  obtain ⟨W1, hW1⟩ : ∃ W, W = w.alloc (.cells #[.int .i64 ky, .int .i64 ch, .int .i64 tt, .slice A n d, .int .i64 sp] 55) := ⟨_, rfl⟩
  have hbW : Below w.heap.size w W1 := by rw [hW1]; exact (Below.refl _ _).alloc (Nat.le_refl _) _
  have k0 : W1.cell? ⟨w.heap.size, 0, none⟩ = some (.int .i64 ky) := by rw [hW1]; simp [go_sem]
  have k1 : W1.cell? ⟨w.heap.size, 1, none⟩ = some (.int .i64 ch) := by rw [hW1]; simp [go_sem]
  have k2 : W1.cell? ⟨w.heap.size, 2, none⟩ = some (.int .i64 tt) := by rw [hW1]; simp [go_sem]
  have k3 : W1.cell? ⟨w.heap.size, 3, none⟩ = some (.slice A n d) := by rw [hW1]; simp [go_sem]
  have k4 : W1.cell? ⟨w.heap.size, 4, none⟩ = some (.int .i64 sp) := by rw [hW1]; simp [go_sem]
  have HW := Lib.hid hW1
  have hend : ∀ z, checkZ k ⟨ky, ch, tt, sp, lo⟩ n = z → R (.returned (.int .i64 z)) W1 := by
    intro z hz
    rw [HR.out]
    exact ⟨by rw [hz], hbW⟩
  have HEND := Lib.hid hend; clear hend
  go_enter Try.func37, Try.ntmps37
  go_wp2_with fail
  rw [← hW1]
  clear hW1 HW

  refine (has_no _ _ hno).mono ?_
  rintro e w1 ⟨rfl, rfl⟩
  go_wp2
  exact HEND.out 1 (if_neg (fun h => hno h.1))
theorem checkC_any (w : World) (k : Int) (c : Cl) (A : Option Addr) (n d : Nat) (hc : c.ok) (hn : (n : Int) ≤ 9223372036854775807) :
    Calls Try.prog 37 #[.int .i64 k, c.val A n d] w fun e w' => e = .returned (.int .i64 (checkZ k c n)) ∧ Below w.heap.size w w' := by
  obtain ⟨ky, ch, tt, sp, lo⟩ := c
  unfold Cl.val
  by_cases h : isK k
  · have := h
    unfold isK at this
    rcases (by omega : k = 1 ∨ k = 2 ∨ k = 3 ∨ k = 4) with rfl | rfl | rfl | rfl
    · exact check_one w ky ch tt sp lo A n d hc hn _ rfl
    · exact check_two w ky ch tt sp lo A n d hc hn _ rfl
    · exact check_three w ky ch tt sp lo A n d hc hn _ rfl
    · exact check_four w ky ch tt sp lo A n d hc hn _ rfl
  · exact check_no w k ky ch tt sp lo A n d h hc hn _ rfl
end
end Go.Proofs.Ytoeaffmlolapnaa
