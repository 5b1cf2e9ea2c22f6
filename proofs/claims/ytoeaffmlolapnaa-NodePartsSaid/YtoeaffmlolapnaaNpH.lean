/- Several texts of this proof as one: ClO. Laid by merge.py. -/
import Derived.Test.YtoeaffmlolapnaaNpA
import Derived.Test.YtoeaffmlolapnaaNpB
import Derived.Test.YtoeaffmlolapnaaNpC
import Derived.Test.YtoeaffmlolapnaaNpD
import Derived.Test.YtoeaffmlolapnaaNpF
import Derived.Test.YtoeaffmlolapnaaNpG
import Derived.ArgAppend
import Derived.BigQuiet
import Derived.Deep.DeepCutAuto
import Derived.Deep.MidRow
import Derived.Deep.QuietTactic
import Derived.Deep.RegionHeld3
import Derived.Handy
import Derived.Laws.Externs
import Derived.Laws.ResultCell
import Derived.Lib.AppendStr
import Derived.Lib.Hide
import Derived.Lib.MakeNoZero
import Derived.Lib.SlBuf
import Derived.Lib.SmallJoins
import Derived.Maps.AppendAt
import Derived.Test.YtoeaffmlolapnaaProg
import Derived.WalkKit
import Derived.WalkSpells
namespace Go.Proofs.Ytoeaffmlolapnaa
section
open Go.RowKit
set_option maxRecDepth 100000
set_option linter.unusedVariables false
set_option linter.unusedSimpArgs false
theorem cl_eq (a b : Cl) : decide (a = b) = (decide (a.key = b.key) && decide (a.child = b.child) && decide (a.total = b.total) && decide (a.spill = b.spill) && decide (a.loc = b.loc)) := by
  obtain ⟨a0, a1, a2, a3, a4⟩ := a
  obtain ⟨b0, b1, b2, b3, b4⟩ := b
  simp [Bool.and_assoc]

set_option maxHeartbeats 4000000 in
theorem sameC_any (w : World) (a b : Cl) (A B : Option Addr) (n c m d : Nat) (hn : a.loc.length = n) (hm : b.loc.length = m) (hn' : n ≤ maxLen) (hA : Rd w A a.loc) (hB : Rd w B b.loc) :
    Calls Try.prog 34 #[a.val A n c, b.val B m d] w fun e w' => e = .returned (.bool (decide (a = b))) ∧ Below w.heap.size w w' := by
  rw [cl_eq]
  obtain ⟨a0, a1, a2, a4, al⟩ := a
  obtain ⟨b0, b1, b2, b4, bl⟩ := b
  simp only at hn hm hA hB ⊢
  have HN := Lib.hid hn; clear hn
  have HM := Lib.hid hm; clear hm
  obtain ⟨W2, hW2⟩ : ∃ W, W = (w.alloc (.cells #[.int .i64 a0, .int .i64 a1, .int .i64 a2, .slice A n c, .int .i64 a4] 55)).alloc (.cells #[.int .i64 b0, .int .i64 b1, .int .i64 b2, .slice B m d, .int .i64 b4] 55) := ⟨_, rfl⟩
  have hbW : Below w.heap.size w W2 := by rw [hW2]; exact ((Below.refl _ _).alloc (Nat.le_refl _) _).alloc (by simp) _
  have h1 : ClAt W2 w.heap.size ⟨a0, a1, a2, a4, al⟩ A n c := by
    rw [hW2]
    exact ⟨by simp [go_sem], by simp [go_sem], by simp [go_sem], by simp [go_sem], by simp [go_sem]⟩
  have h2 : ClAt W2 (w.heap.size + 1) ⟨b0, b1, b2, b4, bl⟩ B m d := by
    rw [hW2]
    exact ⟨by simp [go_sem], by simp [go_sem], by simp [go_sem], by simp [go_sem], by simp [go_sem]⟩
  have HA := Lib.hid (hA.keep hbW); clear hA
  have HB := Lib.hid (hB.keep hbW); clear hB
  have hmm : n ≤ 9223372036854775807 := by unfold maxLen at hn'; omega
  have HW := Lib.hid hW2
  obtain ⟨p0, p1, p2, p3, p4⟩ := h1
  obtain ⟨q0, q1, q2, q3, q4⟩ := h2
  unfold Cl.val
  go_enter Try.func34, Try.ntmps34
  go_upto_region 1 with fail
  rw [← hW2]
  clear hW2 HW
  by_cases e0 : a0 = b0
  rotate_left
  · have f0 : (a0 == b0) = false := by simp [e0]
    go_wp2
    go_ret
    exact ⟨ret_bool (by simp [e0]), hbW⟩
  have f0 : (a0 == b0) = true := by simp [e0]
  have E0 := Lib.hid e0; clear e0
  by_cases e1 : a1 = b1
  rotate_left
  · have f1 : (a1 == b1) = false := by simp [e1]
    go_wp2
    go_ret
    exact ⟨ret_bool (by simp [e1]), hbW⟩
  have f1 : (a1 == b1) = true := by simp [e1]
  have E1 := Lib.hid e1; clear e1
  by_cases e2 : a2 = b2
  rotate_left
  · have f2 : (a2 == b2) = false := by simp [e2]
    go_wp2
    go_ret
    exact ⟨ret_bool (by simp [e2]), hbW⟩
  have f2 : (a2 == b2) = true := by simp [e2]
  have E2 := Lib.hid e2; clear e2
  by_cases e4 : a4 = b4
  rotate_left
  · have f4 : (a4 == b4) = false := by simp [e4]
    go_wp2
    go_ret
    exact ⟨ret_bool (by simp [e4]), hbW⟩
  have f4 : (a4 == b4) = true := by simp [e4]
  have E4 := Lib.hid e4; clear e4
  go_wp2_with fail
  refine (same1_any _ A B n c m d _ _ HN.out HM.out hmm HA.out HB.out).mono ?_
  rintro e w3 ⟨rfl, hb3⟩
  go_wp2
  go_ret
  exact ⟨ret_bool (by simp [E0.out, E1.out, E2.out, E4.out, beqL]), hbW.trans (hb3.mono hbW.size)⟩
end
end Go.Proofs.Ytoeaffmlolapnaa
