/- Walks: tomelaw18.awake, CellEncodes, CellDecodes. -/
import Derived.Test.YtoeaffmlolapnaaClO
import Derived.Test.YtoeaffmlolapnaaClD
import Derived.Test.YtoeaffmlolapnaaClE
namespace Go.Proofs.Ytoeaffmlolapnaa
open Go.RowKit
set_option maxRecDepth 100000
set_option linter.unusedVariables false
set_option linter.unusedSimpArgs false

theorem varL_isB (n : Int) : IsB (varL n) := vl_isB _
theorem isB_app {a b : List Int} (ha : IsB a) (hb : IsB b) : IsB (a ++ b) := by
  intro x hx
  rcases List.mem_append.1 hx with h | h
  · exact ha x h
  · exact hb x h
theorem isB_nil : IsB [] := fun x hx => by simp at hx
theorem cellB_isB (k : Int) (c : Cl) (h : IsB c.loc) : IsB (cellB k c) := by
  unfold cellB childB keyB loadB spillB
  refine isB_app ?_ (isB_app ?_ ?_)
  · split
    · exact varL_isB _
    · exact isB_nil
  · split
    · exact varL_isB _
    · exact isB_nil
  · split
    · exact isB_nil
    · refine isB_app (varL_isB _) (isB_app (varL_isB _) (isB_app h ?_))
      split
      · exact isB_nil
      · exact varL_isB _
def CYes (w : World) (e : Ending) (w' : World) : Prop := e = .returned (.bool true) ∧ Below w.heap.size w w'

theorem wpList_wanted {P : Program} {ops : Array Oper} {Q : Exit → Act → World → Prop} {a : Act} {w : World} {rest : List Oper} {o : Oper} (hw : Region.wanted o (yielded ops a.tmps) = true)
    (h : ∀ K : Act → World → Prop, (∀ a w, wpList P ops Q rest a w → K a w) → o.wp P a w K Q) : wpList P ops Q (o :: rest) a w :=
  wpList_step fun K hK => by rw [if_pos hw]; exact h K hK
theorem wp_load_clg {ops : Array Oper} {rest : List Oper} {op : Oper} {a : Act} {w : World} {Q : Exit → Act → World → Prop} (hw : Region.wanted op (yielded ops a.tmps) = true) (x : Operand) (ho : op.op = .load 55 x) (g : Nat) (c : Cl) (A : Option Addr) (n d : Nat)
    (hx : a.eval x = .pointer (some ⟨g, 0, none⟩)) (hc : ClAt w g c A n d) (h : wpList Try.prog ops Q rest (a.put op.dst (c.val A n d)) w) : wpList Try.prog ops Q (op :: rest) a w :=
  wpList_wanted hw fun _ hK => wp_load_mid 55 x ho g 0 hx (clC c A n d) _ hc.range Try.underlying55 rfl size_cl (hK _ _ h)

theorem enc_a1 : encC 2 ⟨-1, 5, 0, 0, []⟩ = [10, 1] := by decide +kernel
theorem enc_a2 : encC 1 ⟨0, 0, 3, 2, [7, 8]⟩ = [0, 6, 4, 7, 8, 4] := by decide +kernel
theorem chk_a1 : checkZ 2 ⟨-1, 5, 0, 0, []⟩ 0 = 0 := by decide
theorem chk_a2 : checkZ 1 ⟨0, 0, 3, 2, [7, 8]⟩ 2 = 0 := by decide
theorem dec_a3 : decC 3 [0, 0, 9] = (zeroC, 8) := by decide +kernel

set_option maxHeartbeats 4000000 in
theorem cawake_any (w : World) : Calls Try.prog 31 #[] w (CYes w) := by
  go_enter Try.func31, Try.ntmps31
  go_wp2_with fail
  refine (cencC_any _ 2 ⟨-1, 5, 0, 0, []⟩ none 0 0 (by unfold Cl.ok; simp only; omega) (Nat.le_refl _) (by decide) rfl (.inl rfl)).mono ?_
  rintro e w1 ⟨A1, n1, c1, rfl, a1, a2, a3, a4, hb1, _⟩
  rw [chk_a1]
  rw [enc_a1] at a1 a4
  have HA1 := Lib.hid a4; clear a4
  have HN1 := Lib.hid a1; clear a1
  have hcc1 : n1 ≤ 9223372036854775807 := by unfold maxLen at a3; omega
  go_wp2_with fail
  have hlit := OwnB.lit w1 #[.int .u8 7, .int .u8 8] [7, 8] w1.heap.size 2 rfl rfl (Nat.le_refl _) (by decide)
  have hbl : Below w1.heap.size w1 (w1.alloc (.cells #[.int .u8 7, .int .u8 8] 5)) := (Below.refl _ _).alloc (Nat.le_refl _) _
  refine (cencC_any _ 1 ⟨0, 0, 3, 2, [7, 8]⟩ (some ⟨w1.heap.size, 0, none⟩) 2 2 (by unfold Cl.ok; simp only; omega) (Nat.le_refl _) (by decide) rfl hlit.rd).mono ?_
  rintro e w2 ⟨A2, n2, c2, rfl, d1, d2, d3, d4, hb2, _⟩
  rw [chk_a2]
  rw [enc_a2] at d1 d4
  have hB2 : Below w.heap.size w w2 := (hb1.trans (hbl.mono hb1.size)).trans (hb2.mono (by have := hb1.size; simp; omega))
  have HA1' := Lib.hid ((HA1.out.keep hbl).keep hb2)
  have HA2 := Lib.hid d4; clear d4
  have HN2 := Lib.hid d1; clear d1
  have hcc2 : n2 ≤ 9223372036854775807 := by unfold maxLen at d3; omega
  clear hlit hbl HA1 hb2 hb1
  have hz2 := hB2.size
  go_wp2_with fail
  have hlit := OwnB.lit w2 #[.int .u8 0, .int .u8 0, .int .u8 9] [0, 0, 9] w2.heap.size 3 rfl rfl (Nat.le_refl _) (by decide)
  have hbl : Below w2.heap.size w2 (w2.alloc (.cells #[.int .u8 0, .int .u8 0, .int .u8 9] 5)) := (Below.refl _ _).alloc (Nat.le_refl _) _
  refine (cdecC_any _ 3 (some ⟨w2.heap.size, 0, none⟩) 3 3 [0, 0, 9] rfl (Nat.le_refl _) (by decide) hlit.rd (by unfold IsB; decide)).mono ?_
  rintro e w3 ⟨A3, n3, c3, rfl, hown3, hb3⟩
  rw [dec_a3]
  rw [dec_a3] at hown3
  have hB3 : Below w.heap.size w w3 := (hB2.trans (hbl.mono hB2.size)).trans (hb3.mono (by simp; omega))
  have HA1 := Lib.hid ((HA1'.out.keep hbl).keep hb3)
  have HA2' := Lib.hid ((HA2.out.keep hbl).keep hb3)
  clear HA1' HA2 hlit hbl hb3 hown3
  obtain ⟨W4, hW4⟩ : ∃ W, W = w3.alloc (.cells #[.int .i64 0, .int .i64 0, .int .i64 0, .slice none 0 0, .int .i64 0] 55) := ⟨_, rfl⟩
  have hb4 : Below w3.heap.size w3 W4 := by rw [hW4]; exact (Below.refl _ _).alloc (Nat.le_refl _) _
  have HTH := Lib.hid (show W4.there w3.heap.size 0 5 by
    rw [hW4]
    intro j hj
    rcases (by omega : j = 0 ∨ j = 1 ∨ j = 2 ∨ j = 3 ∨ j = 4) with rfl | rfl | rfl | rfl | rfl <;> simp [go_sem])
  have HW := Lib.hid hW4
  dsimp only
  iterate 13 go_step
  rw [← hW4]
  clear hW4 HW
  refine wp_store_cl rfl _ _ rfl w3.heap.size zeroC A3 n3 c3 rfl rfl HTH.out ?_
  obtain ⟨W5, hW5⟩ : ∃ W, W = W4.setCells w3.heap.size 0 (clC zeroC A3 n3 c3) := ⟨_, rfl⟩
  have hb5 : Below w3.heap.size w3 W5 := by rw [hW5]; exact below_setCellsC hb4 (Nat.le_refl _) _ _
  rw [← hW5]
  clear hW5
  have hB5 := hB3.trans (hb5.mono hB3.size)
  have HA1' := Lib.hid (HA1.out.keep hb5)
  have HA2 := Lib.hid (HA2'.out.keep hb5)
  clear HA1 HA2' hb4 hb5 HTH
  have hz5 := hB5.size
  go_wp2_with fail
  have hlit := OwnB.lit W5 #[.int .u8 10, .int .u8 1] [10, 1] W5.heap.size 2 rfl rfl (Nat.le_refl _) (by decide)
  have hbl : Below W5.heap.size W5 (W5.alloc (.cells #[.int .u8 10, .int .u8 1] 5)) := (Below.refl _ _).alloc (Nat.le_refl _) _
  refine (same1_any _ A1 (some ⟨W5.heap.size, 0, none⟩) n1 c1 2 2 _ _ HN1.out rfl hcc1 (HA1'.out.keep hbl) hlit.rd).mono ?_
  rintro e w6 ⟨rfl, hb6⟩
  simp only [beqL_self]
  have hB6 : Below w.heap.size w w6 := (hB5.trans (hbl.mono hB5.size)).trans (hb6.mono (by simp; omega))
  have HA2' := Lib.hid ((HA2.out.keep hbl).keep hb6)
  clear hlit hbl hb6 HA1' HA2
  have hz6 := hB6.size
  go_wp2_with fail
  have hlit := OwnB.lit w6 #[.int .u8 0, .int .u8 6, .int .u8 4, .int .u8 7, .int .u8 8, .int .u8 4] [0, 6, 4, 7, 8, 4] w6.heap.size 6 rfl rfl (Nat.le_refl _) (by decide)
  have hbl : Below w6.heap.size w6 (w6.alloc (.cells #[.int .u8 0, .int .u8 6, .int .u8 4, .int .u8 7, .int .u8 8, .int .u8 4] 5)) := (Below.refl _ _).alloc (Nat.le_refl _) _
  refine (same1_any _ A2 (some ⟨w6.heap.size, 0, none⟩) n2 c2 6 6 _ _ HN2.out rfl hcc2 (HA2'.out.keep hbl) hlit.rd).mono ?_
  rintro e w7 ⟨rfl, hb7⟩
  simp only [beqL_self]
  have hB7 : Below w.heap.size w w7 := (hB6.trans (hbl.mono hB6.size)).trans (hb7.mono (by simp; omega))
  go_wp2
  go_ret
  exact ⟨rfl, hB7⟩
end Go.Proofs.Ytoeaffmlolapnaa
