/- Walks over a page: may, New. -/
import Derived.Test.YtoeaffmlolapnaaSlE
namespace Go.Proofs.Ytoeaffmlolapnaa
open Go.RowKit
set_option maxRecDepth 100000
set_option linter.unusedVariables false
set_option linter.unusedSimpArgs false
set_option linter.unnecessarySimpa false

def mayP (n h : Int) : Prop := 256 ≤ n ∧ n ≤ 4096 ∧ 0 ≤ h ∧ h ≤ 64
instance (n h : Int) : Decidable (mayP n h) := by unfold mayP; infer_instance
set_option maxHeartbeats 4000000 in
theorem pmay_any (w : World) (n h : Int) (hn : -9223372036854775808 ≤ n ∧ n ≤ 9223372036854775807) (hh : -9223372036854775808 ≤ h ∧ h ≤ 9223372036854775807) :
    Calls Try.prog 55 #[.int .i64 n, .int .i64 h] w fun e w' => e = .returned (.bool (decide (mayP n h))) ∧ w = w' := by
  have key : ∀ b : Bool, (b = true ↔ mayP n h) → decide (mayP n h) = b := by
    intro b hb
    by_cases hm : mayP n h
    · rw [decide_eq_true hm, hb.2 hm]
    · rw [decide_eq_false hm]
      cases b with
      | true => exact absurd (hb.1 rfl) hm
      | false => rfl
  have HK := Lib.hid key
  clear key
  rcases (by omega : n < 256 ∨ (256 ≤ n ∧ 4096 < n) ∨ (256 ≤ n ∧ n ≤ 4096 ∧ h < 0) ∨ (256 ≤ n ∧ n ≤ 4096 ∧ 0 ≤ h ∧ 64 < h) ∨ (256 ≤ n ∧ n ≤ 4096 ∧ 0 ≤ h ∧ h ≤ 64)) with h1 | ⟨h1, h2⟩ | ⟨h1, h2, h3⟩ | ⟨h1, h2, h3, h4⟩ | ⟨h1, h2, h3, h4⟩
  rotate_right
  · rw [HK.out true (by unfold mayP; simp; omega)]
    go_enter Try.func55, Try.ntmps55
    go_wp2_with fail
    go_ret
    refine ⟨?_, rfl⟩
    first | rfl | exact ret_bool (by simp; omega)
  all_goals
    rw [HK.out false (by unfold mayP; simp; omega)]
    go_enter Try.func55, Try.ntmps55
    go_wp2_with fail
    go_ret
    refine ⟨?_, rfl⟩
    first | rfl | exact ret_bool (by simp; omega)

theorem zrs_list (n : Nat) : zrs n = (vb (List.replicate n 0) ++ []).toArray := by
  apply Array.ext'
  rw [List.append_nil]
  apply List.ext_getElem?
  intro i
  by_cases h : i < n
  · rw [Array.getElem?_toList, zrs_get h]
    simp [vb, h]
  · rw [List.getElem?_eq_none (by rw [Array.length_toList, zrs_size]; omega), List.getElem?_eq_none (by simp [vb]; omega)]
theorem isB_zeros (n : Nat) : IsB (List.replicate n 0) := by
  intro x hx
  rw [List.eq_of_mem_replicate hx]
  omega
def NewBack (w : World) (n h : Int) (e : Ending) (w' : World) : Prop :=
  Below w.heap.size w w' ∧ ((¬ mayP n h ∧ e = .returned (.tuple #[.pointer none, .int .i64 1])) ∨ (mayP n h ∧ ∃ g gb, e = .returned (.tuple #[.pointer (some ⟨g, 0, none⟩), .int .i64 0]) ∧ w.heap.size ≤ g ∧ w.heap.size ≤ gb ∧ Pg w' g gb n.toNat h.toNat (List.replicate n.toNat 0) []))
set_option maxHeartbeats 4000000 in
theorem pNew_any (w : World) (n h : Int) (hn : -9223372036854775808 ≤ n ∧ n ≤ 9223372036854775807) (hh : -9223372036854775808 ≤ h ∧ h ≤ 9223372036854775807) (R : Ending → World → Prop) (hR : R = NewBack w n h) :
    Calls Try.prog 17 #[.int .i64 n, .int .i64 h] w R := by
  have HR := Lib.hid hR; clear hR
  by_cases hm : mayP n h
  · have HM := Lib.hid hm
    obtain ⟨h1, h2, h3, h4⟩ := hm
    obtain ⟨N, rfl⟩ := Int.eq_ofNat_of_zero_le (show 0 ≤ n by omega)
    obtain ⟨H, rfl⟩ := Int.eq_ofNat_of_zero_le h3
    have hmk := run_mk N N (Nat.le_refl _) (by omega)
    go_enter Try.func17, Try.ntmps17
    go_wp2_with fail
    refine (pmay_any _ (N : Int) (H : Int) hn hh).mono ?_
    rintro e w1 ⟨rfl, rfl⟩
    simp only [decide_eq_true HM.out]
    go_wp2_with fail
    rw [HR.out]
    refine ⟨((Below.refl _ _).alloc (Nat.le_refl _) _).alloc (by simp) _, .inr ⟨HM.out, w.heap.size + 1, w.heap.size, rfl, by omega, Nat.le_refl _, ?_⟩⟩
    rw [Int.toNat_natCast, Int.toNat_natCast]
    refine ⟨?_, ?_, by simp, by unfold maxLen; omega, isB_zeros N⟩
    · have e := heap_alloc_new (w.alloc (.cells (zrs N) 5)) (.cells #[.slice (some ⟨w.heap.size, 0, none⟩) N N, .int .i64 (H : Int)] 91)
      have es : (w.alloc (.cells (zrs N) 5)).heap.size = w.heap.size + 1 := by simp
      rw [es] at e
      rw [List.length_replicate]
      exact e
    · unfold Row
      rw [Below.heap_alloc _ _ _ (by simp), ← zrs_list]
      exact heap_alloc_new w _
  · have HM := Lib.hid hm
    clear hm
    go_enter Try.func17, Try.ntmps17
    go_wp2_with fail
    refine (pmay_any _ n h hn hh).mono ?_
    rintro e w1 ⟨rfl, rfl⟩
    simp only [decide_eq_false HM.out]
    go_wp2_with fail
    rw [HR.out]
    exact ⟨Below.refl _ _, .inl ⟨HM.out, rfl⟩⟩
end Go.Proofs.Ytoeaffmlolapnaa
