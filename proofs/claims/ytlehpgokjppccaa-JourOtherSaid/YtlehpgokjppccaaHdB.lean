/- Walk: tomeref08.Check. -/
import Derived.Test.YtlehpgokjppccaaHdA
import Derived.Test.YtlehpgokjppccaaNumA
namespace Go.Proofs.Ytlehpgokjppccaa
open Go.RowKit
set_option maxRecDepth 100000

def SzRel (w w1 : World) (s : Int) (z : Value) (wr : World) : Prop := ∃ k : Int, isSize k ∧ (k = 256 ∨ k < 2 * s) ∧ z = .int .i64 k ∧ wr = w1 ∧ Below w.heap.size w wr

set_option maxHeartbeats 8000000 in
theorem rcheck_any0 (w : World) (h : Hd) (hok : h.ok) (R : Int) (hR : R = checkI h) : Calls Try.prog 19 #[h.val] w fun e w' => e = .returned (.int .i64 R) ∧ Below w.heap.size w w' := by
  have HR := Lib.hid hR; clear hR
  obtain ⟨s, p, f, m, c, v⟩ := h
  obtain ⟨o1, o2, o3, o4, o5, o6⟩ := hok
  unfold i64ok at o1 o2 o3 o4 o5 o6
  simp only at o1 o2 o3 o4 o5 o6
  unfold Hd.val
  go_enter Try.func19, Try.ntmps19
  go_wp2_with fail
  go_loopw [3] (fun z wr => SzRel w (w.alloc (.cells #[.int .i64 s, .int .i64 p, .int .i64 f, .int .i64 m, .int .i64 c, .int .i64 v] 23)) s z wr) (fun z _ => 5000 - (intOf z).toNat)
  case atStart => exact ⟨256, .inl rfl, .inl rfl, rfl, rfl, (Below.refl _ _).alloc (Nat.le_refl _) _⟩
  case round =>
    obtain ⟨k, hk, hk2, rfl, rfl, hb⟩ := hrel
    by_cases h1 : k < s
    · by_cases h2 : k < 4096
      · have hk3 : isSize (2 * k) := by unfold isSize at hk ⊢; omega
        have hk4 : IntKind.i64.wrap (2 * k) = 2 * k := IntWalk.i64_in _ (by unfold isSize at hk; omega)
        have hk5 : 256 ≤ k := by unfold isSize at hk; omega
        go_wp2_with fail
        go_roundw
        case rel => exact ⟨2 * k, hk3, .inr (by omega), rfl, rfl, hb⟩
        case measure => simp [intOf]; omega
      · have hns : ¬ isSize s := by unfold isSize at hk ⊢; omega
        have hne : (k != s) = true := by simp; omega
        go_wp2_with fail
        go_quiet (fail)
        go_wp2
        go_ret
        exact ⟨by rw [HR.out, check_no (fun hg => hns hg.1)]; rfl, below_drewN ((Below.refl _ _).alloc (Nat.le_refl _) _) _⟩
    · by_cases h2 : s = k
      · subst h2
        have HK := Lib.hid hk
        obtain ⟨q, hq, hqp⟩ : ∃ q, IntKind.i64.wrap ((16777216 : Int).tdiv s) = q ∧ (q < p ↔ 16777216 < s * p) := by
          unfold isSize at hk
          rcases hk with rfl | rfl | rfl | rfl | rfl
          · exact ⟨65536, by decide, by omega⟩
          · exact ⟨32768, by decide, by omega⟩
          · exact ⟨16384, by decide, by omega⟩
          · exact ⟨8192, by decide, by omega⟩
          · exact ⟨4096, by decide, by omega⟩
        have hs0 : s ≠ 0 := by unfold isSize at hk; omega
        have hs1 : s ≠ -1 := by unfold isSize at hk; omega
        have hne : (s != s) = false := by simp
        clear hk
        by_cases hp1 : p < 1
        · go_wp2_with fail
          go_quiet (fail)
          go_wp2
          go_ret
          exact ⟨by rw [HR.out, check_no (by rintro ⟨_, a1, a2, a3⟩; simp only at a1 a2 a3; omega)]; rfl, below_drewN ((Below.refl _ _).alloc (Nat.le_refl _) _) _⟩
        · by_cases hp2 : 1048576 < p
          · go_wp2_with fail
            go_quiet (fail)
            go_wp2
            go_ret
            exact ⟨by rw [HR.out, check_no (by rintro ⟨_, a1, a2, a3⟩; simp only at a1 a2 a3; omega)]; rfl, below_drewN ((Below.refl _ _).alloc (Nat.le_refl _) _) _⟩
          · by_cases hp3 : q < p
            · have hp4 := hqp.1 hp3
              have HP4 := Lib.hid hp4; clear hp4 hqp
              go_wp2_with fail
              go_quiet (fail)
              go_wp2
              go_ret
              exact ⟨by rw [HR.out, check_no (by have := HP4.out; rintro ⟨_, a1, a2, a3⟩; simp only at a1 a2 a3; omega)]; rfl, below_drewN ((Below.refl _ _).alloc (Nat.le_refl _) _) _⟩
            · have hp4 : ¬ 16777216 < s * p := fun h => hp3 (hqp.2 h)
              have HP4 := Lib.hid hp4; clear hp4 hqp
              go_wp2_with fail
              go_quiet (fail)
              go_wp2
              all_goals go_ret
              all_goals refine ⟨?_, below_drewN ((Below.refl _ _).alloc (Nat.le_refl _) _) _⟩
              all_goals rw [HR.out]
              all_goals have hp4 := HP4.out
              all_goals first
                | (rw [check_yes ⟨HK.out, ⟨by simp only; omega, by simp only; omega, by simp only; omega⟩, ⟨by simp only; omega, by simp only; omega, by simp only; omega, by simp only; omega⟩, ⟨by simp only; omega, by simp only; omega, by simp only; omega, by simp only; omega⟩⟩]; rfl)
                | (rw [check_no (by rintro ⟨_, a1, a2, a3⟩; simp only at a1 a2 a3; omega)]; rfl)
      · have hns : ¬ isSize s := by unfold isSize at hk ⊢; omega
        have hne : (k != s) = true := by simp; omega
        go_wp2_with fail
        go_quiet (fail)
        go_wp2
        go_ret
        exact ⟨by rw [HR.out, check_no (fun hg => hns hg.1)]; rfl, below_drewN ((Below.refl _ _).alloc (Nat.le_refl _) _) _⟩

theorem rcheck_any (w : World) (h : Hd) (hok : h.ok) : Calls Try.prog 19 #[h.val] w (CheckBack w h) := rcheck_any0 w h hok _ rfl
end Go.Proofs.Ytlehpgokjppccaa
