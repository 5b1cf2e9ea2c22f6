/- Walk: record.take, whole. -/
import Derived.Test.YtbbdglikdogmhaaRcK
namespace Go.Proofs.Ytbbdglikdogmhaa
open Go.RowKit
set_option maxRecDepth 100000
set_option linter.unusedVariables false
set_option linter.unusedSimpArgs false
set_option linter.unnecessarySimpa false

set_option maxHeartbeats 4000000 in
theorem take_any (w : World) (A : Option Addr) (n d : Nat) (c : Int) (b : List Int) (hl : b.length = n) (hc : ¬ badC c) (hc2 : c ≤ 8209) (hlc : (n : Int) = longI c) (hnd : n ≤ d) (hd : d ≤ maxLen) (hA : Rd w A b) (hB : IsB b) :
    Calls Try.prog 55 #[.int .i64 c, .slice A n d] w (TakeBack w c b) := by
  have hc' := hc
  unfold badC at hc'
  unfold longI at hlc
  by_cases h16 : c < 16
  · rw [if_pos h16] at hlc
    by_cases h0 : c = 0
    · subst h0
      have HV := Lib.hid (show takeV 0 b = zeroV from if_pos rfl)
      have HRR := Lib.hid (show decide ((readV 0 b).2 = 0) = true from rfl)
      obtain ⟨W1, hW1⟩ : ∃ W, W = w.alloc (.cells #[.int .i64 0, .int .i64 0, .string ⟨#[]⟩] 49) := ⟨_, rfl⟩
      have hbW : Below w.heap.size w W1 := by rw [hW1]; exact (Below.refl _ _).alloc (Nat.le_refl _) _
      have HT := Lib.hid (show W1.there w.heap.size 0 3 by
        rw [hW1]
        intro j hj
        rcases (by omega : j = 0 ∨ j = 1 ∨ j = 2) with rfl | rfl | rfl <;> simp [go_sem])
      have HW := Lib.hid hW1
      have HOUT : ∀ R, R = TakeBack w 0 b → Calls Try.prog 55 #[.int .i64 0, .slice A n d] w R := by
        intro R hR
        have HR := Lib.hid hR; clear hR
        go_enter Try.func55, Try.ntmps55
        go_upto_region 1 with fail
        rw [← hW1]
        clear hW1 HW
        go_upto_region 2 with fail
        iterate 4 go_step
        refine wp_store_vl rfl _ _ rfl w.heap.size zeroV rfl rfl HT.out ?_
        repeat go_step
        refine ret_vl2 rfl rfl (VlAt.stored HT.out zeroV) rfl ?_
        rw [HR.out]
        exact ⟨by rw [HV.out, HRR.out]; rfl, below_setCellsV hbW (Nat.le_refl _) _ _⟩
      exact HOUT _ rfl
    · rcases (by omega : c = 1 ∨ c = 2 ∨ c = 3 ∨ c = 4 ∨ c = 5 ∨ c = 6 ∨ c = 7 ∨ c = 8) with rfl | rfl | rfl | rfl | rfl | rfl | rfl | rfl
      · obtain rfl : n = 1 := by omega
        exact take_1 w A d b hl hnd hd hA hB _ rfl
      · obtain rfl : n = 2 := by omega
        exact take_2 w A d b hl hnd hd hA hB _ rfl
      · obtain rfl : n = 3 := by omega
        exact take_3 w A d b hl hnd hd hA hB _ rfl
      · obtain rfl : n = 4 := by omega
        exact take_4 w A d b hl hnd hd hA hB _ rfl
      · obtain rfl : n = 5 := by omega
        exact take_5 w A d b hl hnd hd hA hB _ rfl
      · obtain rfl : n = 6 := by omega
        exact take_6 w A d b hl hnd hd hA hB _ rfl
      · obtain rfl : n = 7 := by omega
        exact take_7 w A d b hl hnd hd hA hB _ rfl
      · obtain rfl : n = 8 := by omega
        exact take_8 w A d b hl hnd hd hA hB _ rfl
  · have hv : takeV c b = ⟨2 + c % 2, 0, b⟩ := by unfold takeV; rw [if_neg (by omega), if_pos (by omega)]
    have hr : decide ((readV c b).2 = 0) = true := by unfold readV; rw [if_neg (by omega), if_pos (by omega)]; rfl
    have HV := Lib.hid hv
    have HRR := Lib.hid hr
    clear hv hr hc hlc
    obtain ⟨W1, hW1⟩ : ∃ W, W = w.alloc (.cells #[.int .i64 0, .int .i64 0, .string ⟨#[]⟩] 49) := ⟨_, rfl⟩
    have hbW : Below w.heap.size w W1 := by rw [hW1]; exact (Below.refl _ _).alloc (Nat.le_refl _) _
    have HT := Lib.hid (show W1.there w.heap.size 0 3 by
      rw [hW1]
      intro j hj
      rcases (by omega : j = 0 ∨ j = 1 ∨ j = 2) with rfl | rfl | rfl <;> simp [go_sem])
    have hrun := run_str W1 A n d b hl (hA.keep hbW)
    have HW := Lib.hid hW1
    have HOUT : ∀ R, R = TakeBack w c b → Calls Try.prog 55 #[.int .i64 c, .slice A n d] w R := by
      intro R hR
      have HR := Lib.hid hR; clear hR
      have q0 : (c == 0) = false := by simp; omega
      have q8 : ¬ c ≤ 8 := by omega
      clear hc' hl hA hB
      by_cases hp : c % 2 = 0
      · have p1 : (c.tmod 2 == 0) = true := by rw [Int.tmod_eq_emod_of_nonneg (by omega)]; simp [hp]
        have p2 : (c % 2 == 0) = true := by simp [hp]
        have HP := Lib.hid hp
        go_enter Try.func55, Try.ntmps55
        go_upto_region 1 with fail
        rw [← hW1]
        clear hW1 HW
        go_upto_region 9 with fail
        iterate 10 go_step
        refine wp_store_vl rfl _ _ rfl w.heap.size ⟨2, 0, b⟩ rfl rfl HT.out ?_
        repeat go_step
        refine ret_vl2 rfl rfl (VlAt.stored HT.out ⟨2, 0, b⟩) rfl ?_
        rw [HR.out]
        exact ⟨by rw [HV.out, HRR.out, HP.out]; rfl, below_setCellsV hbW (Nat.le_refl _) _ _⟩
      · have p1 : (c.tmod 2 == 0) = false := by rw [Int.tmod_eq_emod_of_nonneg (by omega)]; simp [hp]
        have p2 : (c % 2 == 0) = false := by simp [hp]
        have HP := Lib.hid (show c % 2 = 1 by omega)
        clear hp
        go_enter Try.func55, Try.ntmps55
        go_upto_region 1 with fail
        rw [← hW1]
        clear hW1 HW
        go_upto_region 10 with fail
        iterate 10 go_step
        refine wp_store_vl rfl _ _ rfl w.heap.size ⟨3, 0, b⟩ rfl rfl HT.out ?_
        repeat go_step
        refine ret_vl2 rfl rfl (VlAt.stored HT.out ⟨3, 0, b⟩) rfl ?_
        rw [HR.out]
        exact ⟨by rw [HV.out, HRR.out, HP.out]; rfl, below_setCellsV hbW (Nat.le_refl _) _ _⟩
    exact HOUT _ rfl
end Go.Proofs.Ytbbdglikdogmhaa
