/- Walks: header.Encode, tomeref08.Encode. -/
import Derived.Test.YtlehpgokjppccaaHdB
import Derived.Test.YtlehpgokjppccaaHdC
namespace Go.Proofs.Ytlehpgokjppccaa
open Go.RowKit
set_option maxRecDepth 100000

def encL (h : Hd) : List Int := if h.good then headL h else []
theorem encL_yes {h : Hd} (hg : h.good) : encL h = headL h := if_pos hg
theorem encL_no {h : Hd} (hg : ¬ h.good) : encL h = [] := if_neg hg
theorem encL_isB (h : Hd) : IsB (encL h) := by
  unfold encL; split
  · exact headL_isB h
  · simp [IsB]
def EncBack (w : World) (h : Hd) (e : Ending) (w' : World) : Prop :=
  ∃ A n c, e = .returned (.tuple #[.slice A n c, .int .i64 (checkI h)]) ∧ OwnB w' w.heap.size A n c (encL h) ∧ Below w.heap.size w w'

set_option maxHeartbeats 2000000 in
theorem encode_any (w : World) (h : Hd) (hok : h.ok) : Calls Try.prog 13 #[h.val] w (EncBack w h) := by
  have HOK := Lib.hid hok; clear hok
  have hout : ∀ (R : Ending → World → Prop), R = EncBack w h → Calls Try.prog 13 #[h.val] w R := by
    intro R hR
    have HR := Lib.hid hR; clear hR
    by_cases hg : h.good
    · have HG := Lib.hid hg
      have hc := check_yes hg
      clear hg
      have HC := Lib.hid hc; clear hc
      unfold Hd.val
      go_enter Try.func13, Try.ntmps13
      go_wp2_with fail
      refine (check_any _ h HOK.out).mono ?_
      rintro e w1 ⟨rfl, hb1⟩
      have hB1 : Below w.heap.size w w1 := ((Below.refl _ _).alloc (Nat.le_refl _) _).trans (hb1.mono (by simp))
      have hS1 := hB1.size
      have hcell : ∀ i, i < 6 → w1.cell? ⟨w.heap.size, i, none⟩ = some (.int .i64 (h.list.getD i 0)) := by
        intro i hi
        rw [hb1.cell (by simp)]
        rcases (by omega : i = 0 ∨ i = 1 ∨ i = 2 ∨ i = 3 ∨ i = 4 ∨ i = 5) with rfl | rfl | rfl | rfl | rfl | rfl <;> simp [go_sem, Hd.list]
      clear hb1
      have k0 := hcell 0 (by omega)
      have k1 := hcell 1 (by omega)
      have k2 := hcell 2 (by omega)
      have k3 := hcell 3 (by omega)
      have k4 := hcell 4 (by omega)
      have k5 := hcell 5 (by omega)
      simp only [Hd.list, List.getD_cons_zero, List.getD_cons_succ] at k0 k1 k2 k3 k4 k5
      clear hcell
      simp only [HC.out]
      go_wp2_with fail
      refine (hbytes_any _ h HG.out).mono ?_
      rintro e w2 ⟨A, n, c, rfl, hown, hb2⟩
      have HO := Lib.hid hown; clear hown
      have hB2 := hB1.trans (hb2.mono hS1)
      go_wp2
      rw [HR.out]
      exact ⟨A, n, c, by rw [HC.out]; rfl, by rw [encL_yes HG.out]; exact HO.out.mono hS1, hB2⟩
    · have HG := Lib.hid hg
      have hc := check_no hg
      clear hg
      have HC := Lib.hid hc; clear hc
      unfold Hd.val
      go_enter Try.func13, Try.ntmps13
      go_wp2_with fail
      refine (check_any _ h HOK.out).mono ?_
      rintro e w1 ⟨rfl, hb1⟩
      have hB1 : Below w.heap.size w w1 := ((Below.refl _ _).alloc (Nat.le_refl _) _).trans (hb1.mono (by simp))
      simp only [HC.out]
      go_wp2
      rw [HR.out]
      exact ⟨none, 0, 0, by rw [HC.out]; rfl, by rw [encL_no HG.out]; exact OwnB.nil _ _, hB1⟩
  exact hout _ rfl
end Go.Proofs.Ytlehpgokjppccaa
