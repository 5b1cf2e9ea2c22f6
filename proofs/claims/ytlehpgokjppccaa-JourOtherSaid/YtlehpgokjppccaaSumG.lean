/- Walk: tomelaw02.awake. -/
import Derived.Test.YtlehpgokjppccaaSumF
import Derived.Lib.SmallJoins
namespace Go.Proofs.Ytlehpgokjppccaa
open Go.RowKit

/-- Bytes written out in a new block. -/
theorem Rd.lit {w : World} {b : Nat} {cs : Array Value} {t : TypeId} {fr : Nat × Nat} {l : List Int} (h : w.heap[b]? = some (.cells cs t fr)) (hcs : cs.toList = l.map (Value.int .u8)) : Rd w (some ⟨b, 0, none⟩) l := by
  refine .inr ⟨b, 0, rfl, fun i hi => ?_⟩
  rw [cell_of_row w b (0 + i) cs t fr h, ← Array.getElem?_toList, hcs, bt_lt hi]
  simp [hi]

theorem Rd.of1 {w : World} {b : Nat} {x0 : Int} (h0 : w.cell? ⟨b, 0, none⟩ = some (.int .u8 x0)) : Rd w (some ⟨b, 0, none⟩) [x0] := by
  refine .inr ⟨b, 0, rfl, fun i hi => ?_⟩
  obtain rfl : i = 0 := by simpa using hi
  simpa [bt] using h0
theorem Rd.of4 {w : World} {b : Nat} {x0 x1 x2 x3 : Int} (h0 : w.cell? ⟨b, 0, none⟩ = some (.int .u8 x0)) (h1 : w.cell? ⟨b, 1, none⟩ = some (.int .u8 x1)) (h2 : w.cell? ⟨b, 2, none⟩ = some (.int .u8 x2)) (h3 : w.cell? ⟨b, 3, none⟩ = some (.int .u8 x3)) : Rd w (some ⟨b, 0, none⟩) [x0, x1, x2, x3] := by
  refine .inr ⟨b, 0, rfl, fun i hi => ?_⟩
  simp at hi
  rcases (by omega : i = 0 ∨ i = 1 ∨ i = 2 ∨ i = 3) with rfl | rfl | rfl | rfl <;> simpa [bt]
theorem Rd.of5 {w : World} {b : Nat} {x0 x1 x2 x3 x4 : Int} (h0 : w.cell? ⟨b, 0, none⟩ = some (.int .u8 x0)) (h1 : w.cell? ⟨b, 1, none⟩ = some (.int .u8 x1)) (h2 : w.cell? ⟨b, 2, none⟩ = some (.int .u8 x2)) (h3 : w.cell? ⟨b, 3, none⟩ = some (.int .u8 x3)) (h4 : w.cell? ⟨b, 4, none⟩ = some (.int .u8 x4)) : Rd w (some ⟨b, 0, none⟩) [x0, x1, x2, x3, x4] := by
  refine .inr ⟨b, 0, rfl, fun i hi => ?_⟩
  simp at hi
  rcases (by omega : i = 0 ∨ i = 1 ∨ i = 2 ∨ i = 3 ∨ i = 4) with rfl | rfl | rfl | rfl | rfl <;> simpa [bt]

theorem awake_sum : sumI [49, 50, 51, 52, 53, 54, 55, 56, 57] = 3808858755 := by decide +kernel
theorem awake_sum0 : sumI [] = 0 := by decide +kernel
theorem awake_next : nextI 0 [1] = 1099511628211 := by decide +kernel
theorem awake_s1 : beqL [sumI [1] % 256, sumI [1] / 256 % 256, sumI [1] / 65536 % 256, sumI [1] / 16777216] [0, 0, 0, 0] = false := by decide +kernel

def AwakeBack (w : World) (e : Ending) (w' : World) : Prop := e = .returned (.bool true) ∧ Below w.heap.size w w'

end Go.Proofs.Ytlehpgokjppccaa
