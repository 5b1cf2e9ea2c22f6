/- Walk: tomelaw02.awake. -/
import Derived.Test.YtpcbgnedcbcapaaSumF
import Derived.Lib.SmallJoins
namespace Go.Proofs.Ytpcbgnedcbcapaa
open Go.RowKit

/-- Bytes written out in a new block. -/
theorem Rd.lit {w : World} {b : Nat} {cs : Array Value} {t : TypeId} {fr : Nat × Nat} {l : List Int} (h : w.heap[b]? = some (.cells cs t fr)) (hcs : cs.toList = l.map (Value.int .u8)) : Rd w (some ⟨b, 0, none⟩) l := by
  refine .inr ⟨b, 0, rfl, fun i hi => ?_⟩
  rw [cell_of_row w b (0 + i) cs t fr h, ← Array.getElem?_toList, hcs, bt_lt hi]
  simp [hi]

theorem Rd.of1 {w : World} {b : Nat} {x0 : Int} (h0 : w.cell? ⟨b, 0, none⟩ = some (.int .u8 x0)) : Rd w (some ⟨b, 0, none⟩) [x0] := by
  refine .inr ⟨b, 0, rfl, fun i hi => ?_⟩
  obtain rfl : i = 0 := by simpa using hi
  simpa [bt] using h0
theorem Rd.of4 {w : World} {b : Nat} {x0 x1 x2 x3 : Int} (h0 : w.cell? ⟨b, 0, none⟩ = some (.int .u8 x0)) (h1 : w.cell? ⟨b, 1, none⟩ = some (.int .u8 x1)) (h2 : w.cell? ⟨b, 2, none⟩ = some (.int .u8 x2)) (h3 : w.cell? ⟨b, 3, none⟩ = some (.int .u8 x3)) : Rd w (some ⟨b, 0, none⟩) [x0, x1, x2, x3] := by
  refine .inr ⟨b, 0, rfl, fun i hi => ?_⟩
  simp at hi
  rcases (by omega : i = 0 ∨ i = 1 ∨ i = 2 ∨ i = 3) with rfl | rfl | rfl | rfl <;> simpa [bt]
theorem Rd.of5 {w : World} {b : Nat} {x0 x1 x2 x3 x4 : Int} (h0 : w.cell? ⟨b, 0, none⟩ = some (.int .u8 x0)) (h1 : w.cell? ⟨b, 1, none⟩ = some (.int .u8 x1)) (h2 : w.cell? ⟨b, 2, none⟩ = some (.int .u8 x2)) (h3 : w.cell? ⟨b, 3, none⟩ = some (.int .u8 x3)) (h4 : w.cell? ⟨b, 4, none⟩ = some (.int .u8 x4)) : Rd w (some ⟨b, 0, none⟩) [x0, x1, x2, x3, x4] := by
  refine .inr ⟨b, 0, rfl, fun i hi => ?_⟩
  simp at hi
  rcases (by omega : i = 0 ∨ i = 1 ∨ i = 2 ∨ i = 3 ∨ i = 4) with rfl | rfl | rfl | rfl | rfl <;> simpa [bt]

theorem awake_sum : sumI [49, 50, 51, 52, 53, 54, 55, 56, 57] = 3808858755 := by decide +kernel
theorem awake_sum0 : sumI [] = 0 := by decide +kernel
theorem awake_next : nextI 0 [1] = 1099511628211 := by decide +kernel
theorem awake_s1 : beqL [sumI [1] % 256, sumI [1] / 256 % 256, sumI [1] / 65536 % 256, sumI [1] / 16777216] [0, 0, 0, 0] = false := by decide +kernel

def AwakeBack (w : World) (e : Ending) (w' : World) : Prop := e = .returned (.bool true) ∧ Below w.heap.size w w'

set_option maxRecDepth 100000 in
set_option maxHeartbeats 4000000 in
theorem awake_any (w : World) : Calls Try.prog 15 #[] w (AwakeBack w) := by
  have kc := fun (w : World) (C : Array Value) (n c g : Nat) (hg : g = w.heap.size) => Joins.run_convert_bytes_const_at (P := Try.prog) w 23 5 C n c g hg Try.underlying23 Try.underlying5
  go_enter Try.func15, Try.ntmps15
  go_wp2_with fail
  refine (sum_any _ _ 3 [[49, 50, 51, 52], [], [53, 54, 55, 56, 57]] ?_ (by simp [maxLen]) ?_).mono ?_
  · refine .inr ⟨_, 0, rfl, fun i hi => ?_⟩
    simp at hi
    rcases (by omega : i = 0 ∨ i = 1 ∨ i = 2) with rfl | rfl | rfl
    · exact ⟨some ⟨w.heap.size, 0, none⟩, 4, by simp [go_sem, rw_], by simp [rw_], by simp [maxLen], Rd.of4 (by simp [go_sem, Joins.cell_alloc_mark_at]) (by simp [go_sem, Joins.cell_alloc_mark_at]) (by simp [go_sem, Joins.cell_alloc_mark_at]) (by simp [go_sem, Joins.cell_alloc_mark_at])⟩
    · exact ⟨none, 0, by simp [go_sem, rw_], by simp [rw_], by simp [maxLen], .inl rfl⟩
    · exact ⟨some ⟨w.heap.size + 1, 0, none⟩, 5, by simp [go_sem, rw_], by simp [rw_], by simp [maxLen], Rd.of5 (by simp [go_sem, Joins.cell_alloc_mark_at]) (by simp [go_sem, Joins.cell_alloc_mark_at]) (by simp [go_sem, Joins.cell_alloc_mark_at]) (by simp [go_sem, Joins.cell_alloc_mark_at]) (by simp [go_sem, Joins.cell_alloc_mark_at])⟩
  · intro l hl
    simp at hl
    rcases hl with rfl | rfl | rfl <;> simp [IsB]
  rintro e w1 ⟨rfl, hb1⟩
  simp only [List.flatten_cons, List.flatten_nil, List.append_nil, List.nil_append, List.cons_append, awake_sum]
  have hB1 : Below w.heap.size w w1 := (((((Below.refl _ _).alloc (Nat.le_refl _) _).alloc (by simp) _).alloc (by simp; omega) _)).trans (hb1.mono (by simp; omega))
  clear hb1
  have hS1 := hB1.size
  go_wp2_with fail
  refine (sum_any _ _ 0 [] (.inl rfl) (by simp [maxLen]) (by simp)).mono ?_
  rintro e w2 ⟨rfl, hb2⟩
  simp only [List.flatten_nil, awake_sum0]
  have hB2 : Below w.heap.size w w2 := hB1.trans (hb2.mono hS1)
  have hS2 := hB2.size
  clear hb2
  go_wp2_with fail
  refine (next_any _ _ 1 1 [1] 0 rfl (by decide) (Rd.of1 (by simp [go_sem])) (by simp [IsB])).mono ?_
  rintro e w3 ⟨rfl, rfl⟩
  simp only [awake_next]
  go_wp2_with fail
  refine (seal_any _ _ 0 0 [] rfl (Nat.le_refl _) (by simp [maxLen]) (by decide) (.inl rfl) (by simp [IsB])).mono ?_
  rintro e w4 ⟨A, n, c, rfl, hown, hb4⟩
  simp only [awake_sum0] at hown
  have hB4 : Below w.heap.size w w4 := (hB2.alloc hS2 _).trans (hb4.mono (by simp; omega))
  have hS4 := hB4.size
  clear hb4
  have hn := hown.len
  obtain rfl : 4 = n := hn
  have HO := Lib.hid hown; clear hown
  go_wp2_with fail
  refine (same2_any _ _ _ 4 c 4 4 [0, 0, 0, 0] [0, 0, 0, 0] rfl rfl (HO.out.alloc _).rd (Rd.of4 (by simp [go_sem]) (by simp [go_sem]) (by simp [go_sem]) (by simp [go_sem])) (by simp [IsB]) (by simp [IsB])).mono ?_
  rintro e w5 ⟨rfl, rfl⟩
  simp only [beqL_self]
  go_wp2_with fail
  refine (sealed_any _ _ 1 5 [1, 0, 0, 0, 0] rfl (by decide) (by simp [maxLen]) (Rd.of5 (by simp [go_sem]) (by simp [go_sem]) (by simp [go_sem]) (by simp [go_sem]) (by simp [go_sem])) (by simp [IsB])).mono ?_
  rintro e w6 ⟨rfl, hb6⟩
  have hB6 : Below w.heap.size w w6 := ((hB4.alloc hS4 _).alloc (by simp; omega) _).trans (hb6.mono (by simp; omega))
  clear hb6
  simp only [show List.take 1 [(1 : Int), 0, 0, 0, 0] = [1] from rfl, show bt [1, 0, 0, 0, 0] 1 = 0 from rfl, show bt [1, 0, 0, 0, 0] (1 + 1) = 0 from rfl, show bt [1, 0, 0, 0, 0] (1 + 2) = 0 from rfl, show bt [1, 0, 0, 0, 0] (1 + 3) = 0 from rfl, awake_s1]
  go_wp2
  go_ret
  exact ⟨rfl, hB6⟩
end Go.Proofs.Ytpcbgnedcbcapaa
