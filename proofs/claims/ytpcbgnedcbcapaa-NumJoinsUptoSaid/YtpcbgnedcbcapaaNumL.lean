/- Walk: tomelaw01.live. -/
import Derived.Test.YtpcbgnedcbcapaaNumG
import Derived.Test.YtpcbgnedcbcapaaNumE
import Derived.Test.YtpcbgnedcbcapaaJoin
import Derived.Test.YtpcbgnedcbcapaaSumG
namespace Go.Proofs.Ytpcbgnedcbcapaa
open Go.RowKit

theorem FreshBack.rd {w : World} {l : List Int} {e : Ending} {w' : World} (h : FreshBack w l e w') : ∃ g n, e = .returned (.slice (some ⟨g, 0, none⟩) n n) ∧ l.length = n ∧ n ≤ maxLen ∧ Rd w' (some ⟨g, 0, none⟩) l ∧ Below w.heap.size w w' := by
  obtain ⟨g, n, rfl, h1, h2, h3, h4, h5, h6, h7⟩ := h
  exact ⟨g, n, rfl, h1.symm, h4, .inr ⟨g, 0, rfl, fun i hi => by simpa using h5 i (by omega)⟩, h7⟩

theorem live_r0 : readL [1, 2] 0 2 = (258, 0) := by decide +kernel
theorem live_r1 : readL [1, 2] 1 2 = (0, 6) := by decide +kernel
theorem live_u0 : unvL [7, 128, 1] 1 = (64, 3, 0) := by decide +kernel
theorem live_u1 : unvL [128, 0] 0 = (0, 0, 8) := by decide +kernel
theorem live_u2 : unvL [255, 255, 255, 255, 255, 255, 255, 255, 255, 2] 0 = (0, 0, 9) := by decide +kernel
theorem live_f : fixedL 258 2 = [1, 2] := by decide +kernel
theorem live_v : varL (-1) = [1] := by rw [varL, show zig (-1) = 1 from rfl, vl_small (by decide)]; rfl

theorem Rd.of2 {w : World} {b : Nat} {x0 x1 : Int} (h0 : w.cell? ⟨b, 0, none⟩ = some (.int .u8 x0)) (h1 : w.cell? ⟨b, 1, none⟩ = some (.int .u8 x1)) : Rd w (some ⟨b, 0, none⟩) [x0, x1] := by
  refine .inr ⟨b, 0, rfl, fun i hi => ?_⟩
  simp at hi
  rcases (by omega : i = 0 ∨ i = 1) with rfl | rfl <;> simpa [bt]
theorem Rd.of3 {w : World} {b : Nat} {x0 x1 x2 : Int} (h0 : w.cell? ⟨b, 0, none⟩ = some (.int .u8 x0)) (h1 : w.cell? ⟨b, 1, none⟩ = some (.int .u8 x1)) (h2 : w.cell? ⟨b, 2, none⟩ = some (.int .u8 x2)) : Rd w (some ⟨b, 0, none⟩) [x0, x1, x2] := by
  refine .inr ⟨b, 0, rfl, fun i hi => ?_⟩
  simp at hi
  rcases (by omega : i = 0 ∨ i = 1 ∨ i = 2) with rfl | rfl | rfl <;> simpa [bt]

def Lives (w : World) (e : Ending) (w' : World) : Prop := e = .returned (.bool true) ∧ Below w.heap.size w w'

set_option maxRecDepth 100000 in
set_option maxHeartbeats 8000000 in
theorem live_any (w : World) : Calls Try.prog 27 #[] w (Lives w) := by
  go_enter Try.func27, Try.ntmps27
  go_wp2_with fail
  refine (read_any _ _ 2 2 [1, 2] 0 2 rfl (Nat.le_refl _) (by decide) (Rd.of2 (by simp [go_sem]) (by simp [go_sem])) (by simp [IsB]) (by decide)).mono ?_
  rintro e w1 ⟨rfl, rfl⟩
  simp only [live_r0]
  go_wp2_with fail
  refine (read_any _ _ 2 2 [1, 2] 1 2 rfl (Nat.le_refl _) (by decide) (Rd.of2 (by simp [go_sem]) (by simp [go_sem])) (by simp [IsB]) (by decide)).mono ?_
  rintro e w2 ⟨rfl, rfl⟩
  simp only [live_r1]
  go_wp2_with fail
  refine (unv_any _ _ 3 3 [7, 128, 1] 1 rfl (Nat.le_refl _) (by decide) (Rd.of3 (by simp [go_sem]) (by simp [go_sem]) (by simp [go_sem])) (by simp [IsB]) (by decide)).mono ?_
  rintro e w3 ⟨rfl, rfl⟩
  simp only [live_u0]
  go_wp2_with fail
  refine (unv_any _ _ 2 2 [128, 0] 0 rfl (Nat.le_refl _) (by decide) (Rd.of2 (by simp [go_sem]) (by simp [go_sem])) (by simp [IsB]) (by decide)).mono ?_
  rintro e w4 ⟨rfl, rfl⟩
  simp only [live_u1]
  go_wp2_with fail
  refine (unv_any _ _ 10 10 [255, 255, 255, 255, 255, 255, 255, 255, 255, 2] 0 rfl (Nat.le_refl _) (by decide) ?_ (by simp [IsB]) (by decide)).mono ?_
  · refine .inr ⟨_, 0, rfl, fun i hi => ?_⟩
    simp at hi
    rcases (by omega : i = 0 ∨ i = 1 ∨ i = 2 ∨ i = 3 ∨ i = 4 ∨ i = 5 ∨ i = 6 ∨ i = 7 ∨ i = 8 ∨ i = 9) with rfl | rfl | rfl | rfl | rfl | rfl | rfl | rfl | rfl | rfl <;> simp [go_sem, bt]
  rintro e w5 ⟨rfl, rfl⟩
  simp only [live_u2]
  go_wp2_with fail
  refine (fixed_any _ 258 2 (by decide) (by decide)).mono ?_
  rintro e w6 ⟨A, n, c, rfl, hown, hb⟩
  rw [live_f] at hown
  have hn := hown.len
  obtain rfl : 2 = n := hn
  have hB : Below w.heap.size w w6 := by
    refine Below.trans ?_ (hb.mono (by simp; omega))
    repeat' first | exact Below.refl _ _ | refine Below.alloc ?_ (by simp <;> omega) _
  have hS := hB.size
  clear hb
  have HO := Lib.hid hown; clear hown
  go_wp2_with fail
  refine (same1_any _ _ _ 2 c 2 2 [1, 2] [1, 2] rfl rfl (by decide) (HO.out.alloc _).rd (Rd.of2 (by simp [go_sem]) (by simp [go_sem]))).mono ?_
  rintro e w7 ⟨rfl, hb7⟩
  have hB7 : Below w.heap.size w w7 := (hB.alloc hS _).trans (hb7.mono (by simp; omega))
  have hS7 := hB7.size
  clear hb7 HO hB hS
  simp only [beqL_self]
  go_wp2_with fail
  refine (varint_any _ (-1) (by decide)).mono ?_
  rintro e w8 ⟨A1, n1, c1, rfl, hown, hb⟩
  rw [live_v] at hown
  have hn := hown.len
  obtain rfl : 1 = n1 := hn
  have hB8 : Below w.heap.size w w8 := hB7.trans (hb.mono hS7)
  have hS8 := hB8.size
  clear hb
  have HO := Lib.hid hown; clear hown
  go_wp2_with fail
  refine (same1_any _ _ _ 1 c1 1 1 [1] [1] rfl rfl (by decide) (HO.out.alloc _).rd (Rd.of1 (by simp [go_sem]))).mono ?_
  rintro e w9 ⟨rfl, hb9⟩
  have hB9 : Below w.heap.size w w9 := (hB8.alloc hS8 _).trans (hb9.mono (by simp; omega))
  have hS9 := hB9.size
  clear hb9 HO
  simp only [beqL_self]
  go_wp2_with fail
  refine (join_any _ _ 3 3 [[1], [], [2]] rfl (by decide) (Nat.le_refl _) (by decide) ?_ (by decide)).mono ?_
  · refine .inr ⟨_, 0, rfl, fun i hi => ?_⟩
    simp at hi
    rcases (by omega : i = 0 ∨ i = 1 ∨ i = 2) with rfl | rfl | rfl
    · exact ⟨some ⟨w9.heap.size, 0, none⟩, 1, by simp [go_sem, rw_], by simp [rw_], by simp [maxLen], Rd.of1 (by simp [go_sem])⟩
    · exact ⟨none, 0, by simp [go_sem, rw_], by simp [rw_], by simp [maxLen], .inl rfl⟩
    · exact ⟨some ⟨w9.heap.size + 1, 0, none⟩, 1, by simp [go_sem, rw_], by simp [rw_], by simp [maxLen], Rd.of1 (by simp [go_sem])⟩
  rintro e w10 hf
  obtain ⟨g, n2, rfl, hn, _, hrd, hb⟩ := hf.rd
  clear hf
  obtain rfl : 2 = n2 := hn
  have hB10 : Below w.heap.size w w10 := (((hB9.alloc hS9 _).alloc (by simp; omega) _).alloc (by simp; omega) _).trans (hb.mono (by simp; omega))
  have hS10 := hB10.size
  clear hb
  have HR := Lib.hid hrd; clear hrd
  go_wp2_with fail
  refine (same1_any _ _ _ 2 2 2 2 [1, 2] [1, 2] rfl rfl (by decide) (HR.out.keep ((Below.refl _ _).alloc (Nat.le_refl _) _)) (Rd.of2 (by simp [go_sem]) (by simp [go_sem]))).mono ?_
  rintro e w11 ⟨rfl, hb11⟩
  have hB11 : Below w.heap.size w w11 := (hB10.alloc hS10 _).trans (hb11.mono (by simp; omega))
  clear hb11
  simp only [beqL_self]
  go_wp2
  go_ret
  exact ⟨rfl, hB11⟩
end Go.Proofs.Ytpcbgnedcbcapaa
