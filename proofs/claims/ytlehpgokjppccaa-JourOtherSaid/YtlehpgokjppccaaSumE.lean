/- Walks: tomeref02.Seal, sum.foot, sum.Seal. -/
import Derived.Test.YtlehpgokjppccaaSumD
import Derived.Deep.RegionHeld3
import Derived.Deep.RegionLaw
namespace Go.Proofs.Ytlehpgokjppccaa
open Go.RowKit
set_option maxRecDepth 100000

def SealRel (w : World) (l : List Int) (s0 : Int) (s out k : Value) (wr : World) : Prop :=
  ∃ (j : Nat) (A : Option Addr) (n c : Nat), j ≤ 4 ∧ k = .int .i64 j ∧ s = .int .u32 (s0 / 256 ^ j) ∧ out = .slice A n c ∧ n = l.length + j ∧ OwnB wr w.heap.size A n c (l ++ le s0 j) ∧ Below w.heap.size w wr

def FootBack (w : World) (s : Int) (e : Ending) (w' : World) : Prop := e = .returned (.agg #[.int .u8 (s % 256), .int .u8 (s / 256 % 256), .int .u8 (s / 65536 % 256), .int .u8 (s / 16777216)]) ∧ Below w.heap.size w w'

set_option maxHeartbeats 1000000 in
theorem foot_any (w : World) (A : Option Addr) (n c : Nat) (l : List Int) (hn : l.length = n) (hnc : n ≤ c) (hm : c ≤ maxLen) (hA : Rd w A l) (il : IsB l) :
    Calls Try.prog 59 #[.slice A n c] w (FootBack w (sumI l)) := by
  have hr : RdRows ((w.alloc (.cells #[.int .u8 0, .int .u8 0, .int .u8 0, .int .u8 0] 100)).alloc (.cells #[.slice A n c] 24)) (some ⟨w.heap.size + 1, 0, none⟩) [l] := by
    refine .inr ⟨_, 0, rfl, fun i hi => ?_⟩
    obtain rfl : i = 0 := by simpa using hi
    exact ⟨A, c, by simp [go_sem, rw_, hn], by simpa [rw_, hn] using hnc, hm, by simpa [rw_] using hA.keep (((Below.refl _ _).alloc (Nat.le_refl _) _).alloc (by simp) _)⟩
  have HC := Lib.hid (sum_any _ _ 1 [l] hr (by simp [maxLen]) (by simpa using il))
  simp only [List.flatten_cons, List.flatten_nil, List.append_nil, List.length_cons, List.length_nil, Nat.zero_add] at HC
  clear hr hA
  have hb := sumI_bd l
  obtain ⟨s, hs⟩ : ∃ x, x = sumI l := ⟨_, rfl⟩
  rw [← hs] at HC hb ⊢
  clear hs hn il
  obtain ⟨hb0, hb1⟩ := hb
  go_enter Try.func59, Try.ntmps59
  go_wp2_with (go_at_call 63; refine HC.out.mono ?_; rintro e w' ⟨rfl, hb⟩; have hc : ∀ o, o < 4 → w'.cell? ⟨w.heap.size, o, none⟩ = some (.int .u8 0) := fun o ho => (hb.cell (p := ⟨w.heap.size, o, none⟩) (by simp; omega)).trans (by rcases (by omega : o = 0 ∨ o = 1 ∨ o = 2 ∨ o = 3) with rfl | rfl | rfl | rfl <;> simp [go_sem]); have hf : ∀ o, w'.frozen? ⟨w.heap.size, o, none⟩ = false := fun o => (hb.frozen (p := ⟨w.heap.size, o, none⟩) (by simp; omega)).trans (by simp [go_sem]); clear HC)
  refine bodyPost_ret (v := .agg #[.int .u8 (s % 256), .int .u8 (s / 256 % 256), .int .u8 (s / 65536 % 256), .int .u8 (s / 16777216)]) (by simp [results, Try.results59, go_sem, hc]) rfl ⟨rfl, ?_⟩
  have h1 : Below w.heap.size w w' := ((((Below.refl _ _).alloc (Nat.le_refl _) _).alloc (by simp) _).trans (hb.mono (by simp; omega)))
  exact (((h1.setCell (Nat.le_refl _) _).setCell (Nat.le_refl _) _).setCell (Nat.le_refl _) _).setCell (Nat.le_refl _) _
end Go.Proofs.Ytlehpgokjppccaa
