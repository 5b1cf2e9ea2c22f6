/- A file's head: plain; walks: header.size, header.Check, tomeref08.Check. -/
import Derived.Test.YtlehpgokjppccaaMem
import Derived.Test.YtlehpgokjppccaaProg
import Derived.BigQuiet
import Derived.Deep.QuietTactic
namespace Go.Proofs.Ytlehpgokjppccaa
open Go.RowKit
set_option maxRecDepth 100000

/-- A head. -/
structure Hd where
  (s p f m c v : Int)
def Hd.val (h : Hd) : Value := .agg #[.int .i64 h.s, .int .i64 h.p, .int .i64 h.f, .int .i64 h.m, .int .i64 h.c, .int .i64 h.v]
def i64ok (n : Int) : Prop := -9223372036854775808 ≤ n ∧ n ≤ 9223372036854775807
def Hd.ok (h : Hd) : Prop := i64ok h.s ∧ i64ok h.p ∧ i64ok h.f ∧ i64ok h.m ∧ i64ok h.c ∧ i64ok h.v
def isSize (n : Int) : Prop := n = 256 ∨ n = 512 ∨ n = 1024 ∨ n = 2048 ∨ n = 4096
instance (n : Int) : Decidable (isSize n) := by unfold isSize; infer_instance
/-- A head that may be. -/
def Hd.good (h : Hd) : Prop := isSize h.s ∧ (1 ≤ h.p ∧ h.p ≤ 1048576 ∧ h.s * h.p ≤ 16777216) ∧ (0 ≤ h.m ∧ h.m < h.p ∧ (h.m = 0 → h.f = 0) ∧ (0 < h.m → 2 ≤ h.f ∧ h.f ≤ h.p)) ∧ (0 ≤ h.c ∧ h.c ≤ 2147483647 ∧ 0 ≤ h.v ∧ h.v ≤ 2147483647)
instance (h : Hd) : Decidable h.good := by unfold Hd.good; infer_instance
def checkI (h : Hd) : Int := if h.good then 0 else 1

theorem size_all : ((List.range 3841).all fun i => (bits .and .i64 ((i + 256 : Nat) : Int) ((i + 255 : Nat) : Int) == 0) == decide (isSize ((i + 256 : Nat) : Int))) = true := by decide +kernel
theorem size_bits {n : Int} (h0 : 256 ≤ n) (h1 : n ≤ 4096) : (bits .and .i64 n (n - 1) == 0) = decide (isSize n) := by
  have h := List.all_eq_true.1 size_all (n.toNat - 256) (by simp; omega)
  have e1 : ((n.toNat - 256 + 256 : Nat) : Int) = n := by omega
  have e2 : ((n.toNat - 256 + 255 : Nat) : Int) = n - 1 := by omega
  rw [e1, e2] at h
  simpa using h

theorem hsize_any (w : World) (n : Int) (_hn : i64ok n) : Calls Try.prog 42 #[.int .i64 n] w fun e w' => e = .returned (.bool (decide (isSize n))) ∧ w = w' := by
  by_cases h0 : 256 ≤ n
  · by_cases h1 : n ≤ 4096
    · have hb := size_bits h0 h1
      have hw : IntKind.i64.wrap (n - 1) = n - 1 := IntWalk.i64_in _ (by omega)
      go_enter Try.func42, Try.ntmps42
      go_wp2
      go_ret
      exact ⟨rfl, rfl⟩
    · have hs : decide (isSize n) = false := decide_eq_false (by unfold isSize; omega)
      rw [hs]
      go_enter Try.func42, Try.ntmps42
      go_wp2
      go_ret
      exact ⟨rfl, rfl⟩
  · have hs : decide (isSize n) = false := decide_eq_false (by unfold isSize; omega)
    rw [hs]
    go_enter Try.func42, Try.ntmps42
    go_wp2
    go_ret
    exact ⟨rfl, rfl⟩

def CheckBack (w : World) (h : Hd) (e : Ending) (w' : World) : Prop := e = .returned (.int .i64 (checkI h)) ∧ Below w.heap.size w w'

theorem check_no {h : Hd} (hg : ¬ h.good) : checkI h = 1 := if_neg hg
theorem check_yes {h : Hd} (hg : h.good) : checkI h = 0 := if_pos hg

set_option maxHeartbeats 4000000 in
theorem check_any0 (w : World) (h : Hd) (hok : h.ok) (R : Int) (hR : R = checkI h) : Calls Try.prog 15 #[h.val] w fun e w' => e = .returned (.int .i64 R) ∧ Below w.heap.size w w' := by
  have HR := Lib.hid hR; clear hR
  obtain ⟨s, p, f, m, c, v⟩ := h
  obtain ⟨o1, o2, o3, o4, o5, o6⟩ := hok
  unfold i64ok at o1 o2 o3 o4 o5 o6
  simp only at o1 o2 o3 o4 o5 o6
  unfold Hd.val
  go_enter Try.func15, Try.ntmps15
  go_wp2_with fail
  refine (hsize_any _ s o1).mono ?_
  rintro e w1 ⟨rfl, rfl⟩
  by_cases hs : isSize s
  · simp only [decide_eq_true hs]
    have hsb : 256 ≤ s ∧ s ≤ 4096 := by unfold isSize at hs; omega
    by_cases hp1 : 1 ≤ p
    · by_cases hp2 : p ≤ 1048576
      · have h1 : s * 1 ≤ s * p := Int.mul_le_mul_of_nonneg_left hp1 (by omega)
        have h2 : s * p ≤ 4096 * p := Int.mul_le_mul_of_nonneg_right hsb.2 (by omega)
        have hmul : IntKind.i64.wrap (s * p) = s * p := IntWalk.i64_in _ (by omega)
        go_wp2
        all_goals go_ret
        all_goals refine ⟨?_, (Below.refl _ _).alloc (Nat.le_refl _) _⟩
        all_goals rw [HR.out]
        all_goals first
          | (rw [check_yes ⟨hs, ⟨by simp only; omega, by simp only; omega, by simp only; omega⟩, ⟨by simp only; omega, by simp only; omega, by simp only; omega, by simp only; omega⟩, ⟨by simp only; omega, by simp only; omega, by simp only; omega, by simp only; omega⟩⟩]; rfl)
          | (rw [check_no (by rintro ⟨_, a1, a2, a3⟩; simp only at a1 a2 a3; omega)]; rfl)
      · go_wp2
        go_ret
        exact ⟨by rw [HR.out, check_no (by rintro ⟨_, a1, a2, a3⟩; simp only at a1 a2 a3; omega)]; rfl, (Below.refl _ _).alloc (Nat.le_refl _) _⟩
    · go_wp2
      go_ret
      exact ⟨by rw [HR.out, check_no (by rintro ⟨_, a1, a2, a3⟩; simp only at a1 a2 a3; omega)]; rfl, (Below.refl _ _).alloc (Nat.le_refl _) _⟩
  · simp only [decide_eq_false hs]
    go_wp2
    go_ret
    exact ⟨by rw [HR.out, check_no (fun hg => hs hg.1)]; rfl, (Below.refl _ _).alloc (Nat.le_refl _) _⟩
theorem check_any (w : World) (h : Hd) (hok : h.ok) : Calls Try.prog 15 #[h.val] w (CheckBack w h) := check_any0 w h hok _ rfl
end Go.Proofs.Ytlehpgokjppccaa
