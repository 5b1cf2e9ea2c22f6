/- Plain functions of layer 1: fixed numbers, varints. No program in sight. -/
import Derived.Test.YtbbdglikdogmhaaBase
namespace Go.Proofs.Ytbbdglikdogmhaa
open Go.RowKit

/-- The k lowest bytes of a number, the highest one first. -/
def fxL (n : Int) : Nat → List Int
  | 0 => []
  | k + 1 => (n / 256 ^ k % 256) :: fxL n k
theorem fxL_length (n : Int) (k : Nat) : (fxL n k).length = k := by induction k with | zero => rfl | succ k ih => simp [fxL, ih]
theorem fxL_isB (n : Int) (k : Nat) : IsB (fxL n k) := by
  induction k with
  | zero => simp [fxL, IsB]
  | succ k ih =>
    intro x hx
    simp only [fxL, List.mem_cons] at hx
    rcases hx with rfl | hx
    · omega
    · exact ih x hx
/-- What Fixed gives. -/
def fixedL (n size : Int) : List Int := if size < 1 ∨ 8 < size then [] else fxL n size.toNat

/-- The number of bytes, the highest one first. -/
def beI (l : List Int) : Int := l.foldl (fun a x => a * 256 + x) 0
theorem beI_snoc (l : List Int) (x : Int) : beI (l ++ [x]) = beI l * 256 + x := by simp [beI, List.foldl_append]
theorem beI_from {l : List Int} (h : IsB l) (a : Int) (ha : 0 ≤ a) (A : Nat) (hA : a < 256 ^ A) : 0 ≤ l.foldl (fun a x => a * 256 + x) a ∧ l.foldl (fun a x => a * 256 + x) a < 256 ^ (A + l.length) := by
  induction l generalizing a A with
  | nil => exact ⟨ha, hA⟩
  | cons x l ih =>
    have hx := h x (List.mem_cons_self ..)
    have := ih (fun y hy => h y (List.mem_cons_of_mem _ hy)) (a * 256 + x) (by omega) (A + 1) (by rw [Int.pow_succ]; omega)
    rw [List.length_cons, ← Nat.add_assoc, Nat.add_right_comm]
    exact this
theorem beI_bd {l : List Int} (h : IsB l) : 0 ≤ beI l ∧ beI l < 256 ^ l.length := by
  have := beI_from h 0 (Int.le_refl _) 0 (by decide)
  simpa [beI] using this
theorem pow256_le {j k : Nat} (h : j ≤ k) : (256 : Int) ^ j ≤ 256 ^ k := by
  have h2 : ((256 ^ j : Nat) : Int) ≤ ((256 ^ k : Nat) : Int) := Int.ofNat_le.2 (Nat.pow_le_pow_right (by decide) h)
  simpa only [Int.natCast_pow, Int.cast_ofNat_Int] using h2
theorem beI_lt {l : List Int} (h : IsB l) (k : Nat) (hk : l.length ≤ k) : 0 ≤ beI l ∧ beI l < 256 ^ k := by
  have := beI_bd h
  have h2 := pow256_le hk
  omega

/-- The groups of a number, the lowest first. -/
def vl (z : Nat) : List Int := if h : z < 128 then [(z : Int)] else ((z % 128 : Nat) + 128 : Int) :: vl (z / 128)
termination_by z
decreasing_by omega
theorem vl_small {z : Nat} (h : z < 128) : vl z = [(z : Int)] := by rw [vl, dif_pos h]
theorem vl_big {z : Nat} (h : ¬ z < 128) : vl z = ((z % 128 : Nat) + 128 : Int) :: vl (z / 128) := by rw [vl, dif_neg h]
theorem vl_isB (z : Nat) : IsB (vl z) := by
  induction z using Nat.strongRecOn with
  | _ z ih =>
    by_cases h : z < 128
    · rw [vl_small h]; intro x hx; simp at hx; omega
    · rw [vl_big h]
      intro x hx
      rcases List.mem_cons.1 hx with rfl | hx
      · omega
      · exact ih (z / 128) (by omega) x hx
theorem vl_pos (z : Nat) : 0 < (vl z).length := by
  by_cases h : z < 128
  · rw [vl_small h]; simp
  · rw [vl_big h]; simp
theorem vl_len (k : Nat) : ∀ z, z < 128 ^ (k + 1) → (vl z).length ≤ k + 1 := by
  induction k with
  | zero => intro z h; rw [vl_small (by simpa using h)]; simp
  | succ k ih =>
    intro z h
    by_cases h1 : z < 128
    · rw [vl_small h1]; simp
    · rw [vl_big h1]
      have := ih (z / 128) (by rw [Nat.pow_succ] at h; omega)
      simp; omega
theorem vl_len10 {z : Nat} (h : z < 18446744073709551616) : (vl z).length ≤ 10 := vl_len 9 z (Nat.lt_of_lt_of_le h (by decide))
/-- A number's sign, put into its lowest bit. -/
def zig (n : Int) : Nat := if n < 0 then (-2 * n - 1).toNat else (2 * n).toNat
theorem zig_lt {n : Int} (h : -9223372036854775808 ≤ n ∧ n ≤ 9223372036854775807) : zig n < 18446744073709551616 := by unfold zig; split <;> omega
/-- What Varint gives. -/
def varL (n : Int) : List Int := vl (zig n)
theorem varL_len {n : Int} (h : -9223372036854775808 ≤ n ∧ n ≤ 9223372036854775807) : (varL n).length ≤ 10 := vl_len10 (zig_lt h)
end Go.Proofs.Ytbbdglikdogmhaa
