/- Plain functions that the walks of sum and of its reference compute. No program in sight. -/
import Derived.Test.YtlehpgokjppccaaCrc
namespace Go.Proofs.Ytlehpgokjppccaa
open Go.RowKit

/-- One step of the chain, as the walk computes it. -/
def nxI (h x : Int) : Int := IntKind.u64.wrap (bits .xor .u64 h x * 1099511628211)
def nextI (h : Int) (l : List Int) : Int := l.foldl nxI h
theorem nextI_snoc (c : Int) (l : List Int) (x : Int) : nextI c (l ++ [x]) = nxI (nextI c l) x := by simp [nextI, List.foldl_append]

/-- One bit of the reference's sum. -/
def rbI (s : Int) : Int := if s % 2 = 1 then bits .xor .u32 (s / 2) 2197175160 else s / 2
def rbN : Nat → Int → Int
  | 0, s => s
  | k + 1, s => rbI (rbN k s)
theorem rbI_bd (s : Int) (h : 0 ≤ s ∧ s ≤ 4294967295) : 0 ≤ rbI s ∧ rbI s ≤ 4294967295 := by
  unfold rbI
  split
  · exact bits_u32_bd _ _ _
  · omega
theorem rbN_bd (k : Nat) (s : Int) (h : 0 ≤ s ∧ s ≤ 4294967295) : 0 ≤ rbN k s ∧ rbN k s ≤ 4294967295 := by
  induction k with
  | zero => exact h
  | succ k ih => exact rbI_bd _ ih
def rstI (s x : Int) : Int := rbN 8 (bits .xor .u32 s x)
def rcrI (s : Int) (l : List Int) : Int := l.foldl rstI s
theorem rcrI_snoc (c : Int) (l : List Int) (x : Int) : rcrI c (l ++ [x]) = rstI (rcrI c l) x := by simp [rcrI, List.foldl_append]
theorem rstI_bd (s x : Int) : 0 ≤ rstI s x ∧ rstI s x ≤ 4294967295 := rbN_bd _ _ (bits_u32_bd _ _ _)
theorem rcrI_bd (c : Int) (l : List Int) (h0 : 0 ≤ c ∧ c ≤ 4294967295) : 0 ≤ rcrI c l ∧ rcrI c l ≤ 4294967295 := by
  induction l generalizing c with
  | nil => exact h0
  | cons x l ih => exact ih _ (rstI_bd c x)

def okL (L : List (List Int)) : Bool := decide (L.length ≤ 40) && L.all fun l => decide (l.length ≤ 4000)
theorem okL_yes {L : List (List Int)} (h : L.length ≤ 40) (hr : ∀ j, j < L.length → (rw_ L j).length ≤ 4000) : okL L = true := by
  simp only [okL, Bool.and_eq_true, decide_eq_true_eq, List.all_eq_true]
  refine ⟨h, fun l hl => ?_⟩
  obtain ⟨j, hj, rfl⟩ := List.getElem_of_mem hl
  have := hr j hj
  rwa [rw_lt hj] at this
theorem okL_no {L : List (List Int)} (j : Nat) (hj : j < L.length) (h : 4000 < (rw_ L j).length) : okL L = false := by
  rw [rw_lt hj] at h
  simp only [okL, Bool.and_eq_false_iff, decide_eq_false_iff_not, List.all_eq_false]
  exact .inr ⟨_, List.getElem_mem hj, by simpa using h⟩

/-- One byte turned (where there is one). -/
def turn1 (l : List Int) (i : Nat) (by_ : Int) : List Int := if i < l.length then l.set i (bits .xor .u8 (bt l i) (by_ % 256)) else l
/-- The first k of four bytes turned. -/
def turnN (at_ : Nat) (l : List Int) (by_ : Int) : Nat → List Int × Int
  | 0 => (l, by_)
  | k + 1 => (turn1 (turnN at_ l by_ k).1 (at_ + k) (turnN at_ l by_ k).2, (turnN at_ l by_ k).2 / 256)
theorem turn1_length (l : List Int) (i : Nat) (b : Int) : (turn1 l i b).length = l.length := by unfold turn1; split <;> simp
theorem turnN_length (at_ : Nat) (l : List Int) (b : Int) (k : Nat) : (turnN at_ l b k).1.length = l.length := by
  induction k with
  | zero => rfl
  | succ k ih => rw [turnN, turn1_length, ih]
theorem turnN_bd (at_ : Nat) (l : List Int) (b : Int) (h0 : 0 ≤ b) (h1 : b ≤ 4294967295) (k : Nat) : 0 ≤ (turnN at_ l b k).2 ∧ (turnN at_ l b k).2 ≤ 4294967295 := by
  induction k with
  | zero => exact ⟨h0, h1⟩
  | succ k ih => rw [turnN]; omega
theorem bits_u8_bd (op : BinOp) (a b : Int) : 0 ≤ bits op .u8 a b ∧ bits op .u8 a b ≤ 255 := by
  unfold bits
  cases op <;> simp only [IntKind.wrap_u8] <;> omega
theorem turn1_isB {l : List Int} (h : IsB l) (i : Nat) (b : Int) : IsB (turn1 l i b) := by
  unfold turn1
  split
  · intro x hx
    rcases List.mem_or_eq_of_mem_set hx with hx | rfl
    · exact h x hx
    · exact bits_u8_bd _ _ _
  · exact h
theorem turnN_isB {l : List Int} (h : IsB l) (at_ : Nat) (b : Int) (k : Nat) : IsB (turnN at_ l b k).1 := by
  induction k with
  | zero => exact h
  | succ k ih => exact turn1_isB ih _ _

/-- The first k of the four bytes of a number, the lowest first. -/
def le (s : Int) : Nat → List Int
  | 0 => []
  | k + 1 => le s k ++ [s / 256 ^ k % 256]
theorem le_length (s : Int) (k : Nat) : (le s k).length = k := by induction k with | zero => rfl | succ k ih => simp [le, ih]

theorem div_bd (s : Int) (j : Nat) (h0 : 0 ≤ s) (h1 : s ≤ 4294967295) : 0 ≤ s / 256 ^ j ∧ s / 256 ^ j ≤ 4294967295 := by
  have hp : (0 : Int) < 256 ^ j := Int.pow_pos (by decide)
  refine ⟨Int.ediv_nonneg h0 (Int.le_of_lt hp), ?_⟩
  have := Int.ediv_le_self (256 ^ j) h0
  omega
theorem div_succ (s : Int) (j : Nat) : s / 256 ^ j / 256 = s / 256 ^ (j + 1) := by
  rw [Int.pow_succ, Int.ediv_ediv_of_nonneg (Int.le_of_lt (Int.pow_pos (by decide)))]


end Go.Proofs.Ytlehpgokjppccaa
