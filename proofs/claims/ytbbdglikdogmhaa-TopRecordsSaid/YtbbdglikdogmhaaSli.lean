/- A part of a row of bytes, behind one name. -/
import Derived.Test.YtbbdglikdogmhaaMem
namespace Go.Proofs.Ytbbdglikdogmhaa
open Go.RowKit
set_option maxRecDepth 100000

/-- Where 'b[lo:..]' lies. -/
def cutA (A : Option Addr) (c lo : Nat) : Option Addr := if c = lo then A else A.map (·.add lo)
theorem cutA_block {A : Option Addr} {c lo : Nat} {a : Addr} (h : cutA A c lo = some a) : ∃ b, A = some b ∧ b.block = a.block := by
  unfold cutA at h
  split at h
  · exact ⟨a, h, rfl⟩
  · cases A with
    | none => simp at h
    | some b => simp at h; subst h; exact ⟨b, rfl, by unfold Addr.add; split <;> rfl⟩
theorem rd_off' {w : World} {g off : Nat} {l : List Int} (h : Rd w (some ⟨g, off, none⟩) l) (k : Nat) : Rd w (some ⟨g, off + k, none⟩) (l.drop k) := by
  rcases h with rfl | ⟨b, o, hA, hc⟩
  · exact .inl (by simp)
  · injection hA with hA
    injection hA with e1 e2
    subst e1 e2
    refine .inr ⟨_, _, rfl, fun i hi => ?_⟩
    simp at hi
    have := hc (k + i) (by omega)
    rw [← Nat.add_assoc] at this
    rw [this]
    simp [bt]
theorem rd_take' {w : World} {A : Option Addr} {l : List Int} (h : Rd w A l) (n : Nat) : Rd w A (l.take n) := by
  rcases h with rfl | ⟨b, off, rfl, hc⟩
  · exact .inl (by simp)
  · refine .inr ⟨b, off, rfl, fun i hi => ?_⟩
    have hi' : i < n ∧ i < l.length := by simpa [Nat.lt_min] using hi
    rw [hc i hi'.2]
    simp [bt, hi'.1]
theorem cutA_rd {w : World} {A : Option Addr} {l : List Int} (hA : Rd w A l) (c lo m : Nat) (hc : l.length ≤ c) : Rd w (cutA A c lo) ((l.drop lo).take m) := by
  unfold cutA
  split
  · rename_i h
    rw [List.drop_of_length_le (by omega)]
    exact .inl (by simp)
  · rcases hA with rfl | ⟨b, off, rfl, hcell⟩
    · exact .inl (by simp)
    · have : Rd w (some ⟨b, off, none⟩) l := .inr ⟨b, off, rfl, hcell⟩
      have e : (Option.map (fun x : Addr => x.add lo) (some ⟨b, off, none⟩)) = some ⟨b, off + lo, none⟩ := by simp [Addr.add]
      rw [e]
      exact rd_take' (rd_off' this lo) m
theorem run_cut (A : Option Addr) (n c lo m : Nat) (h : lo + m ≤ c) (w : World) :
    (Instr.slice 25 (.slice A n c) (some (.int .i64 (lo : Int))) (some (.int .i64 ((lo : Int) + (m : Int)))) none).run Try.prog w = .ok (.slice (cutA A c lo) m (c - lo)) w := by
  rw [run_slice_lh w 25 A n c Try.underlying25 .i64 .i64 (lo : Int) ((lo : Int) + (m : Int)) (by omega) (by omega) (by omega)]
  have e : (sizeOf (Try.prog.elem 25)).run Try.prog w = .ok 1 w := by kernel_rfl
  have e2 : ((lo : Int) + (m : Int)).toNat = lo + m := by omega
  rw [e]
  simp only [Result.andThen, sliced, Int.toNat_natCast, e2, cutA, Nat.mul_one]
  rw [show lo + m - lo = m by omega]
/-- 'b[lo:]'. -/
theorem run_cut_from (A : Option Addr) (n c lo : Nat) (h : lo ≤ n) (w : World) :
    (Instr.slice 25 (.slice A n c) (some (.int .i64 (lo : Int))) none none).run Try.prog w = .ok (.slice (cutA A c lo) (n - lo) (c - lo)) w := by
  rw [run_slice_l w 25 A n c Try.underlying25 .i64 (lo : Int) (by omega) (by omega)]
  have e : (sizeOf (Try.prog.elem 25)).run Try.prog w = .ok 1 w := by kernel_rfl
  rw [e]
  simp only [Result.andThen, sliced, Int.toNat_natCast, cutA, Nat.mul_one]
end Go.Proofs.Ytbbdglikdogmhaa
