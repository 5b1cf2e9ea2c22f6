/- Plain words used by all walks of this seat: a byte of a list, a slice of bytes that reads as a list, rows of bytes. No program in sight. -/
import Derived.WalkKit
import Derived.WalkSpells
import Derived.Handy
import Derived.Lib.Hide
namespace Go.Proofs.Ytbbdglikdogmhaa
open Go.RowKit

/-- The byte at a place (0 behind the end). -/
def bt (l : List Int) (i : Nat) : Int := l.getD i 0
/-- The row at a place. -/
def rw_ (l : List (List Int)) (i : Nat) : List Int := l.getD i []

theorem bt_lt {l : List Int} {i : Nat} (h : i < l.length) : bt l i = l[i] := by simp [bt, h]
theorem bt_ge {l : List Int} {i : Nat} (h : l.length ≤ i) : bt l i = 0 := by simp [bt, List.getElem?_eq_none h]
theorem rw_lt {l : List (List Int)} {i : Nat} (h : i < l.length) : rw_ l i = l[i] := by simp [rw_, h]

/-- All are bytes. -/
def IsB (l : List Int) : Prop := ∀ x ∈ l, 0 ≤ x ∧ x ≤ 255
theorem IsB.bt {l : List Int} (h : IsB l) (i : Nat) : 0 ≤ bt l i ∧ bt l i ≤ 255 := by
  by_cases hi : i < l.length
  · rw [bt_lt hi]; exact h _ (List.getElem_mem hi)
  · rw [bt_ge (by omega)]; omega

/-- A slice's address reads as these bytes. -/
def Rd (w : World) (A : Option Addr) (l : List Int) : Prop :=
  l = [] ∨ ∃ b off, A = some ⟨b, off, none⟩ ∧ ∀ i, i < l.length → w.cell? ⟨b, off + i, none⟩ = some (.int .u8 (bt l i))

theorem Rd.at {w : World} {A : Option Addr} {l : List Int} (h : Rd w A l) (hl : 0 < l.length) :
    ∃ b off, A = some ⟨b, off, none⟩ ∧ b < w.heap.size ∧ ∀ i, i < l.length → w.cell? ⟨b, off + i, none⟩ = some (.int .u8 (bt l i)) := by
  rcases h with rfl | ⟨b, off, rfl, hc⟩
  · simp at hl
  · exact ⟨b, off, rfl, World.block_lt_of_cell? w _ (hc 0 hl), hc⟩

theorem Rd.below {w w' : World} {A : Option Addr} {l : List Int} {B : Nat} (h : Rd w A l) (hb : Below B w w') (hB : ∀ a, A = some a → a.block < B) : Rd w' A l := by
  rcases h with rfl | ⟨b, off, rfl, hc⟩
  · exact .inl rfl
  · exact .inr ⟨b, off, rfl, fun i hi => (hb.cell (p := ⟨b, off + i, none⟩) (show b < B from hB ⟨b, off, none⟩ rfl)).trans (hc i hi)⟩

theorem Rd.keep {w w' : World} {A : Option Addr} {l : List Int} (h : Rd w A l) (hb : Below w.heap.size w w') : Rd w' A l := by
  rcases h with rfl | ⟨b, off, rfl, hc⟩
  · exact .inl rfl
  · exact .inr ⟨b, off, rfl, fun i hi => (hb.cell (p := ⟨b, off + i, none⟩) (World.block_lt_of_cell? w _ (hc i hi))).trans (hc i hi)⟩

/-- Rows of bytes. -/
def RdRows (w : World) (A : Option Addr) (L : List (List Int)) : Prop :=
  L = [] ∨ ∃ b off, A = some ⟨b, off, none⟩ ∧ ∀ i, i < L.length → ∃ A' c, w.cell? ⟨b, off + i, none⟩ = some (.slice A' (rw_ L i).length c) ∧ (rw_ L i).length ≤ c ∧ c ≤ maxLen ∧ Rd w A' (rw_ L i)

theorem RdRows.keep {w w' : World} {A : Option Addr} {L : List (List Int)} (h : RdRows w A L) (hb : Below w.heap.size w w') : RdRows w' A L := by
  rcases h with rfl | ⟨b, off, rfl, hc⟩
  · exact .inl rfl
  · refine .inr ⟨b, off, rfl, fun i hi => ?_⟩
    obtain ⟨A', c, h1, h2, h3, h4⟩ := hc i hi
    exact ⟨A', c, (hb.cell (p := ⟨b, off + i, none⟩) (World.block_lt_of_cell? w _ h1)).trans h1, h2, h3, h4.keep hb⟩

theorem RdRows.at {w : World} {A : Option Addr} {L : List (List Int)} (h : RdRows w A L) (hl : 0 < L.length) :
    ∃ b off, A = some ⟨b, off, none⟩ ∧ b < w.heap.size ∧ ∀ i, i < L.length → ∃ A' c, w.cell? ⟨b, off + i, none⟩ = some (.slice A' (rw_ L i).length c) ∧ (rw_ L i).length ≤ c ∧ c ≤ maxLen ∧ Rd w A' (rw_ L i) := by
  rcases h with rfl | ⟨b, off, rfl, hc⟩
  · simp at hl
  · obtain ⟨A', c, h1, _⟩ := hc 0 hl
    exact ⟨b, off, rfl, World.block_lt_of_cell? w _ h1, hc⟩

theorem take_succ_bt {l : List Int} {k : Nat} (h : k < l.length) : l.take (k + 1) = l.take k ++ [bt l k] := by
  rw [bt_lt h, List.take_succ_eq_append_getElem h]
theorem take_succ_rw {l : List (List Int)} {k : Nat} (h : k < l.length) : l.take (k + 1) = l.take k ++ [rw_ l k] := by
  rw [rw_lt h, List.take_succ_eq_append_getElem h]

/-- Are two lists the same? Behind a name that the walk does not open. -/
def beqL (l k : List Int) : Bool := decide (l = k)
theorem beqL_iff (l k : List Int) : beqL l k = true ↔ l = k := by simp [beqL]
theorem beqL_no (l k : List Int) : beqL l k = false ↔ l ≠ k := by simp [beqL]
theorem beqL_self (l : List Int) : beqL l l = true := by simp [beqL]

theorem ret_int {k : IntKind} {a b : Int} (h : a = b) : Ending.returned (.int k a) = .returned (.int k b) := by rw [h]
theorem ret_bool {a b : Bool} (h : a = b) : Ending.returned (.bool a) = .returned (.bool b) := by rw [h]

end Go.Proofs.Ytbbdglikdogmhaa
