/- Plain: rows of values sorted, as TopRecords needs it: the order is that of the values alone. -/
import Derived.Test.YtbbdglikdogmhaaRcE
import Derived.Test.YtbbdglikdogmhaaRcQ
namespace Go.Proofs.Ytbbdglikdogmhaa
open Go.RowKit
set_option maxRecDepth 100000
set_option linter.unusedVariables false
set_option linter.unusedSimpArgs false
set_option linter.unnecessarySimpa false

/-- A row as it lies in memory, with its values. -/
structure Rw where
  (A : Option Addr) (n c : Nat)
  F : List Vl
def zeroVW : Rw := ⟨none, 0, 0, []⟩
instance : Inhabited Rw := ⟨zeroVW⟩
def vw_ (l : List Rw) (i : Nat) : Rw := l.getD i zeroVW
theorem vw_lt {l : List Rw} {i : Nat} (h : i < l.length) : vw_ l i = l[i] := by simp [vw_, h]
def vr_ (l : List (List Vl)) (i : Nat) : List Vl := l.getD i []
def valsOf (l : List Rw) : List (List Vl) := l.map Rw.F
theorem vr_of (l : List Rw) (i : Nat) : vr_ (valsOf l) i = (vw_ l i).F := by
  unfold vr_ valsOf vw_
  simp only [List.getD_eq_getElem?_getD, List.getElem?_map]
  cases l[i]? <;> rfl
def swp {α : Type} (l : List α) (x y : α) (j : Nat) : List α := (l.set (j + 1) x).set j y
/-- The inner loop: what stands at j goes ahead as far as it is less. -/
def bub (lt : List Vl → List Vl → Bool) : Nat → List Rw → List Rw
  | 0, l => l
  | j + 1, l => if lt (vw_ l (j + 1)).F (vw_ l j).F then bub lt j (swp l (vw_ l j) (vw_ l (j + 1)) j) else l
def bubV (lt : List Vl → List Vl → Bool) : Nat → List (List Vl) → List (List Vl)
  | 0, l => l
  | j + 1, l => if lt (vr_ l (j + 1)) (vr_ l j) then bubV lt j (swp l (vr_ l j) (vr_ l (j + 1)) j) else l
theorem bub_of (lt : List Vl → List Vl → Bool) : ∀ (j : Nat) (l : List Rw), valsOf (bub lt j l) = bubV lt j (valsOf l)
  | 0, _ => rfl
  | j + 1, l => by
    unfold bub bubV
    rw [vr_of, vr_of]
    split
    · rw [bub_of lt j]
      congr 1
      simp [valsOf, swp, List.map_set]
    · rfl
theorem bub_len (lt : List Vl → List Vl → Bool) : ∀ (j : Nat) (l : List Rw), (bub lt j l).length = l.length
  | 0, _ => rfl
  | j + 1, l => by
    unfold bub
    split
    · rw [bub_len lt j]; simp [swp]
    · rfl
/-- The outer loop: k more rows, from i on. -/
def srt (lt : List Vl → List Vl → Bool) : Nat → Nat → List Rw → List Rw
  | 0, _, l => l
  | k + 1, i, l => srt lt k (i + 1) (bub lt i l)
def srtV (lt : List Vl → List Vl → Bool) : Nat → Nat → List (List Vl) → List (List Vl)
  | 0, _, l => l
  | k + 1, i, l => srtV lt k (i + 1) (bubV lt i l)
theorem srt_of (lt : List Vl → List Vl → Bool) : ∀ (k i : Nat) (l : List Rw), valsOf (srt lt k i l) = srtV lt k i (valsOf l)
  | 0, _, _ => rfl
  | k + 1, i, l => by
    unfold srt srtV
    rw [srt_of lt k, bub_of]
theorem srt_len (lt : List Vl → List Vl → Bool) : ∀ (k i : Nat) (l : List Rw), (srt lt k i l).length = l.length
  | 0, _, _ => rfl
  | k + 1, i, l => by
    unfold srt
    rw [srt_len lt k, bub_len]
theorem swp_mem {l : List Rw} {j : Nat} (h : j + 1 < l.length) {x : Rw} (hx : x ∈ swp l (vw_ l j) (vw_ l (j + 1)) j) : x ∈ l := by
  unfold swp at hx
  rcases List.mem_or_eq_of_mem_set hx with h1 | h1
  · rcases List.mem_or_eq_of_mem_set h1 with h2 | h2
    · exact h2
    · rw [h2, vw_lt (by omega)]; exact List.getElem_mem _
  · rw [h1, vw_lt h]; exact List.getElem_mem _

/-! ### rows in memory -/
def RwOk (w : World) (r : Rw) : Prop := r.F.length = r.n ∧ r.n ≤ r.c ∧ r.c ≤ maxLen ∧ RdVl w r.A r.F ∧ ∀ v ∈ r.F, VOk v
theorem RwOk.keep {w w' : World} {r : Rw} (h : RwOk w r) (hb : Below w.heap.size w w') : RwOk w' r := ⟨h.1, h.2.1, h.2.2.1, h.2.2.2.1.keep hb, h.2.2.2.2⟩
def RdVR (w : World) (A : Option Addr) (L : List Rw) : Prop :=
  (L = [] ∨ ∃ b off, A = some ⟨b, off, none⟩ ∧ ∀ i, i < L.length → w.cell? ⟨b, off + i, none⟩ = some (.slice (vw_ L i).A (vw_ L i).n (vw_ L i).c)) ∧ ∀ r ∈ L, RwOk w r
theorem RdVR.keep {w w' : World} {A : Option Addr} {L : List Rw} (h : RdVR w A L) (hb : Below w.heap.size w w') : RdVR w' A L := by
  refine ⟨?_, fun r hr => (h.2 r hr).keep hb⟩
  rcases h.1 with q | ⟨b, off, rfl, q⟩
  · exact .inl q
  · exact .inr ⟨b, off, rfl, fun i hi => (hb.cell (p := ⟨b, off + i, none⟩) (World.block_lt_of_cell? w _ (q i hi))).trans (q i hi)⟩
end Go.Proofs.Ytbbdglikdogmhaa
