/- Rows of values in memory; plain laws of the encoding, step by step. -/
import Derived.Test.YtbbdglikdogmhaaRcD
namespace Go.Proofs.Ytbbdglikdogmhaa
open Go.RowKit
set_option maxRecDepth 100000
set_option linter.unusedVariables false
set_option linter.unusedSimpArgs false
set_option linter.unnecessarySimpa false

def VOk (v : Vl) : Prop := v.ok ∧ v.s.length ≤ maxLen
instance : Inhabited Vl := ⟨zeroV⟩
def vl_ (F : List Vl) (i : Nat) : Vl := F.getD i zeroV
theorem vl_lt {F : List Vl} {i : Nat} (h : i < F.length) : vl_ F i = F[i] := by simp [vl_, h]
theorem vl_mem {F : List Vl} {i : Nat} (h : i < F.length) : vl_ F i ∈ F := by rw [vl_lt h]; exact List.getElem_mem h
def VlCell (w : World) (b o : Nat) (v : Vl) : Prop := w.rangeAt b o (vlC v)
theorem rangeAt_keep {w w' : World} {b o : Nat} {cs : List Value} (h : w.rangeAt b o cs) (hb : Below w.heap.size w w') : w'.rangeAt b o cs := fun j v hv => by
  have h1 := h j v hv
  exact (hb.cell (World.block_lt_of_cell? _ _ h1)).trans h1
theorem VlCell.keep {w w' : World} {b o : Nat} {v : Vl} (h : VlCell w b o v) (hb : Below w.heap.size w w') : VlCell w' b o v := rangeAt_keep h hb
def RdVl (w : World) (A : Option Addr) (F : List Vl) : Prop := F = [] ∨ ∃ b off, A = some ⟨b, off, none⟩ ∧ ∀ i, i < F.length → VlCell w b (off + i * 3) (vl_ F i)
theorem RdVl.keep {w w' : World} {A : Option Addr} {F : List Vl} (h : RdVl w A F) (hb : Below w.heap.size w w') : RdVl w' A F := by
  rcases h with h | ⟨b, off, rfl, h⟩
  · exact .inl h
  · exact .inr ⟨b, off, rfl, fun i hi => (h i hi).keep hb⟩
theorem RdVl.at {w : World} {A : Option Addr} {F : List Vl} (h : RdVl w A F) (hl : 0 < F.length) : ∃ b off, A = some ⟨b, off, none⟩ ∧ ∀ i, i < F.length → VlCell w b (off + i * 3) (vl_ F i) := by
  rcases h with rfl | h
  · simp at hl
  · exact h
theorem RdVl.take {w : World} {A : Option Addr} {F : List Vl} (h : RdVl w A F) (k : Nat) : RdVl w A (F.take k) := by
  rcases h with rfl | ⟨b, off, rfl, h⟩
  · exact .inl (by simp)
  · refine .inr ⟨b, off, rfl, fun i hi => ?_⟩
    have hk : i < k ∧ i < F.length := by simpa [Nat.lt_min] using hi
    have e : vl_ (F.take k) i = vl_ F i := by simp [vl_, hk.1]
    rw [e]
    exact h i hk.2
theorem wp_load_vlm {ops : Array Oper} {rest : List Oper} {op : Oper} {a : Act} {w : World} {Q : Exit → Act → World → Prop} (hgd : op.guard = none) (x : Operand) (ho : op.op = .load 49 x) (b o : Nat) (v : Vl)
    (hx : a.eval x = .pointer (some ⟨b, o, none⟩)) (hc : VlCell w b o v) (h : wpList Try.prog ops Q rest (a.put op.dst v.val) w) : wpList Try.prog ops Q (op :: rest) a w :=
  wpList_load_mid hgd 49 x ho b o hx (vlC v) _ hc Try.underlying49 rfl size_vl h

/-! ### plain -/
theorem take_vl {F : List Vl} {j : Nat} (h : j < F.length) : F.take (j + 1) = F.take j ++ [vl_ F j] := by rw [vl_lt h, List.take_succ_eq_append_getElem h]
theorem firstW_app (l r : List Vl) (h : firstW l = 0) : firstW (l ++ r) = firstW r := by
  induction l with
  | nil => rfl
  | cons v l ih =>
    have h' : (if wrongV v ≠ 0 then wrongV v else firstW l) = 0 := h
    by_cases hv : wrongV v ≠ 0
    · rw [if_pos hv] at h'; exact absurd h' hv
    · rw [if_neg hv] at h'
      show (if wrongV v ≠ 0 then wrongV v else firstW (l ++ r)) = _
      rw [if_neg hv]
      exact ih h'
theorem firstW_stop {F : List Vl} {j : Nat} (hj : j < F.length) (h : firstW (F.take j) = 0) (hv : wrongV (vl_ F j) ≠ 0) : firstW F = wrongV (vl_ F j) := by
  have e : F = F.take j ++ (vl_ F j :: F.drop (j + 1)) := by rw [vl_lt hj, ← List.drop_eq_getElem_cons hj, List.take_append_drop]
  have h2 := firstW_app (F.take j) (vl_ F j :: F.drop (j + 1)) h
  rw [← e] at h2
  rw [h2]
  exact if_pos hv
theorem firstW_next {F : List Vl} {j : Nat} (hj : j < F.length) (h : firstW (F.take j) = 0) (hv : wrongV (vl_ F j) = 0) : firstW (F.take (j + 1)) = 0 := by
  rw [take_vl hj, firstW_app _ _ h]
  show (if wrongV _ ≠ 0 then _ else firstW []) = 0
  rw [if_neg (by simp [hv])]
  rfl
theorem firstW_all {F : List Vl} (h : firstW F = 0) : ∀ v ∈ F, wrongV v = 0 := by
  induction F with
  | nil => simp
  | cons v l ih =>
    have h' : (if wrongV v ≠ 0 then wrongV v else firstW l) = 0 := h
    by_cases hv : wrongV v ≠ 0
    · rw [if_pos hv] at h'; exact absurd h' hv
    · rw [if_neg hv] at h'
      intro x hx
      rcases List.mem_cons.1 hx with rfl | hx
      · simpa using hv
      · exact ih h' x hx
theorem wrong_len {v : Vl} (h : wrongV v = 0) : v.s.length ≤ 4096 := by
  unfold wrongV at h
  split at h
  · exact absurd h (by decide)
  · split at h
    · exact absurd h (by decide)
    · omega
theorem body_len {v : Vl} (h : wrongV v = 0) : (bodyV v).length ≤ 4096 := by
  unfold bodyV
  split
  · rw [fxL_length]; have := widI_bd v.n; omega
  · exact wrong_len h
theorem code_bd {v : Vl} (h : wrongV v = 0) : 0 ≤ codeV v ∧ codeV v ≤ 8209 := by
  have h1 := wrong_len h
  have h2 := widI_bd v.n
  unfold codeV
  repeat' split
  all_goals omega
theorem codesB_step {F : List Vl} {j : Nat} (h : j < F.length) : codesB (F.take (j + 1)) = codesB (F.take j) ++ varL (codeV (vl_ F j)) := by
  rw [take_vl h]; simp [codesB]
theorem bodiesB_step {F : List Vl} {j : Nat} (h : j < F.length) : bodiesB (F.take (j + 1)) = bodiesB (F.take j) ++ bodyV (vl_ F j) := by
  rw [take_vl h]; simp [bodiesB]
theorem codesB_len {F : List Vl} (h : ∀ v ∈ F, wrongV v = 0) : (codesB F).length ≤ 10 * F.length := by
  induction F with
  | nil => simp [codesB]
  | cons v l ih =>
    have h1 := ih (fun x hx => h x (List.mem_cons_of_mem _ hx))
    have h2 := code_bd (h v (List.mem_cons_self ..))
    have h3 : (varL (codeV v)).length ≤ 10 := varL_len (by omega)
    have e : codesB (v :: l) = varL (codeV v) ++ codesB l := by simp [codesB]
    rw [e, List.length_append, List.length_cons]
    omega
theorem bodiesB_len {F : List Vl} (h : ∀ v ∈ F, wrongV v = 0) : (bodiesB F).length ≤ 4096 * F.length := by
  induction F with
  | nil => simp [bodiesB]
  | cons v l ih =>
    have h1 := ih (fun x hx => h x (List.mem_cons_of_mem _ hx))
    have h2 := body_len (h v (List.mem_cons_self ..))
    have e : bodiesB (v :: l) = bodyV v ++ bodiesB l := by simp [bodiesB]
    rw [e, List.length_append, List.length_cons]
    omega
/-- Bytes of one's own, beside an error. -/
def EncVB (w : World) (l : List Int) (z : Int) (e : Ending) (w' : World) : Prop :=
  ∃ A n c, e = .returned (.tuple #[.slice A n c, .int .i64 z]) ∧ OwnB w' w.heap.size A n c l ∧ Below w.heap.size w w'
end Go.Proofs.Ytbbdglikdogmhaa
