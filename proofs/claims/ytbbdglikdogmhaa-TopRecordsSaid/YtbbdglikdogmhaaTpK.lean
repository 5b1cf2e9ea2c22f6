/- The keys of an order, in memory; the argument '[]api.Key' opened. -/
import Derived.Test.YtbbdglikdogmhaaFrameR
namespace Go.Proofs.Ytbbdglikdogmhaa
open Go.ChangeShapes Go.WideShapes Go.ChangeAt Go.RowKit Go.Deep
set_option maxRecDepth 100000
set_option linter.unusedVariables false
set_option linter.unusedSimpArgs false

structure Ky where
  (col coll : Int)
  desc : Bool
def zeroK : Ky := ⟨0, 0, false⟩
instance : Inhabited Ky := ⟨zeroK⟩
def Ky.val (k : Ky) : Value := .agg #[.int .i64 k.col, .int .i64 k.coll, .bool k.desc]
def kyC (k : Ky) : List Value := [.int .i64 k.col, .int .i64 k.coll, .bool k.desc]
def KyOk (k : Ky) : Prop := i64K k.col ∧ i64K k.coll
def rightK (k : Ky) : Prop := 0 ≤ k.col ∧ (k.coll = 0 ∨ k.coll = 1)
instance (k : Ky) : Decidable (rightK k) := by unfold rightK; infer_instance
def ky_ (l : List Ky) (i : Nat) : Ky := l.getD i zeroK
theorem ky_lt {l : List Ky} {i : Nat} (h : i < l.length) : ky_ l i = l[i] := by simp [ky_, h]
theorem ky_mem {l : List Ky} {i : Nat} (h : i < l.length) : ky_ l i ∈ l := by rw [ky_lt h]; exact List.getElem_mem h
def RdKy (w : World) (A : Option Addr) (l : List Ky) : Prop := l = [] ∨ ∃ b off, A = some ⟨b, off, none⟩ ∧ ∀ i, i < l.length → w.rangeAt b (off + i * 3) (kyC (ky_ l i))
theorem RdKy.keep {w w' : World} {A : Option Addr} {l : List Ky} (h : RdKy w A l) (hb : Below w.heap.size w w') : RdKy w' A l := by
  rcases h with h | ⟨b, off, rfl, h⟩
  · exact .inl h
  · exact .inr ⟨b, off, rfl, fun i hi => rangeAt_keep (h i hi) hb⟩
theorem RdKy.at {w : World} {A : Option Addr} {l : List Ky} (h : RdKy w A l) (hl : 0 < l.length) : ∃ b off, A = some ⟨b, off, none⟩ ∧ ∀ i, i < l.length → w.rangeAt b (off + i * 3) (kyC (ky_ l i)) := by
  rcases h with h | h
  · rw [h] at hl; simp at hl
  · exact h
section
variable {H : Type} {enc : TypeId × Value → H} {P : Program} {W : World} {base : Nat}
theorem open_ky_cells {e : TypeId} {f0 f1 f2 : Field} {n : Nat} {b off : Nat} {cs' : List Value} {y : DataW H × List MemPlace} (he : P.underlying e = some (.struct #[f0, f1, f2])) (hone : oneCellFields P #[f0, f1, f2] = true)
    (h0 : P.underlying f0.type = some (.int .i64)) (h1 : P.underlying f1.type = some (.int .i64)) (h2 : P.underlying f2.type = some .bool)
    (hc : W.cells? base ⟨b, off, none⟩ 3 = some cs') (h : DataW.trod enc P W base (fun _ => true) true n e cs' = some y) : ∃ v : Ky, W.rangeAt b off (kyC v) ∧ KyOk v := by
  obtain ⟨_, hlen, hcell⟩ := World.cells?_some hc
  obtain ⟨y0, y1, y2, k, hx, _, t0, t1, t2⟩ := trod_struct3 he h
  obtain ⟨o0, k0⟩ := hone_of hone 0 f0 rfl
  obtain ⟨o1, k1⟩ := hone_of hone 1 f1 rfl
  obtain ⟨o2, k2⟩ := hone_of hone 2 f2 rfl
  match cs', hlen with
  | [c0, c1, c2], _ =>
    have e0 := hcell 0 (by omega)
    have e1 := hcell 1 (by omega)
    have e2 := hcell 2 (by omega)
    simp [o0, k0] at t0
    simp [o1, k1] at t1
    simp [o2, k2] at t2
    obtain ⟨a, q0, _, wa⟩ := DataW.trod_int h0 t0
    obtain ⟨c, q1, _, wc⟩ := DataW.trod_int h1 t1
    obtain ⟨s, q2, _⟩ := DataW.trod_bool h2 t2
    simp at q0 q1 q2
    subst q0 q1 q2
    refine ⟨⟨a, c, s⟩, ?_, wf_i64b wa, wf_i64b wc⟩
    intro j u hu
    have hj : j < 3 := (List.getElem?_eq_some_iff.1 hu).1
    rcases (by omega : j = 0 ∨ j = 1 ∨ j = 2) with rfl | rfl | rfl
    · rw [← hu]; simpa [Addr.add, kyC] using e0
    · rw [← hu]; simpa [Addr.add, kyC] using e1
    · rw [← hu]; simpa [Addr.add, kyC] using e2
theorem open_keys {t e : TypeId} {f0 f1 f2 : Field} {r : Reach} {b0 : Nat} {v : Value} {d : DataW H} {p : List MemPlace} (ht : P.underlying t = some (.slice e)) (he : P.underlying e = some (.struct #[f0, f1, f2])) (hone : oneCellFields P #[f0, f1, f2] = true) (ce : P.cellsOf e = 3)
    (h0 : P.underlying f0.type = some (.int .i64)) (h1 : P.underlying f1.type = some (.int .i64)) (h2 : P.underlying f2.type = some .bool)
    (hv : Value.okWide P W r b0 t v) (h : DataW.Trod enc P W base (fun _ => true) true t v d p) : ∃ A n c F, v = .slice A n c ∧ F.length = n ∧ n ≤ c ∧ c ≤ maxLen ∧ RdKy W A F ∧ ∀ x ∈ F, KyOk x := by
  obtain ⟨A0, n0, c0, rfl⟩ := okWide_slice ht hv
  obtain ⟨fuel, hf⟩ := h
  rcases open_slice ht hf with ⟨hcs, _⟩ | ⟨a, len, cap, m, k, D, Pl, hcs, _, hl, hm, hmm, _, hel⟩
  · simp [Value.cells] at hcs
    obtain ⟨rfl, rfl, rfl⟩ := hcs
    exact ⟨none, 0, 0, [], rfl, rfl, Nat.le_refl _, by unfold maxLen; omega, .inl rfl, by simp⟩
  · simp [Value.cells] at hcs
    obtain ⟨rfl, rfl, rfl⟩ := hcs
    simp only [if_true] at hmm
    subst hmm
    rw [ce] at hel
    by_cases hz : n0 = 0
    · subst hz
      exact ⟨some a, 0, m, [], rfl, rfl, Nat.zero_le _, hm, .inl rfl, by simp⟩
    · obtain ⟨b, off, spot⟩ := a
      have hs : spot = none := by
        obtain ⟨cs', hc, _⟩ := hel 0 (by omega)
        obtain ⟨_, hlen, hcell⟩ := World.cells?_some hc
        have h3 := hcell 0 (by omega)
        rw [List.getElem?_eq_getElem (by omega)] at h3
        simpa [Addr.add] using World.cell?_spot h3
      subst hs
      obtain ⟨g, hg⟩ := choose_lt (α := Ky) (p := fun i f => W.rangeAt b (off + i * 3) (kyC f) ∧ KyOk f) (n := m) (fun i hi => by
        obtain ⟨cs', hc, ht'⟩ := hel i hi
        rw [add_plain] at hc
        exact open_ky_cells he hone h0 h1 h2 hc ht')
      refine ⟨_, _, _, (List.range n0).map g, rfl, by simp, hl, hm, .inr ⟨b, off, rfl, fun i hi => ?_⟩, fun f hf => ?_⟩
      · have hi' : i < n0 := by simpa using hi
        have e : ky_ ((List.range n0).map g) i = g i := by simp [ky_, hi']
        rw [e]
        exact (hg i (by omega)).1
      · obtain ⟨i, hi, rfl⟩ := List.mem_map.1 hf
        have hi' : i < n0 := by simpa using hi
        exact (hg i (by omega)).2
end
end Go.Proofs.Ytbbdglikdogmhaa
