/- The argument '[][]api.Val' opened. -/
import Derived.Test.YtbbdglikdogmhaaFrameV
import Derived.Test.YtbbdglikdogmhaaTpP
namespace Go.Proofs.Ytbbdglikdogmhaa
open Go.ChangeShapes Go.WideShapes Go.ChangeAt Go.RowKit Go.Deep
set_option maxRecDepth 100000
set_option linter.unusedSimpArgs false
section
variable {H : Type} {enc : TypeId × Value → H} {P : Program} {W : World} {base : Nat}
theorem core_vals {t e : TypeId} {f0 f1 f2 : Field} {fuel : Nat} {cs : List Value} {y : DataW H × List MemPlace} (ht : P.underlying t = some (.slice e)) (he : P.underlying e = some (.struct #[f0, f1, f2])) (hone : oneCellFields P #[f0, f1, f2] = true) (ce : P.cellsOf e = 3)
    (h0 : P.underlying f0.type = some (.int .i64)) (h1 : P.underlying f1.type = some (.int .i64)) (h2 : P.underlying f2.type = some .string)
    (hf : DataW.trod enc P W base (fun _ => true) true fuel t cs = some y) : ∃ r : Rw, cs = [.slice r.A r.n r.c] ∧ RwOk W r := by
  rcases open_slice ht hf with ⟨hcs, _⟩ | ⟨a, len, cap, m, k, D, Pl, hcs, _, hl, hm, hmm, _, hel⟩
  · exact ⟨⟨none, 0, 0, []⟩, hcs, rfl, Nat.le_refl _, Nat.zero_le _, .inl rfl, by simp⟩
  · simp only [if_true] at hmm
    subst hmm
    rw [ce] at hel
    by_cases hz : len = 0
    · subst hz
      exact ⟨⟨some a, 0, m, []⟩, hcs, rfl, Nat.zero_le _, hm, .inl rfl, by simp⟩
    · obtain ⟨b, off, spot⟩ := a
      have hs : spot = none := by
        obtain ⟨cs', hc, _⟩ := hel 0 (by omega)
        obtain ⟨_, hlen, hcell⟩ := World.cells?_some hc
        have h3 := hcell 0 (by omega)
        rw [List.getElem?_eq_getElem (by omega)] at h3
        simpa [Addr.add] using World.cell?_spot h3
      subst hs
      obtain ⟨g, hg⟩ := choose_lt (α := Vl) (p := fun i f => VlCell W b (off + i * 3) f ∧ VOk f) (n := m) (fun i hi => by
        obtain ⟨cs', hc, ht'⟩ := hel i hi
        rw [add_plain] at hc
        exact open_vl_cells he hone h0 h1 h2 hc ht')
      refine ⟨⟨some ⟨b, off, none⟩, len, m, (List.range len).map g⟩, hcs, by simp, hl, hm, .inr ⟨b, off, rfl, fun i hi => ?_⟩, fun f hf => ?_⟩
      · have hi' : i < len := by simpa using hi
        have e : vl_ ((List.range len).map g) i = g i := by simp [vl_, hi']
        rw [e]
        exact (hg i (by omega)).1
      · obtain ⟨i, hi, rfl⟩ := List.mem_map.1 hf
        have hi' : i < len := by simpa using hi
        exact (hg i (by omega)).2
theorem open_vrows {T t e : TypeId} {f0 f1 f2 : Field} {r : Reach} {b0 : Nat} {v : Value} {d : DataW H} {p : List MemPlace} (hT : P.underlying T = some (.slice t)) (ht : P.underlying t = some (.slice e)) (he : P.underlying e = some (.struct #[f0, f1, f2])) (hone : oneCellFields P #[f0, f1, f2] = true) (ct : P.cellsOf t = 1) (ce : P.cellsOf e = 3)
    (h0 : P.underlying f0.type = some (.int .i64)) (h1 : P.underlying f1.type = some (.int .i64)) (h2 : P.underlying f2.type = some .string)
    (hv : Value.okWide P W r b0 T v) (h : DataW.Trod enc P W base (fun _ => true) true T v d p) : ∃ A n c L, v = .slice A n c ∧ L.length = n ∧ n ≤ c ∧ c ≤ maxLen ∧ RdVR W A L := by
  obtain ⟨A0, n0, c0, rfl⟩ := okWide_slice hT hv
  obtain ⟨fuel, hf⟩ := h
  rcases open_slice hT hf with ⟨hcs, _⟩ | ⟨a, len, cap, m, k, D, Pl, hcs, _, hl, hm, hmm, _, hel⟩
  · simp [Value.cells] at hcs
    obtain ⟨rfl, rfl, rfl⟩ := hcs
    exact ⟨none, 0, 0, [], rfl, rfl, Nat.le_refl _, by unfold maxLen; omega, .inl rfl, by simp⟩
  · simp [Value.cells] at hcs
    obtain ⟨rfl, rfl, rfl⟩ := hcs
    simp only [if_true] at hmm
    subst hmm
    rw [ct] at hel
    by_cases hz : n0 = 0
    · subst hz
      exact ⟨some a, 0, _, [], rfl, rfl, Nat.zero_le _, hm, .inl rfl, by simp⟩
    · obtain ⟨b, off, spot⟩ := a
      have hs : spot = none := by
        obtain ⟨cs', hc, _⟩ := hel 0 (by omega)
        obtain ⟨_, hlen, hcell⟩ := World.cells?_some hc
        have h3 := hcell 0 (by omega)
        rw [List.getElem?_eq_getElem (by omega)] at h3
        simpa [Addr.add] using World.cell?_spot h3
      subst hs
      obtain ⟨g, hg⟩ := choose_lt (α := Rw) (p := fun i x => W.cell? ⟨b, off + i, none⟩ = some (.slice x.A x.n x.c) ∧ RwOk W x) (n := n0) (fun i hi => by
        obtain ⟨cs', hc, ht'⟩ := hel i (by omega)
        rw [add_plain] at hc
        obtain ⟨x, rfl, hx⟩ := core_vals ht he hone ce h0 h1 h2 ht'
        obtain ⟨_, hlen, hcell⟩ := World.cells?_some hc
        have h3 := hcell 0 (by omega)
        refine ⟨x, ?_, hx⟩
        simpa [Addr.add] using h3)
      refine ⟨_, _, _, (List.range n0).map g, rfl, by simp, hl, hm, .inr ⟨b, off, rfl, fun i hi => ?_⟩, fun x hx => ?_⟩
      · have hi' : i < n0 := by simpa using hi
        have e : vw_ ((List.range n0).map g) i = g i := by simp [vw_, hi']
        rw [e]
        exact (hg i hi').1
      · obtain ⟨i, hi, rfl⟩ := List.mem_map.1 hx
        have hi' : i < n0 := by simpa using hi
        exact (hg i hi').2
end
end Go.Proofs.Ytbbdglikdogmhaa
