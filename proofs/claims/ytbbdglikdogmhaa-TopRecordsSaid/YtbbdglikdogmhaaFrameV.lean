/- The argument '[]api.Val' opened. -/
import Derived.Test.YtbbdglikdogmhaaFrameN
import Derived.Test.YtbbdglikdogmhaaRcE
import Derived.Deep.Slices
namespace Go.Proofs.Ytbbdglikdogmhaa
open Go.ChangeShapes Go.WideShapes Go.ChangeAt Go.RowKit Go.Deep
set_option maxRecDepth 100000
set_option linter.unusedSimpArgs false

theorem nums_str (s : ByteArray) : strOfNums (s.data.toList.map fun x => (x.toNat : Int)) = s := by
  obtain ⟨⟨l⟩⟩ := s
  simp [strOfNums, Function.comp_def]
theorem nums_isB (s : ByteArray) : IsB (s.data.toList.map fun x => (x.toNat : Int)) := by
  intro x hx
  obtain ⟨b, _, rfl⟩ := List.mem_map.1 hx
  have := b.toNat_lt
  omega
section
variable {H : Type} {enc : TypeId × Value → H} {P : Program} {W : World} {base : Nat}
theorem open_vl_cells {e : TypeId} {f0 f1 f2 : Field} {n : Nat} {b off : Nat} {cs' : List Value} {y : DataW H × List MemPlace} (he : P.underlying e = some (.struct #[f0, f1, f2])) (hone : oneCellFields P #[f0, f1, f2] = true)
    (h0 : P.underlying f0.type = some (.int .i64)) (h1 : P.underlying f1.type = some (.int .i64)) (h2 : P.underlying f2.type = some .string)
    (hc : W.cells? base ⟨b, off, none⟩ 3 = some cs') (h : DataW.trod enc P W base (fun _ => true) true n e cs' = some y) : ∃ v : Vl, VlCell W b off v ∧ VOk v := by
  obtain ⟨_, hlen, hcell⟩ := World.cells?_some hc
  obtain ⟨y0, y1, y2, k, hx, _, t0, t1, t2⟩ := trod_struct3 he h
  obtain ⟨o0, k0⟩ := hone_of hone 0 f0 rfl
  obtain ⟨o1, k1⟩ := hone_of hone 1 f1 rfl
  obtain ⟨o2, k2⟩ := hone_of hone 2 f2 rfl
  match cs', hlen with
  | [c0, c1, c2], _ =>
    have e0 := hcell 0 (by omega)
    have e1 := hcell 1 (by omega)
    have e2 := hcell 2 (by omega)
    simp [o0, k0] at t0
    simp [o1, k1] at t1
    simp [o2, k2] at t2
    obtain ⟨a, q0, _, wa⟩ := DataW.trod_int h0 t0
    obtain ⟨c, q1, _, wc⟩ := DataW.trod_int h1 t1
    obtain ⟨s, q2, _, ws⟩ := DataW.trod_string h2 t2
    simp at q0 q1 q2
    subst q0 q1 q2
    refine ⟨⟨a, c, s.data.toList.map fun x => (x.toNat : Int)⟩, ?_, ⟨wf_i64b wa, wf_i64b wc, nums_isB s⟩, ?_⟩
    · intro j u hu
      have hj : j < 3 := (List.getElem?_eq_some_iff.1 hu).1
      rcases (by omega : j = 0 ∨ j = 1 ∨ j = 2) with rfl | rfl | rfl
      · rw [← hu]; simpa [Addr.add, vlC] using e0
      · rw [← hu]; simpa [Addr.add, vlC] using e1
      · rw [← hu]; simpa [Addr.add, vlC, nums_str] using e2
    · have : (s.data.toList.map fun x => (x.toNat : Int)).length = s.size := by rw [List.length_map, Array.length_toList]; rfl
      simp only
      rw [this]; exact ws
theorem open_vals {t e : TypeId} {f0 f1 f2 : Field} {r : Reach} {b0 : Nat} {v : Value} {d : DataW H} {p : List MemPlace} (ht : P.underlying t = some (.slice e)) (he : P.underlying e = some (.struct #[f0, f1, f2])) (hone : oneCellFields P #[f0, f1, f2] = true) (ce : P.cellsOf e = 3)
    (h0 : P.underlying f0.type = some (.int .i64)) (h1 : P.underlying f1.type = some (.int .i64)) (h2 : P.underlying f2.type = some .string)
    (hv : Value.okWide P W r b0 t v) (h : DataW.Trod enc P W base (fun _ => true) true t v d p) : ∃ A n c F, v = .slice A n c ∧ F.length = n ∧ n ≤ c ∧ c ≤ maxLen ∧ RdVl W A F ∧ ∀ x ∈ F, VOk x := by
  obtain ⟨A0, n0, c0, rfl⟩ := okWide_slice ht hv
  obtain ⟨fuel, hf⟩ := h
  rcases open_slice ht hf with ⟨hcs, _⟩ | ⟨a, len, cap, m, k, D, Pl, hcs, _, hl, hm, hmm, _, hel⟩
  · simp [Value.cells] at hcs
    obtain ⟨rfl, rfl, rfl⟩ := hcs
    exact ⟨none, 0, 0, [], rfl, rfl, Nat.le_refl _, by unfold maxLen; omega, .inl rfl, by simp⟩
  · simp [Value.cells] at hcs
    obtain ⟨rfl, rfl, rfl⟩ := hcs
    simp only [if_true] at hmm
    subst hmm
    rw [ce] at hel
    by_cases hz : n0 = 0
    · subst hz
      exact ⟨some a, 0, m, [], rfl, rfl, Nat.zero_le _, hm, .inl rfl, by simp⟩
    · obtain ⟨b, off, spot⟩ := a
      have hs : spot = none := by
        obtain ⟨cs', hc, _⟩ := hel 0 (by omega)
        obtain ⟨_, hlen, hcell⟩ := World.cells?_some hc
        have h3 := hcell 0 (by omega)
        rw [List.getElem?_eq_getElem (by omega)] at h3
        simpa [Addr.add] using World.cell?_spot h3
      subst hs
      obtain ⟨g, hg⟩ := choose_lt (α := Vl) (p := fun i f => VlCell W b (off + i * 3) f ∧ VOk f) (n := m) (fun i hi => by
        obtain ⟨cs', hc, ht'⟩ := hel i hi
        rw [add_plain] at hc
        exact open_vl_cells he hone h0 h1 h2 hc ht')
      refine ⟨_, _, _, (List.range n0).map g, rfl, by simp, hl, hm, .inr ⟨b, off, rfl, fun i hi => ?_⟩, fun f hf => ?_⟩
      · have hi' : i < n0 := by simpa using hi
        have e : vl_ ((List.range n0).map g) i = g i := by simp [vl_, hi']
        rw [e]
        exact (hg i (by omega)).1
      · obtain ⟨i, hi, rfl⟩ := List.mem_map.1 hf
        have hi' : i < n0 := by simpa using hi
        exact (hg i (by omega)).2
end
end Go.Proofs.Ytbbdglikdogmhaa
