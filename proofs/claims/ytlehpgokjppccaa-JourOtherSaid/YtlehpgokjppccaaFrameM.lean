/- The argument 'Made' (three ints, and a slice of frames) by value, opened. -/
import Derived.Test.YtlehpgokjppccaaFrameN
import Derived.Test.YtlehpgokjppccaaFr
import Derived.Deep.Slices
namespace Go.Proofs.Ytlehpgokjppccaa
open Go.ChangeShapes Go.WideShapes Go.ChangeAt Go.RowKit Go.Deep
set_option maxRecDepth 100000

instance : Inhabited Fr := ⟨⟨0, 0, []⟩⟩
def FrOk (f : Fr) : Prop := i64ok f.pg ∧ i64ok f.cm ∧ IsB f.b
section
variable {H : Type} {enc : TypeId × Value → H} {P : Program} {W : World} {base : Nat}
theorem open_fr_cells {e : TypeId} {f0 f1 f2 : Field} {E : TypeId} {n : Nat} {b off : Nat} {cs' : List Value} {y : DataW H × List MemPlace} (he : P.underlying e = some (.struct #[f0, f1, f2])) (hone : oneCellFields P #[f0, f1, f2] = true)
    (h0 : P.underlying f0.type = some (.int .i64)) (h1 : P.underlying f1.type = some (.int .i64)) (h2 : P.underlying f2.type = some (.slice E)) (hE : P.underlying E = some (.int .u8)) (cE : P.cellsOf E = 1)
    (hc : W.cells? base ⟨b, off, none⟩ 3 = some cs') (h : DataW.trod enc P W base (fun _ => true) true n e cs' = some y) : ∃ f : Fr, FrCell W b off f ∧ FrOk f := by
  obtain ⟨_, hlen, hcell⟩ := World.cells?_some hc
  obtain ⟨y0, y1, y2, k, hx, _, t0, t1, t2⟩ := trod_struct3 he h
  obtain ⟨o0, k0⟩ := hone_of hone 0 f0 rfl
  obtain ⟨o1, k1⟩ := hone_of hone 1 f1 rfl
  obtain ⟨o2, k2⟩ := hone_of hone 2 f2 rfl
  match cs', hlen with
  | [c0, c1, c2], _ =>
    have e0 := hcell 0 (by omega)
    have e1 := hcell 1 (by omega)
    have e2 := hcell 2 (by omega)
    simp [o0, k0] at t0
    simp [o1, k1] at t1
    simp [o2, k2] at t2
    obtain ⟨a, q0, _, wa⟩ := DataW.trod_int h0 t0
    obtain ⟨c, q1, _, wc⟩ := DataW.trod_int h1 t1
    simp at q0 q1
    subst q0 q1
    obtain ⟨A, m, d, l, rfl, z1, z2, z3, z4, z5⟩ := open_bytes_cell h2 hE cE t2
    subst z1
    refine ⟨⟨a, c, l⟩, ⟨A, d, ?_, ?_, ?_, z2, z3, z4⟩, wf_i64b wa, wf_i64b wc, z5⟩
    · simpa [Addr.add] using e0
    · simpa [Addr.add] using e1
    · simpa [Addr.add] using e2
theorem open_frames_cell {t e : TypeId} {f0 f1 f2 : Field} {E : TypeId} {v : Value} {n : Nat} {y : DataW H × List MemPlace} (ht : P.underlying t = some (.slice e)) (he : P.underlying e = some (.struct #[f0, f1, f2])) (hone : oneCellFields P #[f0, f1, f2] = true) (ce : P.cellsOf e = 3)
    (h0 : P.underlying f0.type = some (.int .i64)) (h1 : P.underlying f1.type = some (.int .i64)) (h2 : P.underlying f2.type = some (.slice E)) (hE : P.underlying E = some (.int .u8)) (cE : P.cellsOf E = 1)
    (h : DataW.trod enc P W base (fun _ => true) true n t [v] = some y) : ∃ A n c F, v = .slice A n c ∧ F.length = n ∧ n ≤ c ∧ c ≤ maxLen ∧ RdFr W A F ∧ ∀ f ∈ F, FrOk f := by
  rcases open_slice ht h with ⟨hcs, _⟩ | ⟨a, len, cap, m, k, D, Pl, hcs, _, hl, hm, hmm, _, hel⟩
  · simp at hcs
    subst hcs
    exact ⟨none, 0, 0, [], rfl, rfl, Nat.le_refl _, by unfold maxLen; omega, .inl rfl, by simp⟩
  · simp at hcs
    subst hcs
    simp only [if_true] at hmm
    subst hmm
    rw [ce] at hel
    by_cases hz : len = 0
    · subst hz
      exact ⟨some a, 0, m, [], rfl, rfl, Nat.zero_le _, hm, .inl rfl, by simp⟩
    · obtain ⟨b, off, spot⟩ := a
      have hs : spot = none := by
        obtain ⟨cs', hc, _⟩ := hel 0 (by omega)
        obtain ⟨_, hlen, hcell⟩ := World.cells?_some hc
        have h3 := hcell 0 (by omega)
        rw [List.getElem?_eq_getElem (by omega)] at h3
        simpa [Addr.add] using World.cell?_spot h3
      subst hs
      obtain ⟨g, hg⟩ := choose_lt (α := Fr) (p := fun i f => FrCell W b (off + i * 3) f ∧ FrOk f) (n := m) (fun i hi => by
        obtain ⟨cs', hc, ht'⟩ := hel i hi
        rw [add_plain] at hc
        exact open_fr_cells he hone h0 h1 h2 hE cE hc ht')
      refine ⟨_, _, _, (List.range len).map g, rfl, by simp, hl, hm, .inr ⟨b, off, rfl, fun i hi => ?_⟩, fun f hf => ?_⟩
      · have hi' : i < len := by simpa using hi
        have e : fr_ ((List.range len).map g) i = g i := by simp [fr_, hi']
        rw [e]
        exact (hg i (by omega)).1
      · obtain ⟨i, hi, rfl⟩ := List.mem_map.1 hf
        have hi' : i < len := by simpa using hi
        exact (hg i (by omega)).2
theorem open_made {t u e : TypeId} {g0 g1 g2 g3 f0 f1 f2 : Field} {E : TypeId} {r : Reach} {b0 : Nat} {v : Value} {d : DataW H} {p : List MemPlace} (hs : P.underlying t = some (.struct #[g0, g1, g2, g3])) (hone' : oneCellFields P #[g0, g1, g2, g3] = true) (hC : P.cellsOf t = 4)
    (i0 : P.underlying g0.type = some (.int .i64)) (i1 : P.underlying g1.type = some (.int .i64)) (i2 : P.underlying g2.type = some (.int .u64)) (i3 : P.underlying g3.type = some (.slice e)) (_hu : g3.type = u)
    (he : P.underlying e = some (.struct #[f0, f1, f2])) (hone : oneCellFields P #[f0, f1, f2] = true) (ce : P.cellsOf e = 3)
    (h0 : P.underlying f0.type = some (.int .i64)) (h1 : P.underlying f1.type = some (.int .i64)) (h2 : P.underlying f2.type = some (.slice E)) (hE : P.underlying E = some (.int .u8)) (cE : P.cellsOf E = 1)
    (hv : Value.okWide P W r b0 t v) (h : DataW.Trod enc P W base (fun _ => true) true t v d p) :
    ∃ s p k A n c F, v = .agg #[.int .i64 s, .int .i64 p, .int .u64 k, .slice A n c] ∧ i64ok s ∧ i64ok p ∧ (0 ≤ k ∧ k ≤ 18446744073709551615) ∧ F.length = n ∧ n ≤ c ∧ c ≤ maxLen ∧ RdFr W A F ∧ ∀ f ∈ F, FrOk f := by
  obtain ⟨c0, c1, c2, c3, y0, y1, y2, y3, m, rfl, rfl, rfl, hy0, hy1, hy2, hy3⟩ := Go.Joins.open_agg4 hs hone' hC hv h
  obtain ⟨a0, e0, _, w0⟩ := DataW.trod_int i0 hy0
  obtain ⟨a1, e1, _, w1⟩ := DataW.trod_int i1 hy1
  obtain ⟨a2, e2, _, w2⟩ := DataW.trod_int i2 hy2
  simp at e0 e1 e2
  subst e0 e1 e2
  obtain ⟨A, n, c, F, rfl, k1, k2, k3, k4, k5⟩ := open_frames_cell i3 he hone ce h0 h1 h2 hE cE hy3
  exact ⟨a0, a1, a2, A, n, c, F, rfl, wf_i64b w0, wf_i64b w1, wf_u64b w2, k1, k2, k3, k4, k5⟩
end
end Go.Proofs.Ytlehpgokjppccaa
