/- What is done to a page: deeds in memory, plain and opened. -/
import Derived.Test.YtoeaffmlolapnaaSlX
import Derived.Test.YtoeaffmlolapnaaSlT
import Derived.Test.YtoeaffmlolapnaaFrameN
import Derived.Deep.Slices
namespace Go.Proofs.Ytoeaffmlolapnaa
open Go.ChangeShapes Go.WideShapes Go.ChangeAt Go.RowKit Go.Deep
set_option maxRecDepth 100000
set_option linter.unusedVariables false
set_option linter.unusedSimpArgs false

structure Dd where
  (kd i : Int)
  b : List Int
instance : Inhabited Dd := ⟨⟨0, 0, []⟩⟩
def dd_ (F : List Dd) (i : Nat) : Dd := F.getD i ⟨0, 0, []⟩
theorem dd_lt {F : List Dd} {i : Nat} (h : i < F.length) : dd_ F i = F[i] := by simp [dd_, h]
def i64b (n : Int) : Prop := -9223372036854775808 ≤ n ∧ n ≤ 9223372036854775807
def DdOk (d : Dd) : Prop := i64b d.kd ∧ i64b d.i ∧ IsB d.b
def DdCell (w : World) (b o : Nat) (d : Dd) : Prop :=
  ∃ A c, w.cell? ⟨b, o, none⟩ = some (.int .i64 d.kd) ∧ w.cell? ⟨b, o + 1, none⟩ = some (.int .i64 d.i) ∧ w.cell? ⟨b, o + 2, none⟩ = some (.slice A d.b.length c) ∧ d.b.length ≤ c ∧ c ≤ maxLen ∧ Rd w A d.b
def RdDd (w : World) (A : Option Addr) (F : List Dd) : Prop := F = [] ∨ ∃ b off, A = some ⟨b, off, none⟩ ∧ ∀ i, i < F.length → DdCell w b (off + i * 3) (dd_ F i)
theorem DdCell.keep {w w' : World} {b o : Nat} {f : Dd} (h : DdCell w b o f) (hb : Below w.heap.size w w') : DdCell w' b o f := by
  obtain ⟨A, c, h1, h2, h3, h4, h5, h6⟩ := h
  exact ⟨A, c, (hb.cell (World.block_lt_of_cell? _ _ h1)).trans h1, (hb.cell (World.block_lt_of_cell? _ _ h2)).trans h2, (hb.cell (World.block_lt_of_cell? _ _ h3)).trans h3, h4, h5, h6.keep hb⟩
theorem RdDd.keep {w w' : World} {A : Option Addr} {F : List Dd} (h : RdDd w A F) (hb : Below w.heap.size w w') : RdDd w' A F := by
  rcases h with h | ⟨b, off, rfl, h⟩
  · exact .inl h
  · exact .inr ⟨b, off, rfl, fun i hi => (h i hi).keep hb⟩
theorem RdDd.at {w : World} {A : Option Addr} {F : List Dd} (h : RdDd w A F) (hl : 0 < F.length) : ∃ b off, A = some ⟨b, off, none⟩ ∧ ∀ i, i < F.length → DdCell w b (off + i * 3) (dd_ F i) := by
  rcases h with rfl | h
  · simp at hl
  · exact h
/-- Few, and short. -/
def smallD (F : List Dd) : Prop := F.length ≤ 100 ∧ ∀ d ∈ F, d.b.length ≤ 8192
instance (F : List Dd) : Decidable (smallD F) := by unfold smallD; infer_instance
def doM (M : Mdl) (d : Dd) : Mdl := if d.kd = 0 then (insM M d.i d.b).1 else if d.kd = 1 then (remM M d.i).1 else M.pack
def doAll (M : Mdl) (F : List Dd) : Mdl := F.foldl doM M
theorem doAll_take {M : Mdl} {F : List Dd} {j : Nat} (h : j < F.length) : doAll M (F.take (j + 1)) = doM (doAll M (F.take j)) (dd_ F j) := by
  unfold doAll
  rw [List.take_succ_eq_append_getElem h, dd_lt h, List.foldl_append]
  rfl
section
variable {H : Type} {enc : TypeId × Value → H} {P : Program} {W : World} {base : Nat}
theorem open_dd_cells {e : TypeId} {f0 f1 f2 : Field} {E : TypeId} {n : Nat} {b off : Nat} {cs' : List Value} {y : DataW H × List MemPlace} (he : P.underlying e = some (.struct #[f0, f1, f2])) (hone : oneCellFields P #[f0, f1, f2] = true)
    (h0 : P.underlying f0.type = some (.int .i64)) (h1 : P.underlying f1.type = some (.int .i64)) (h2 : P.underlying f2.type = some (.slice E)) (hE : P.underlying E = some (.int .u8)) (cE : P.cellsOf E = 1)
    (hc : W.cells? base ⟨b, off, none⟩ 3 = some cs') (h : DataW.trod enc P W base (fun _ => true) true n e cs' = some y) : ∃ f : Dd, DdCell W b off f ∧ DdOk f := by
  obtain ⟨_, hlen, hcell⟩ := World.cells?_some hc
  obtain ⟨y0, y1, y2, k, hx, _, t0, t1, t2⟩ := trod_struct3 he h
  obtain ⟨o0, k0⟩ := hone_of hone 0 f0 rfl
  obtain ⟨o1, k1⟩ := hone_of hone 1 f1 rfl
  obtain ⟨o2, k2⟩ := hone_of hone 2 f2 rfl
  match cs', hlen with
  | [c0, c1, c2], _ =>
    have e0 := hcell 0 (by omega)
    have e1 := hcell 1 (by omega)
    have e2 := hcell 2 (by omega)
    simp [o0, k0] at t0
    simp [o1, k1] at t1
    simp [o2, k2] at t2
    obtain ⟨a, q0, _, wa⟩ := DataW.trod_int h0 t0
    obtain ⟨c, q1, _, wc⟩ := DataW.trod_int h1 t1
    simp at q0 q1
    subst q0 q1
    obtain ⟨A, m, d, l, rfl, z1, z2, z3, z4, z5⟩ := open_bytes_cell h2 hE cE t2
    subst z1
    refine ⟨⟨a, c, l⟩, ⟨A, d, ?_, ?_, ?_, z2, z3, z4⟩, wf_i64b wa, wf_i64b wc, z5⟩
    · simpa [Addr.add] using e0
    · simpa [Addr.add] using e1
    · simpa [Addr.add] using e2
theorem open_deeds {t e : TypeId} {f0 f1 f2 : Field} {E : TypeId} {r : Reach} {b0 : Nat} {v : Value} {d : DataW H} {p : List MemPlace} (ht : P.underlying t = some (.slice e)) (he : P.underlying e = some (.struct #[f0, f1, f2])) (hone : oneCellFields P #[f0, f1, f2] = true) (ce : P.cellsOf e = 3)
    (h0 : P.underlying f0.type = some (.int .i64)) (h1 : P.underlying f1.type = some (.int .i64)) (h2 : P.underlying f2.type = some (.slice E)) (hE : P.underlying E = some (.int .u8)) (cE : P.cellsOf E = 1)
    (hv : Value.okWide P W r b0 t v) (h : DataW.Trod enc P W base (fun _ => true) true t v d p) : ∃ A n c F, v = .slice A n c ∧ F.length = n ∧ n ≤ c ∧ c ≤ maxLen ∧ RdDd W A F ∧ ∀ f ∈ F, DdOk f := by
  obtain ⟨A0, n0, c0, rfl⟩ := okWide_slice ht hv
  obtain ⟨fuel, hf⟩ := h
  rcases open_slice ht hf with ⟨hcs, _⟩ | ⟨a, len, cap, m, k, D, Pl, hcs, _, hl, hm, hmm, _, hel⟩
  · simp [Value.cells] at hcs
    obtain ⟨rfl, rfl, rfl⟩ := hcs
    exact ⟨none, 0, 0, [], rfl, rfl, Nat.le_refl _, by unfold maxLen; omega, .inl rfl, by simp⟩
  · simp [Value.cells] at hcs
    obtain ⟨rfl, rfl, rfl⟩ := hcs
    simp only [if_true] at hmm
    subst hmm
    rw [ce] at hel
    by_cases hz : n0 = 0
    · subst hz
      exact ⟨some a, 0, m, [], rfl, rfl, Nat.zero_le _, hm, .inl rfl, by simp⟩
    · obtain ⟨b, off, spot⟩ := a
      have hs : spot = none := by
        obtain ⟨cs', hc, _⟩ := hel 0 (by omega)
        obtain ⟨_, hlen, hcell⟩ := World.cells?_some hc
        have h3 := hcell 0 (by omega)
        rw [List.getElem?_eq_getElem (by omega)] at h3
        simpa [Addr.add] using World.cell?_spot h3
      subst hs
      obtain ⟨g, hg⟩ := choose_lt (α := Dd) (p := fun i f => DdCell W b (off + i * 3) f ∧ DdOk f) (n := m) (fun i hi => by
        obtain ⟨cs', hc, ht'⟩ := hel i hi
        rw [add_plain] at hc
        exact open_dd_cells he hone h0 h1 h2 hE cE hc ht')
      refine ⟨_, _, _, (List.range n0).map g, rfl, by simp, hl, hm, .inr ⟨b, off, rfl, fun i hi => ?_⟩, fun f hf => ?_⟩
      · have hi' : i < n0 := by simpa using hi
        have e : dd_ ((List.range n0).map g) i = g i := by simp [dd_, hi']
        rw [e]
        exact (hg i (by omega)).1
      · obtain ⟨i, hi, rfl⟩ := List.mem_map.1 hf
        have hi' : i < n0 := by simpa using hi
        exact (hg i (by omega)).2
end
end Go.Proofs.Ytoeaffmlolapnaa
