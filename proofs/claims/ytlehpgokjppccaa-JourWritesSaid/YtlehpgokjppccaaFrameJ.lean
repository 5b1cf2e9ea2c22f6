/- The argument 'api.Frame' (two ints, and bytes) by value, opened. -/
import Derived.Test.YtlehpgokjppccaaFrameH
namespace Go.Proofs.Ytlehpgokjppccaa
open Go.ChangeShapes Go.WideShapes Go.ChangeAt Go.RowKit Go.Deep
set_option maxRecDepth 100000

section
variable {H : Type} {enc : TypeId × Value → H} {P : Program} {W : World} {base : Nat}
theorem open_frame {t : TypeId} {f0 f1 f2 : Field} {E : TypeId} {r : Reach} {b0 : Nat} {v : Value} {d : DataW H} {p : List MemPlace} (hs : P.underlying t = some (.struct #[f0, f1, f2])) (hone : oneCellFields P #[f0, f1, f2] = true) (hC : P.cellsOf t = 3)
    (h0 : P.underlying f0.type = some (.int .i64)) (h1 : P.underlying f1.type = some (.int .i64)) (h2 : P.underlying f2.type = some (.slice E)) (hE : P.underlying E = some (.int .u8)) (cE : P.cellsOf E = 1)
    (hv : Value.okWide P W r b0 t v) (h : DataW.Trod enc P W base (fun _ => true) true t v d p) :
    ∃ pg cm A n c l, v = .agg #[.int .i64 pg, .int .i64 cm, .slice A n c] ∧ i64ok pg ∧ i64ok cm ∧ l.length = n ∧ n ≤ c ∧ c ≤ maxLen ∧ Rd W A l ∧ IsB l := by
  obtain ⟨c0, c1, c2, y0, y1, y2, m, rfl, rfl, rfl, hy0, hy1, hy2⟩ := Go.Joins.open_agg3 hs hone hC hv h
  obtain ⟨a, e0, _, wa⟩ := DataW.trod_int h0 hy0
  obtain ⟨b, e1, _, wb⟩ := DataW.trod_int h1 hy1
  simp at e0 e1
  subst e0 e1
  obtain ⟨A, n, c, l, rfl, k1, k2, k3, k4, k5⟩ := open_bytes_cell h2 hE cE hy2
  exact ⟨a, b, A, n, c, l, rfl, wf_i64b wa, wf_i64b wb, k1, k2, k3, k4, k5⟩
end
end Go.Proofs.Ytlehpgokjppccaa
