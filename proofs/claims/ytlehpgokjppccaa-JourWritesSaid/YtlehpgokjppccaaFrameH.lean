/- The argument 'api.Head' (six ints) by value, opened. -/
import Derived.Test.YtlehpgokjppccaaFrameN
import Derived.Test.YtlehpgokjppccaaHdA
namespace Go.Proofs.Ytlehpgokjppccaa
open Go.ChangeShapes Go.WideShapes Go.ChangeAt Go.RowKit Go.Deep
set_option maxRecDepth 100000

section
variable {H : Type} {enc : TypeId × Value → H} {P : Program} {W : World} {base : Nat}
theorem open_head {t : TypeId} {f0 f1 f2 f3 f4 f5 : Field} {r : Reach} {b0 : Nat} {v : Value} {d : DataW H} {p : List MemPlace} (hs : P.underlying t = some (.struct #[f0, f1, f2, f3, f4, f5])) (hone : oneCellFields P #[f0, f1, f2, f3, f4, f5] = true) (hC : P.cellsOf t = 6)
    (h0 : P.underlying f0.type = some (.int .i64)) (h1 : P.underlying f1.type = some (.int .i64)) (h2 : P.underlying f2.type = some (.int .i64)) (h3 : P.underlying f3.type = some (.int .i64)) (h4 : P.underlying f4.type = some (.int .i64)) (h5 : P.underlying f5.type = some (.int .i64))
    (hv : Value.okWide P W r b0 t v) (h : DataW.Trod enc P W base (fun _ => true) true t v d p) : ∃ h : Hd, v = h.val ∧ h.ok := by
  obtain ⟨cs, rfl, hsz⟩ := okWide_struct hs hv
  obtain ⟨c0, c1, c2, c3, c4, c5, rfl⟩ : ∃ c0 c1 c2 c3 c4 c5, cs = #[c0, c1, c2, c3, c4, c5] := by
    have h6 : cs.toList.length = 6 := by simpa using hsz.trans hC
    obtain ⟨l⟩ := cs
    match l, h6 with
    | [a, b, c, d, e, f], _ => exact ⟨a, b, c, d, e, f, rfl⟩
  obtain ⟨fuel, hf⟩ := h
  obtain ⟨xs, n, _, _, hl, hlen, hf⟩ := DataW.trod_struct hs hf
  match xs, hlen with
  | [y0, y1, y2, y3, y4, y5], _ =>
    obtain ⟨o0, k0⟩ := hone_of hone 0 f0 rfl
    obtain ⟨a0, e0, _, w0⟩ := DataW.trod_int (cs := [c0]) h0 (by simpa [Value.cells, o0, k0] using hf 0 f0 rfl)
    simp at e0
    subst e0
    obtain ⟨o1, k1⟩ := hone_of hone 1 f1 rfl
    obtain ⟨a1, e1, _, w1⟩ := DataW.trod_int (cs := [c1]) h1 (by simpa [Value.cells, o1, k1] using hf 1 f1 rfl)
    simp at e1
    subst e1
    obtain ⟨o2, k2⟩ := hone_of hone 2 f2 rfl
    obtain ⟨a2, e2, _, w2⟩ := DataW.trod_int (cs := [c2]) h2 (by simpa [Value.cells, o2, k2] using hf 2 f2 rfl)
    simp at e2
    subst e2
    obtain ⟨o3, k3⟩ := hone_of hone 3 f3 rfl
    obtain ⟨a3, e3, _, w3⟩ := DataW.trod_int (cs := [c3]) h3 (by simpa [Value.cells, o3, k3] using hf 3 f3 rfl)
    simp at e3
    subst e3
    obtain ⟨o4, k4⟩ := hone_of hone 4 f4 rfl
    obtain ⟨a4, e4, _, w4⟩ := DataW.trod_int (cs := [c4]) h4 (by simpa [Value.cells, o4, k4] using hf 4 f4 rfl)
    simp at e4
    subst e4
    obtain ⟨o5, k5⟩ := hone_of hone 5 f5 rfl
    obtain ⟨a5, e5, _, w5⟩ := DataW.trod_int (cs := [c5]) h5 (by simpa [Value.cells, o5, k5] using hf 5 f5 rfl)
    simp at e5
    subst e5
    exact ⟨⟨a0, a1, a2, a3, a4, a5⟩, rfl, wf_i64b w0, wf_i64b w1, wf_i64b w2, wf_i64b w3, wf_i64b w4, wf_i64b w5⟩
end
end Go.Proofs.Ytlehpgokjppccaa
