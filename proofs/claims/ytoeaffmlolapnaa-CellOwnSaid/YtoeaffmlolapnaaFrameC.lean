/- The argument 'api.Cell' (four ints, and bytes) by value, opened. -/
import Derived.Test.YtoeaffmlolapnaaFrameN
import Derived.Test.YtoeaffmlolapnaaClP
namespace Go.Proofs.Ytoeaffmlolapnaa
open Go.ChangeShapes Go.WideShapes Go.ChangeAt Go.RowKit Go.Deep
set_option maxRecDepth 100000

section
variable {H : Type} {enc : TypeId × Value → H} {P : Program} {W : World} {base : Nat}
theorem open_cell {t : TypeId} {f0 f1 f2 f3 f4 : Field} {E : TypeId} {r : Reach} {b0 : Nat} {v : Value} {d : DataW H} {p : List MemPlace} (hs : P.underlying t = some (.struct #[f0, f1, f2, f3, f4])) (hone : oneCellFields P #[f0, f1, f2, f3, f4] = true) (hC : P.cellsOf t = 5)
    (h0 : P.underlying f0.type = some (.int .i64)) (h1 : P.underlying f1.type = some (.int .i64)) (h2 : P.underlying f2.type = some (.int .i64)) (h3 : P.underlying f3.type = some (.slice E)) (hE : P.underlying E = some (.int .u8)) (cE : P.cellsOf E = 1) (h4 : P.underlying f4.type = some (.int .i64))
    (hv : Value.okWide P W r b0 t v) (h : DataW.Trod enc P W base (fun _ => true) true t v d p) : ∃ (c : Cl) (A : Option Addr) (n k : Nat), v = c.val A n k ∧ c.ok ∧ c.loc.length = n ∧ n ≤ k ∧ k ≤ maxLen ∧ Rd W A c.loc ∧ IsB c.loc := by
  obtain ⟨cs, rfl, hsz⟩ := okWide_struct hs hv
  obtain ⟨c0, c1, c2, c3, c4, rfl⟩ : ∃ c0 c1 c2 c3 c4, cs = #[c0, c1, c2, c3, c4] := by
    have h6 : cs.toList.length = 5 := by simpa using hsz.trans hC
    obtain ⟨l⟩ := cs
    match l, h6 with
    | [a, b, c, d, e], _ => exact ⟨a, b, c, d, e, rfl⟩
  obtain ⟨fuel, hf⟩ := h
  obtain ⟨xs, n, _, _, hl, hlen, hf⟩ := DataW.trod_struct hs hf
  match xs, hlen with
  | [y0, y1, y2, y3, y4], _ =>
    obtain ⟨o0, k0⟩ := hone_of hone 0 f0 rfl
    obtain ⟨a0, e0, _, w0⟩ := DataW.trod_int (cs := [c0]) h0 (by simpa [Value.cells, o0, k0] using hf 0 f0 rfl)
    simp at e0
    subst e0
    obtain ⟨o1, k1⟩ := hone_of hone 1 f1 rfl
    obtain ⟨a1, e1, _, w1⟩ := DataW.trod_int (cs := [c1]) h1 (by simpa [Value.cells, o1, k1] using hf 1 f1 rfl)
    simp at e1
    subst e1
    obtain ⟨o2, k2⟩ := hone_of hone 2 f2 rfl
    obtain ⟨a2, e2, _, w2⟩ := DataW.trod_int (cs := [c2]) h2 (by simpa [Value.cells, o2, k2] using hf 2 f2 rfl)
    simp at e2
    subst e2
    obtain ⟨o3, k3⟩ := hone_of hone 3 f3 rfl
    obtain ⟨A, m, c, l, q3, z1, z2, z3, z4, z5⟩ := open_bytes_cell (v := c3) h3 hE cE (by simpa [Value.cells, o3, k3] using hf 3 f3 rfl)
    subst q3
    obtain ⟨o4, k4⟩ := hone_of hone 4 f4 rfl
    obtain ⟨a4, e4, _, w4⟩ := DataW.trod_int (cs := [c4]) h4 (by simpa [Value.cells, o4, k4] using hf 4 f4 rfl)
    simp at e4
    subst e4
    exact ⟨⟨a0, a1, a2, a4, l⟩, A, m, c, rfl, ⟨wf_i64b w0, wf_i64b w1, wf_i64b w2, wf_i64b w4⟩, z1, z2, z3, z4, z5⟩
end
end Go.Proofs.Ytoeaffmlolapnaa
