/- The argument 'Place' (bytes, and an int) by value, opened. -/
import Derived.Test.YtbbdglikdogmhaaFrame
import Derived.Lib.SmallJoins
import Derived.SizedLaws
namespace Go.Proofs.Ytbbdglikdogmhaa
open Go.ChangeShapes Go.WideShapes Go.ChangeAt Go.RowKit Go.Deep
set_option maxRecDepth 100000

section
variable {H : Type} {enc : TypeId × Value → H} {P : Program} {W : World} {base : Nat}
theorem open_bytes_cell {T E : TypeId} {v : Value} {n : Nat} {y : DataW H × List MemPlace} (hT : P.underlying T = some (.slice E)) (hE : P.underlying E = some (.int .u8)) (cE : P.cellsOf E = 1)
    (hf : DataW.trod enc P W base (fun _ => true) true n T [v] = some y) :
    ∃ A n c l, v = .slice A n c ∧ l.length = n ∧ n ≤ c ∧ c ≤ maxLen ∧ Rd W A l ∧ IsB l := by
  rcases open_ints hT hE cE hf with ⟨hcs, _⟩ | ⟨x, l, c', zs, hcs, _, hl, hm, hz, _, hcell, hwz⟩
  · simp at hcs
    subst hcs
    exact ⟨none, 0, 0, [], rfl, rfl, Nat.le_refl _, by unfold maxLen; omega, .inl rfl, by simp [IsB]⟩
  · simp at hcs
    subst hcs
    have hz' : zs.length = c' := by simpa using hz
    refine ⟨_, _, _, zs.take l, rfl, by simp; omega, hl, hm, rd_of_cells (by omega) hcell, fun y hy => wf_byte (hwz y (List.mem_of_mem_take hy))⟩

theorem open_bytes_d {T E : TypeId} {r : Reach} {b0 : Nat} {v : Value} {d : DataW H} {p : List MemPlace} (hT : P.underlying T = some (.slice E)) (hE : P.underlying E = some (.int .u8)) (cE : P.cellsOf E = 1)
    (hv : Value.okWide P W r b0 T v) (h : DataW.Trod enc P W base (fun _ => true) true T v d p) :
    ∃ A n c l, v = .slice A n c ∧ l.length = n ∧ n ≤ c ∧ c ≤ maxLen ∧ Rd W A l ∧ IsB l ∧ (n = 0 ∨ ∃ es sp, d = .slice es sp ∧ es.length = n) := by
  obtain ⟨A, n, c, rfl⟩ := okWide_slice hT hv
  obtain ⟨fuel, hf⟩ := h
  rcases open_ints hT hE cE hf with ⟨hcs, _⟩ | ⟨x, l, c', zs, hcs, _, hl, hm, hz, hx, hcell, hwz⟩
  · simp [Value.cells] at hcs
    obtain ⟨rfl, rfl, rfl⟩ := hcs
    exact ⟨none, 0, 0, [], rfl, rfl, Nat.le_refl _, by unfold maxLen; omega, .inl rfl, by simp [IsB], .inl rfl⟩
  · simp [Value.cells] at hcs
    obtain ⟨rfl, rfl, rfl⟩ := hcs
    have hz' : zs.length = c := by simpa using hz
    simp only [Prod.mk.injEq] at hx
    refine ⟨_, _, _, zs.take n, rfl, by simp; omega, hl, hm, rd_of_cells (by omega) hcell, fun y hy => wf_byte (hwz y (List.mem_of_mem_take hy)), .inr ⟨_, _, hx.1, by simp [lits]; omega⟩⟩

theorem sized_bytes {ts : List TypeId} {ds : List (DataW H)} {j n : Nat} {T E : TypeId} {d : DataW H} (h : (DataW.weightsEach P ts ds).all (· ≤ reachBytes) = true) (ht : ts[j]? = some T) (hd : ds[j]? = some d) (hT : P.underlying T = some (.slice E)) (hb : P.bytesOf E = 1)
    (h0 : n = 0 ∨ ∃ es sp, d = .slice es sp ∧ es.length = n) : n ≤ 140737488351232 := by
  rcases h0 with rfl | ⟨es, sp, rfl, rfl⟩
  · omega
  · have := sized_slice h ht hd hT
    rw [hb] at this
    have e : reachBytes = 140737488351232 := rfl
    omega

theorem open_place {t : TypeId} {f0 f1 : Field} {E : TypeId} {r : Reach} {b0 : Nat} {v : Value} {d : DataW H} {p : List MemPlace} (hs : P.underlying t = some (.struct #[f0, f1])) (hone : oneCellFields P #[f0, f1] = true) (hC : P.cellsOf t = 2)
    (h0 : P.underlying f0.type = some (.slice E)) (hE : P.underlying E = some (.int .u8)) (cE : P.cellsOf E = 1) (h1 : P.underlying f1.type = some (.int .i64))
    (hv : Value.okWide P W r b0 t v) (h : DataW.Trod enc P W base (fun _ => true) true t v d p) :
    ∃ A n c l a, v = .agg #[.slice A n c, .int .i64 a] ∧ l.length = n ∧ n ≤ c ∧ c ≤ maxLen ∧ Rd W A l ∧ IsB l ∧ (-9223372036854775808 ≤ a ∧ a ≤ 9223372036854775807) := by
  obtain ⟨c0, c1, y0, y1, m, rfl, rfl, rfl, hy0, hy1⟩ := Go.Joins.open_agg2 hs hone hC hv h
  obtain ⟨A, n, c, l, rfl, e1, e2, e3, e4, e5⟩ := open_bytes_cell h0 hE cE hy0
  obtain ⟨a, e0, rfl, wa⟩ := DataW.trod_int h1 hy1
  simp at e0
  subst e0
  exact ⟨A, n, c, l, a, rfl, e1, e2, e3, e4, e5, wf_i64b wa⟩
end
end Go.Proofs.Ytbbdglikdogmhaa
