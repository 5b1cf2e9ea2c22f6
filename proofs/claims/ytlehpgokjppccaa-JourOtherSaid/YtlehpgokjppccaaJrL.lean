/- Journals and frames in cells: stored, loaded by value. -/
import Derived.Test.YtlehpgokjppccaaJrG
import Derived.Test.YtlehpgokjppccaaFr
namespace Go.Proofs.Ytlehpgokjppccaa
open Go.RowKit
set_option maxRecDepth 100000

/-- A Made, or a Journal, lies in a block. -/
def MdAt (w : World) (g : Nat) (s p k : Int) (A : Option Addr) (m c : Nat) : Prop := w.cell? ⟨g, 0, none⟩ = some (.int .i64 s) ∧ w.cell? ⟨g, 1, none⟩ = some (.int .i64 p) ∧ w.cell? ⟨g, 2, none⟩ = some (.int .u64 k) ∧ w.cell? ⟨g, 3, none⟩ = some (.slice A m c)
theorem MdAt.keep {w w' : World} {g : Nat} {s p k : Int} {A : Option Addr} {m c : Nat} (h : MdAt w g s p k A m c) (hb : Below w.heap.size w w') : MdAt w' g s p k A m c :=
  ⟨(hb.cell (World.block_lt_of_cell? _ _ h.1)).trans h.1, (hb.cell (World.block_lt_of_cell? _ _ h.2.1)).trans h.2.1, (hb.cell (World.block_lt_of_cell? _ _ h.2.2.1)).trans h.2.2.1, (hb.cell (World.block_lt_of_cell? _ _ h.2.2.2)).trans h.2.2.2⟩
theorem there_keep {w w' : World} {g n : Nat} (h : w.there g 0 n) (hb : Below w.heap.size w w') (hg : g < w.heap.size) : w'.there g 0 n := fun j hj => by
  obtain ⟨h1, h2⟩ := h j hj
  exact ⟨by rw [hb.cell (by simpa using hg)]; exact h1, by rw [hb.frozen (by simpa using hg)]; exact h2⟩
def jnC (s p k : Int) (A : Option Addr) (m c : Nat) : List Value := [.int .i64 s, .int .i64 p, .int .u64 k, .slice A m c]
def frC (pg cm : Int) (A : Option Addr) (n c : Nat) : List Value := [.int .i64 pg, .int .i64 cm, .slice A n c]
theorem MdAt.range {w : World} {g : Nat} {s p k : Int} {A : Option Addr} {m c : Nat} (h : MdAt w g s p k A m c) : w.rangeAt g 0 (jnC s p k A m c) := fun j v hv => by
  rw [Nat.zero_add]
  have hj : j < 4 := (List.getElem?_eq_some_iff.1 hv).1
  rcases (by omega : j = 0 ∨ j = 1 ∨ j = 2 ∨ j = 3) with rfl | rfl | rfl | rfl
  · rw [h.1]; exact hv
  · rw [h.2.1]; exact hv
  · rw [h.2.2.1]; exact hv
  · rw [h.2.2.2]; exact hv
theorem MdAt.of {w : World} {g : Nat} {s p k : Int} {A : Option Addr} {m c : Nat} (h : w.rangeAt g 0 (jnC s p k A m c)) : MdAt w g s p k A m c := by
  have h0 := h 0 _ rfl
  have h1 := h 1 _ rfl
  have h2 := h 2 _ rfl
  have h3 := h 3 _ rfl
  exact ⟨by simpa using h0, by simpa using h1, by simpa using h2, by simpa using h3⟩
theorem FrAt.range {w : World} {g : Nat} {pg cm : Int} {A : Option Addr} {m c : Nat} (h : FrAt w g pg cm A m c) : w.rangeAt g 0 (frC pg cm A m c) := fun j v hv => by
  rw [Nat.zero_add]
  have hj : j < 3 := (List.getElem?_eq_some_iff.1 hv).1
  rcases (by omega : j = 0 ∨ j = 1 ∨ j = 2) with rfl | rfl | rfl
  · rw [h.1]; exact hv
  · rw [h.2.1]; exact hv
  · rw [h.2.2]; exact hv
theorem FrAt.of {w : World} {g : Nat} {pg cm : Int} {A : Option Addr} {m c : Nat} (h : w.rangeAt g 0 (frC pg cm A m c)) : FrAt w g pg cm A m c := by
  have h0 := h 0 _ rfl
  have h1 := h 1 _ rfl
  have h2 := h 2 _ rfl
  exact ⟨by simpa using h0, by simpa using h1, by simpa using h2⟩
theorem MdAt.stored {w : World} {g : Nat} (h : w.there g 0 4) (s p k : Int) (A : Option Addr) (m c : Nat) : MdAt (w.setCells g 0 (jnC s p k A m c)) g s p k A m c := MdAt.of (World.rangeAt_setCells_same w g 0 _ h)
theorem FrAt.stored {w : World} {g : Nat} (h : w.there g 0 3) (pg cm : Int) (A : Option Addr) (m c : Nat) : FrAt (w.setCells g 0 (frC pg cm A m c)) g pg cm A m c := FrAt.of (World.rangeAt_setCells_same w g 0 _ h)
theorem size_jn : (Try.prog.info? 48).map (·.size) = some 4 := by kernel_rfl
theorem size_fr : (Try.prog.info? 53).map (·.size) = some 3 := by kernel_rfl

theorem wp_store_jn {ops : Array Oper} {rest : List Oper} {op : Oper} {a : Act} {w : World} {Q : Exit → Act → World → Prop} (hgd : op.guard = none) (x y : Operand) (ho : op.op = .store 48 x y) (g : Nat) (s p k : Int) (A : Option Addr) (m c : Nat)
    (hx : a.eval x = .pointer (some ⟨g, 0, none⟩)) (hy : a.eval y = .agg #[.int .i64 s, .int .i64 p, .int .u64 k, .slice A m c]) (ht : w.there g 0 4) (h : wpList Try.prog ops Q rest (a.put op.dst undef) (w.setCells g 0 (jnC s p k A m c))) : wpList Try.prog ops Q (op :: rest) a w :=
  wpList_store_mid hgd 48 x y ho g 0 (jnC s p k A m c).toArray hx hy ht size_jn (all_oneCell_toArray (by intro v hv; simp [jnC] at hv; rcases hv with rfl | rfl | rfl | rfl <;> rfl)) h
theorem wp_load_jn {ops : Array Oper} {rest : List Oper} {op : Oper} {a : Act} {w : World} {Q : Exit → Act → World → Prop} (hgd : op.guard = none) (x : Operand) (ho : op.op = .load 48 x) (g : Nat) (s p k : Int) (A : Option Addr) (m c : Nat)
    (hx : a.eval x = .pointer (some ⟨g, 0, none⟩)) (hc : MdAt w g s p k A m c) (h : wpList Try.prog ops Q rest (a.put op.dst (.agg #[.int .i64 s, .int .i64 p, .int .u64 k, .slice A m c])) w) : wpList Try.prog ops Q (op :: rest) a w :=
  wpList_load_mid hgd 48 x ho g 0 hx (jnC s p k A m c) _ hc.range Try.underlying48 rfl size_jn h
theorem wp_store_fr {ops : Array Oper} {rest : List Oper} {op : Oper} {a : Act} {w : World} {Q : Exit → Act → World → Prop} (hgd : op.guard = none) (x y : Operand) (ho : op.op = .store 53 x y) (g : Nat) (pg cm : Int) (A : Option Addr) (m c : Nat)
    (hx : a.eval x = .pointer (some ⟨g, 0, none⟩)) (hy : a.eval y = .agg #[.int .i64 pg, .int .i64 cm, .slice A m c]) (ht : w.there g 0 3) (h : wpList Try.prog ops Q rest (a.put op.dst undef) (w.setCells g 0 (frC pg cm A m c))) : wpList Try.prog ops Q (op :: rest) a w :=
  wpList_store_mid hgd 53 x y ho g 0 (frC pg cm A m c).toArray hx hy ht size_fr (all_oneCell_toArray (by intro v hv; simp [frC] at hv; rcases hv with rfl | rfl | rfl <;> rfl)) h
theorem wp_load_fr {ops : Array Oper} {rest : List Oper} {op : Oper} {a : Act} {w : World} {Q : Exit → Act → World → Prop} (hgd : op.guard = none) (x : Operand) (ho : op.op = .load 53 x) (g : Nat) (pg cm : Int) (A : Option Addr) (m c : Nat)
    (hx : a.eval x = .pointer (some ⟨g, 0, none⟩)) (hc : FrAt w g pg cm A m c) (h : wpList Try.prog ops Q rest (a.put op.dst (.agg #[.int .i64 pg, .int .i64 cm, .slice A m c])) w) : wpList Try.prog ops Q (op :: rest) a w :=
  wpList_load_mid hgd 53 x ho g 0 hx (frC pg cm A m c) _ hc.range Try.underlying53 rfl size_fr h

theorem run_loadJn (w : World) (g : Nat) (s p k : Int) (A : Option Addr) (m c : Nat) (hc : MdAt w g s p k A m c) : (loadVar 48 ⟨g, 0, none⟩).run Try.prog w = .ok (.agg #[.int .i64 s, .int .i64 p, .int .u64 k, .slice A m c]) w := by
  obtain ⟨k0, k1, k2, k3⟩ := hc
  simp [go_sem, loadVar, k0, k1, k2, k3]
theorem ret_jn {fn : Func} {R : Ending → World → Prop} {a : Act} {w : World} {q u : Tmp} {g : Nat} {s p k : Int} {A : Option Addr} {m c : Nat} (hres : fn.results = #[.cell q 48, .tmp u]) (hp : a.tmps.getD q undef = .pointer (some ⟨g, 0, none⟩)) (hc : MdAt w g s p k A m c) (hd : a.defers = [])
    (hR : R (.returned (.tuple #[.agg #[.int .i64 s, .int .i64 p, .int .u64 k, .slice A m c], a.tmps.getD u undef])) w) : bodyPost Try.prog fn R .ret a w := by
  refine bodyPost_ret (v := .tuple #[.agg #[.int .i64 s, .int .i64 p, .int .u64 k, .slice A m c], a.tmps.getD u undef]) ?_ hd hR
  rw [results_cell_tmp hres, hp]
  show ((loadVar 48 ⟨g, 0, none⟩).run Try.prog w).andThen _ = _
  rw [run_loadJn w g s p k A m c hc]
  rfl

/-- What is owned stands while a block below its base changes. -/
theorem OwnB.apart {w w' : World} {base : Nat} {A : Option Addr} {n c : Nat} {l : List Int} (h : OwnB w base A n c l) (hb : ∀ i, base ≤ i → w'.heap[i]? = w.heap[i]?) : OwnB w' base A n c l := by
  refine ⟨h.1, ?_⟩
  rcases h.2 with hv | ⟨g, cap, cur, hv, hbg, hg, rest⟩
  · exact .inl hv
  · exact .inr ⟨g, cap, cur, hv, hbg, (hb g hbg).trans hg, rest⟩
theorem OwnF.apart {w w' : World} {base : Nat} {A : Option Addr} {m c : Nat} {F : List Fr} (h : OwnF w base A m c F) (hb : ∀ i, base ≤ i → w'.heap[i]? = w.heap[i]?) : OwnF w' base A m c F := by
  obtain ⟨h1, cs, ⟨h2, h3⟩, h4⟩ := h
  refine ⟨h1, cs, ⟨h2, ?_⟩, fun i hi => ?_⟩
  · rcases h3 with hv | ⟨g, cap, cur, hv, hbg, hg, rest⟩
    · exact .inl hv
    · exact .inr ⟨g, cap, cur, hv, hbg, (hb g hbg).trans hg, rest⟩
  · obtain ⟨A, c, k1, k2, k3, k4⟩ := h4 i hi
    exact ⟨A, c, k1, k2, k3, k4.apart hb⟩
end Go.Proofs.Ytlehpgokjppccaa
