/- A file's head: a result's cells. -/
import Derived.Test.YtlehpgokjppccaaHdG
import Derived.Deep.MidRow
namespace Go.Proofs.Ytlehpgokjppccaa
open Go.RowKit
set_option maxRecDepth 100000

/-- A result's cells, still zero. -/
def HdZ (w : World) (g : Nat) : Prop := ∀ i, i < 6 → w.cell? ⟨g, i, none⟩ = some (.int .i64 0) ∧ w.frozen? ⟨g, i, none⟩ = false
theorem HdZ.keep {w w' : World} {g : Nat} (h : HdZ w g) (hb : Below w.heap.size w w') (hg : g < w.heap.size) : HdZ w' g := fun i hi => ⟨(hb.cell hg).trans (h i hi).1, (hb.frozen hg).trans (h i hi).2⟩
theorem HdZ.all {w : World} {g : Nat} (h : HdZ w g) : w.cell? ⟨g, 0, none⟩ = some (.int .i64 0) ∧ w.cell? ⟨g, 1, none⟩ = some (.int .i64 0) ∧ w.cell? ⟨g, 2, none⟩ = some (.int .i64 0) ∧ w.cell? ⟨g, 3, none⟩ = some (.int .i64 0) ∧ w.cell? ⟨g, 4, none⟩ = some (.int .i64 0) ∧ w.cell? ⟨g, 5, none⟩ = some (.int .i64 0) ∧
    w.frozen? ⟨g, 0, none⟩ = false ∧ w.frozen? ⟨g, 1, none⟩ = false ∧ w.frozen? ⟨g, 2, none⟩ = false ∧ w.frozen? ⟨g, 3, none⟩ = false ∧ w.frozen? ⟨g, 4, none⟩ = false ∧ w.frozen? ⟨g, 5, none⟩ = false :=
  ⟨(h 0 (by decide)).1, (h 1 (by decide)).1, (h 2 (by decide)).1, (h 3 (by decide)).1, (h 4 (by decide)).1, (h 5 (by decide)).1, (h 0 (by decide)).2, (h 1 (by decide)).2, (h 2 (by decide)).2, (h 3 (by decide)).2, (h 4 (by decide)).2, (h 5 (by decide)).2⟩
theorem HdZ.there {w : World} {g : Nat} (h : HdZ w g) : w.there g 0 6 := fun j hj => by
  obtain ⟨h1, h2⟩ := h j hj
  rw [Nat.zero_add]
  exact ⟨by rw [h1]; rfl, h2⟩
theorem HdZ.stored {w : World} {g : Nat} (h : w.there g 0 6) (z : Hd) : HdAt (w.setCells g 0 [.int .i64 z.s, .int .i64 z.p, .int .i64 z.f, .int .i64 z.m, .int .i64 z.c, .int .i64 z.v]) g z := by
  intro i hi
  have hr := World.rangeAt_setCells_same w g 0 [.int .i64 z.s, .int .i64 z.p, .int .i64 z.f, .int .i64 z.m, .int .i64 z.c, .int .i64 z.v] h
  have := hr i (.int .i64 (z.list.getD i 0)) (by rcases (by omega : i = 0 ∨ i = 1 ∨ i = 2 ∨ i = 3 ∨ i = 4 ∨ i = 5) with rfl | rfl | rfl | rfl | rfl | rfl <;> rfl)
  rwa [Nat.zero_add] at this
theorem below_setCells {B : Nat} {w w' : World} (h : Below B w w') {b : Nat} (hb : B ≤ b) : ∀ (o : Nat) (vs : List Value), Below B w (w'.setCells b o vs)
  | _, [] => h
  | o, _ :: r => below_setCells (h.setCell hb _) hb (o + 1) r
theorem size_head : (Try.prog.info? 23).map (·.size) = some 6 := by kernel_rfl


def Hd.cells (z : Hd) : List Value := [.int .i64 z.s, .int .i64 z.p, .int .i64 z.f, .int .i64 z.m, .int .i64 z.c, .int .i64 z.v]
theorem wp_store_hd {ops : Array Oper} {rest : List Oper} {op : Oper} {a : Act} {w : World} {Q : Exit → Act → World → Prop} (hgd : op.guard = none) (x y : Operand) (ho : op.op = .store 23 x y) (g : Nat) (z : Hd)
    (hx : a.eval x = .pointer (some ⟨g, 0, none⟩)) (hy : a.eval y = z.val) (ht : w.there g 0 6) (h : wpList Try.prog ops Q rest (a.put op.dst undef) (w.setCells g 0 z.cells)) : wpList Try.prog ops Q (op :: rest) a w :=
  wpList_store_mid hgd 23 x y ho g 0 z.cells.toArray hx hy ht size_head (all_oneCell_toArray (by intro v hv; simp [Hd.cells] at hv; rcases hv with rfl | rfl | rfl | rfl | rfl | rfl <;> rfl)) h
theorem wp_load_hd {ops : Array Oper} {rest : List Oper} {op : Oper} {a : Act} {w : World} {Q : Exit → Act → World → Prop} (hgd : op.guard = none) (x : Operand) (ho : op.op = .load 23 x) (g : Nat) (z : Hd)
    (hx : a.eval x = .pointer (some ⟨g, 0, none⟩)) (hc : HdAt w g z) (h : wpList Try.prog ops Q rest (a.put op.dst z.val) w) : wpList Try.prog ops Q (op :: rest) a w :=
  wpList_load_mid hgd 23 x ho g 0 hx z.cells _ (fun j v hv => by
    rw [Nat.zero_add]
    have hj : j < 6 := (List.getElem?_eq_some_iff.1 hv).1
    rw [hc j hj]
    rcases (by omega : j = 0 ∨ j = 1 ∨ j = 2 ∨ j = 3 ∨ j = 4 ∨ j = 5) with rfl | rfl | rfl | rfl | rfl | rfl <;> exact hv) Try.underlying23 rfl size_head h
theorem HdZ.at {w : World} {g : Nat} (h : w.there g 0 6) (z : Hd) : HdAt (w.setCells g 0 z.cells) g z := HdZ.stored h z
end Go.Proofs.Ytlehpgokjppccaa
