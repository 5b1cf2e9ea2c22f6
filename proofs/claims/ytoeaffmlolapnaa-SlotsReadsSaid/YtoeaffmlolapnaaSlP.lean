/- Pages of cells: memory. -/
import Derived.Test.YtoeaffmlolapnaaNumE
import Derived.Test.YtoeaffmlolapnaaSli
import Derived.Test.YtoeaffmlolapnaaGrow
import Derived.Laws.CopyOwn
import Derived.Deep.RegionHeld3
namespace Go.Proofs.Ytoeaffmlolapnaa
open Go.RowKit
set_option maxRecDepth 100000
set_option linter.unusedVariables false
set_option linter.unusedSimpArgs false
set_option linter.unnecessarySimpa false

/-- The number of two bytes. -/
def tw (L : List Int) (i : Nat) : Int := 256 * bt L i + bt L (i + 1)
theorem tw_bd {L : List Int} (h : IsB L) (i : Nat) : 0 ≤ tw L i ∧ tw L i ≤ 65535 := by
  have h0 := IsB.bt h i
  have h1 := IsB.bt h (i + 1)
  unfold tw
  omega
theorem read2 {L : List Int} (hB : IsB L) {i : Nat} (h : i + 2 ≤ L.length) : readL L i 2 = (tw L i, 0) := by
  have e := readL_ok (l := L) (p := i) (k := 2) (by omega) (by omega) h
  rw [show ((2 : Nat) : Int) = 2 from rfl] at e
  rw [e]
  have s1 := be_step (l := L) (p := i) (j := 0) (by omega)
  have s2 := be_step (l := L) (p := i) (j := 1) (by omega)
  rw [s2, s1]
  simp [beI, tw]
  omega

/-! ### laying bytes over bytes -/
theorem bt_splice {L cs : List Int} {o : Nat} (h : o + cs.length ≤ L.length) (x : Nat) : bt (splice L o cs) x = if o ≤ x ∧ x < o + cs.length then bt cs (x - o) else bt L x := by
  unfold splice bt
  simp only [List.getD_eq_getElem?_getD]
  by_cases h1 : x < o
  · rw [if_neg (by omega), List.getElem?_append_left (by simp; omega), List.getElem?_take, if_pos h1]
  · rw [List.getElem?_append_right (by simp; omega)]
    have e : x - (L.take o).length = x - o := by rw [List.length_take]; omega
    rw [e]
    by_cases h2 : x < o + cs.length
    · rw [if_pos (by omega), List.getElem?_append_left (by omega)]
    · rw [if_neg (by omega), List.getElem?_append_right (by omega), List.getElem?_drop]
      congr 2
      omega
theorem splice_len {L cs : List Int} {o : Nat} (h : o + cs.length ≤ L.length) : (splice L o cs).length = L.length := length_splice L o cs h
theorem splice_isB {L cs : List Int} (hL : IsB L) (hc : IsB cs) (o : Nat) : IsB (splice L o cs) := by
  intro x hx
  unfold splice at hx
  rcases List.mem_append.1 hx with h | h
  · exact hL x (List.mem_of_mem_take h)
  · rcases List.mem_append.1 h with h | h
    · exact hc x h
    · exact hL x (List.mem_of_mem_drop h)
theorem splice_nil (L : List Int) (o : Nat) : splice L o [] = L := by simp [splice]
theorem vb_splice (L cs : List Int) (X : List Value) (o : Nat) (h : o + cs.length ≤ L.length) : splice (vb L ++ X) o (vb cs) = vb (splice L o cs) ++ X := by
  unfold splice
  rw [List.take_append_of_le_length (by rw [vb_length]; omega), List.drop_append_of_le_length (by rw [vb_length, vb_length]; omega)]
  simp [vb, List.map_take, List.map_drop]
theorem bt_fx2 {v : Int} (h0 : 0 ≤ v) (h1 : v ≤ 65535) : bt (fxL v 2) 0 = v / 256 ∧ bt (fxL v 2) 1 = v % 256 := by
  simp [fxL, bt]
  omega
theorem tw_set {L : List Int} {v : Int} (h0 : 0 ≤ v) (h1 : v ≤ 65535) {i : Nat} (h : i + 2 ≤ L.length) : tw (splice L i (fxL v 2)) i = v := by
  have hl := fxL_length v 2
  obtain ⟨a, b⟩ := bt_fx2 h0 h1
  unfold tw
  rw [bt_splice (by omega), bt_splice (by omega), if_pos (by omega), if_pos (by omega), Nat.sub_self, show i + 1 - i = 1 by omega, a, b]
  omega
theorem tw_out {L cs : List Int} {o i : Nat} (h : o + cs.length ≤ L.length) (hi : i + 2 ≤ o ∨ o + cs.length ≤ i) : tw (splice L o cs) i = tw L i := by
  unfold tw
  rw [bt_splice h, bt_splice h, if_neg (by omega), if_neg (by omega)]
/-! ### a page in memory -/
/-- All but one block of old is as it was. -/
structure Mut (w : World) (gb : Nat) (w' : World) : Prop where
  os : w'.os = w.os
  tape : w'.tape = w.tape
  output : w'.output = w.output
  size : w.heap.size ≤ w'.heap.size
  block : ∀ k, k < w.heap.size → k ≠ gb → w'.heap[k]? = w.heap[k]?
theorem Mut.refl (w : World) (gb : Nat) : Mut w gb w := ⟨rfl, rfl, rfl, Nat.le_refl _, fun _ _ _ => rfl⟩
theorem Mut.trans {w w1 w2 : World} {gb : Nat} (h : Mut w gb w1) (k : Mut w1 gb w2) : Mut w gb w2 :=
  ⟨k.os.trans h.os, k.tape.trans h.tape, k.output.trans h.output, Nat.le_trans h.size k.size, fun i hi hg => (k.block i (Nat.lt_of_lt_of_le hi h.size) hg).trans (h.block i hi hg)⟩
theorem Mut.of {w w' : World} (h : Below w.heap.size w w') (gb : Nat) : Mut w gb w' := ⟨h.os, h.tape, h.output, h.size, fun k hk _ => h.block k hk⟩
theorem Mut.row (w : World) (gb : Nat) (cs : Array Value) : Mut w gb (w.setRow gb cs) := ⟨rfl, rfl, rfl, by simp, fun k _ hk => setRow_other w gb k cs hk⟩
theorem Mut.below {w0 w w' : World} {gb B : Nat} (h : Mut w gb w') (h0 : Below B w0 w) (hB : B ≤ gb) (hw : B ≤ w.heap.size) : Below B w0 w' :=
  h0.trans ⟨h.os, h.tape, h.output, h.size, fun k hk => h.block k (by omega) (by omega)⟩
theorem Mut.drew {w w' : World} {gb : Nat} (h : Mut w gb w') : Mut w gb w'.drew := ⟨h.os, h.tape, h.output, h.size, h.block⟩
/-- The block of a page's bytes. -/
def Row (w : World) (gb : Nat) (L : List Int) (X : List Value) : Prop := w.heap[gb]? = some (.cells (vb L ++ X).toArray 5 (0, 0))
structure Pg (w : World) (g gb c h : Nat) (L : List Int) (X : List Value) : Prop where
  head : w.heap[g]? = some (.cells #[.slice (some ⟨gb, 0, none⟩) L.length c, .int .i64 (h : Int)] 91 (0, 0))
  row : Row w gb L X
  cap : L.length + X.length = c
  most : c ≤ maxLen
  byts : IsB L
theorem Row.keep {w w' : World} {gb : Nat} {L : List Int} {X : List Value} (h : Row w gb L X) (hb : Below w.heap.size w w') : Row w' gb L X :=
  (hb.block gb (Array.getElem?_eq_some_iff.1 h).1).trans h
theorem Pg.lt {w : World} {g gb c h : Nat} {L : List Int} {X : List Value} (p : Pg w g gb c h L X) : g < w.heap.size ∧ gb < w.heap.size := ⟨(Array.getElem?_eq_some_iff.1 p.head).1, (Array.getElem?_eq_some_iff.1 p.row).1⟩
theorem Pg.ne {w : World} {g gb c h : Nat} {L : List Int} {X : List Value} (p : Pg w g gb c h L X) : g ≠ gb := by
  intro e
  have h1 := p.head
  rw [e, p.row] at h1
  injection h1 with h1
  injection h1 with _ h2 _
  exact absurd h2 (by decide)
theorem Pg.keep {w w' : World} {g gb c h : Nat} {L : List Int} {X : List Value} (p : Pg w g gb c h L X) (hb : Below w.heap.size w w') : Pg w' g gb c h L X :=
  ⟨(hb.block g p.lt.1).trans p.head, p.row.keep hb, p.cap, p.most, p.byts⟩
/-- Its bytes are others. -/
theorem Pg.mut {w w' : World} {g gb c h : Nat} {L L' : List Int} {X : List Value} (p : Pg w g gb c h L X) (hm : Mut w gb w') (hr : Row w' gb L' X) (hl : L'.length = L.length) (hB : IsB L') : Pg w' g gb c h L' X :=
  ⟨by rw [hl]; exact (hm.block g p.lt.1 p.ne).trans p.head, hr, by rw [hl]; exact p.cap, p.most, hB⟩
/-- Another page's bytes were changed. -/
theorem Pg.other {w w' : World} {g gb c h : Nat} {L : List Int} {X : List Value} (p : Pg w g gb c h L X) {gb' : Nat} (hm : Mut w gb' w') (h1 : g ≠ gb') (h2 : gb ≠ gb') : Pg w' g gb c h L X :=
  ⟨(hm.block g p.lt.1 h1).trans p.head, (hm.block gb p.lt.2 h2).trans p.row, p.cap, p.most, p.byts⟩
theorem heap_cell {w : World} {g i : Nat} {cs : Array Value} {t : TypeId} {fr : Nat × Nat} (h : w.heap[g]? = some (.cells cs t fr)) : w.cell? ⟨g, i, none⟩ = cs[i]? := by simp [World.cell?, h]
theorem Pg.m0 {w : World} {g gb c h : Nat} {L : List Int} {X : List Value} (p : Pg w g gb c h L X) : w.cell? ⟨g, 0, none⟩ = some (.slice (some ⟨gb, 0, none⟩) L.length c) := by rw [heap_cell p.head]; rfl
theorem Pg.m1 {w : World} {g gb c h : Nat} {L : List Int} {X : List Value} (p : Pg w g gb c h L X) : w.cell? ⟨g, 1, none⟩ = some (.int .i64 (h : Int)) := by rw [heap_cell p.head]; rfl
theorem Pg.rd {w : World} {g gb c h : Nat} {L : List Int} {X : List Value} (p : Pg w g gb c h L X) : Rd w (some ⟨gb, 0, none⟩) L := by
  refine .inr ⟨gb, 0, rfl, fun i hi => ?_⟩
  rw [heap_cell p.row, Nat.zero_add, List.getElem?_toArray, List.getElem?_append_left (by rw [vb_length]; exact hi), bt_lt hi]
  simp [vb, hi]
theorem Pg.len {w : World} {g gb c h : Nat} {L : List Int} {X : List Value} (p : Pg w g gb c h L X) : L.length ≤ c ∧ c ≤ 9223372036854775807 := by
  have := p.cap
  have := p.most
  unfold maxLen at this
  omega
end Go.Proofs.Ytoeaffmlolapnaa
