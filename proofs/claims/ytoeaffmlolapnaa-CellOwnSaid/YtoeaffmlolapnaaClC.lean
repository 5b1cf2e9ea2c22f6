/- Cells in memory; walks: cell.Encode, cell.Size. -/
import Derived.Test.YtoeaffmlolapnaaClA
import Derived.Test.YtoeaffmlolapnaaNumC
import Derived.Test.YtoeaffmlolapnaaJoin
import Derived.Test.YtoeaffmlolapnaaGrow
import Derived.Deep.MidRow
import Derived.Laws.ResultCell
import Derived.Lib.SmallJoins
namespace Go.Proofs.Ytoeaffmlolapnaa
open Go.RowKit
set_option maxRecDepth 100000

def clC (c : Cl) (A : Option Addr) (n d : Nat) : List Value := [.int .i64 c.key, .int .i64 c.child, .int .i64 c.total, .slice A n d, .int .i64 c.spill]
theorem ClAt.range {w : World} {g : Nat} {c : Cl} {A : Option Addr} {n d : Nat} (h : ClAt w g c A n d) : w.rangeAt g 0 (clC c A n d) := fun j v hv => by
  rw [Nat.zero_add]
  have hj : j < 5 := (List.getElem?_eq_some_iff.1 hv).1
  rcases (by omega : j = 0 ∨ j = 1 ∨ j = 2 ∨ j = 3 ∨ j = 4) with rfl | rfl | rfl | rfl | rfl
  · rw [h.1]; exact hv
  · rw [h.2.1]; exact hv
  · rw [h.2.2.1]; exact hv
  · rw [h.2.2.2.1]; exact hv
  · rw [h.2.2.2.2]; exact hv
theorem ClAt.of {w : World} {g : Nat} {c : Cl} {A : Option Addr} {n d : Nat} (h : w.rangeAt g 0 (clC c A n d)) : ClAt w g c A n d := by
  have h0 := h 0 _ rfl
  have h1 := h 1 _ rfl
  have h2 := h 2 _ rfl
  have h3 := h 3 _ rfl
  have h4 := h 4 _ rfl
  exact ⟨by simpa using h0, by simpa using h1, by simpa using h2, by simpa using h3, by simpa using h4⟩
theorem ClAt.stored {w : World} {g : Nat} (h : w.there g 0 5) (c : Cl) (A : Option Addr) (n d : Nat) : ClAt (w.setCells g 0 (clC c A n d)) g c A n d := ClAt.of (World.rangeAt_setCells_same w g 0 _ h)
theorem size_cl : (Try.prog.info? 55).map (·.size) = some 5 := by kernel_rfl
theorem wp_store_cl {ops : Array Oper} {rest : List Oper} {op : Oper} {a : Act} {w : World} {Q : Exit → Act → World → Prop} (hgd : op.guard = none) (x y : Operand) (ho : op.op = .store 55 x y) (g : Nat) (c : Cl) (A : Option Addr) (n d : Nat)
    (hx : a.eval x = .pointer (some ⟨g, 0, none⟩)) (hy : a.eval y = c.val A n d) (ht : w.there g 0 5) (h : wpList Try.prog ops Q rest (a.put op.dst undef) (w.setCells g 0 (clC c A n d))) : wpList Try.prog ops Q (op :: rest) a w :=
  wpList_store_mid hgd 55 x y ho g 0 (clC c A n d).toArray hx hy ht size_cl (all_oneCell_toArray (by intro v hv; simp [clC] at hv; rcases hv with rfl | rfl | rfl | rfl | rfl <;> rfl)) h
theorem wp_load_cl {ops : Array Oper} {rest : List Oper} {op : Oper} {a : Act} {w : World} {Q : Exit → Act → World → Prop} (hgd : op.guard = none) (x : Operand) (ho : op.op = .load 55 x) (g : Nat) (c : Cl) (A : Option Addr) (n d : Nat)
    (hx : a.eval x = .pointer (some ⟨g, 0, none⟩)) (hc : ClAt w g c A n d) (h : wpList Try.prog ops Q rest (a.put op.dst (c.val A n d)) w) : wpList Try.prog ops Q (op :: rest) a w :=
  wpList_load_mid hgd 55 x ho g 0 hx (clC c A n d) _ hc.range Try.underlying55 rfl size_cl h
theorem run_loadCl (w : World) (g : Nat) (c : Cl) (A : Option Addr) (n d : Nat) (hc : ClAt w g c A n d) : (loadVar 55 ⟨g, 0, none⟩).run Try.prog w = .ok (c.val A n d) w := by
  obtain ⟨k0, k1, k2, k3, k4⟩ := hc
  simp [go_sem, loadVar, k0, k1, k2, k3, k4, Cl.val]
theorem ret_cl {fn : Func} {R : Ending → World → Prop} {a : Act} {w : World} {q u : Tmp} {g : Nat} {c : Cl} {A : Option Addr} {n d : Nat} (hres : fn.results = #[.cell q 55, .tmp u]) (hp : a.tmps.getD q undef = .pointer (some ⟨g, 0, none⟩)) (hc : ClAt w g c A n d) (hd : a.defers = [])
    (hR : R (.returned (.tuple #[c.val A n d, a.tmps.getD u undef])) w) : bodyPost Try.prog fn R .ret a w := by
  refine bodyPost_ret (v := .tuple #[c.val A n d, a.tmps.getD u undef]) ?_ hd hR
  rw [results_cell_tmp hres, hp]
  show ((loadVar 55 ⟨g, 0, none⟩).run Try.prog w).andThen _ = _
  rw [run_loadCl w g c A n d hc]
  rfl

theorem fresh_rd {w : World} {l : List Int} {e : Ending} {w' : World} (h : FreshBack w l e w') : ∃ g n, e = .returned (.slice (some ⟨g, 0, none⟩) n n) ∧ l.length = n ∧ n ≤ maxLen ∧ Rd w' (some ⟨g, 0, none⟩) l ∧ Below w.heap.size w w' ∧ w.heap.size ≤ g ∧ g < w'.heap.size := by
  obtain ⟨g, n, rfl, h1, h2, h3, h4, h5, h6, h7⟩ := h
  exact ⟨g, n, rfl, h1.symm, h4, .inr ⟨g, 0, rfl, fun i hi => by simpa using h5 i (by omega)⟩, h7, h2, h3⟩
theorem Rd.blk {w : World} {A : Option Addr} {l : List Int} (h : Rd w A l) (hl : l ≠ []) : ∀ x, A = some x → x.block < w.heap.size := by
  intro x hx
  rcases h with h | ⟨b, o, rfl, hc⟩
  · exact absurd h hl
  · injection hx with hx
    subst hx
    have hc0 := hc 0 (List.length_pos_iff.2 hl)
    exact World.block_lt_of_cell? _ _ hc0
/-- Where a slice lies: among the blocks from 'b' on. -/
def BlkA (A : Option Addr) (b : Nat) (w : World) : Prop := ∀ x, A = some x → b ≤ x.block ∧ x.block < w.heap.size
theorem OwnB.blkA {w : World} {base b : Nat} {A : Option Addr} {n c : Nat} {l : List Int} (h : OwnB w base A n c l) (hb : b ≤ base) : BlkA A b w := by
  intro x hx
  rcases h.form with ⟨rfl, _, _⟩ | ⟨g, cur, rfl, h1, h2, _⟩
  · cases hx
  · injection hx with hx
    subst hx
    exact ⟨Nat.le_trans hb h1, (Array.getElem?_eq_some_iff.1 h2).1⟩
theorem BlkA.nil (b : Nat) (w : World) : BlkA none b w := fun _ h => by cases h
theorem BlkA.at {g b : Nat} {w : World} (h1 : b ≤ g) (h2 : g < w.heap.size) : BlkA (some ⟨g, 0, none⟩) b w := by
  intro x hx
  injection hx with hx
  subst hx
  exact ⟨h1, h2⟩
theorem BlkA.keep {A : Option Addr} {b B : Nat} {w w' : World} (h : BlkA A b w) (hb : Below B w w') : BlkA A b w' := fun x hx => ⟨(h x hx).1, Nat.lt_of_lt_of_le (h x hx).2 hb.size⟩
theorem BlkA.lt {A : Option Addr} {b : Nat} {w : World} (h : BlkA A b w) : ∀ x, A = some x → x.block < w.heap.size := fun x hx => (h x hx).2

/-- Two rows, four rows, written out. -/
theorem rows2 {w : World} {A1 A2 : Option Addr} {n1 c1 n2 c2 : Nat} {l1 l2 : List Int} (t : TypeId) (fr : Nat × Nat)
    (e1 : l1.length = n1) (k1 : n1 ≤ c1) (m1 : c1 ≤ maxLen) (r1 : Rd w A1 l1) (e2 : l2.length = n2) (k2 : n2 ≤ c2) (m2 : c2 ≤ maxLen) (r2 : Rd w A2 l2) :
    RdRows (w.alloc (.cells #[.slice A1 n1 c1, .slice A2 n2 c2] t fr)) (some ⟨w.heap.size, 0, none⟩) [l1, l2] := by
  have hb : Below w.heap.size w (w.alloc (.cells #[.slice A1 n1 c1, .slice A2 n2 c2] t fr)) := (Below.refl _ _).alloc (Nat.le_refl _) _
  subst e1 e2
  refine .inr ⟨_, 0, rfl, fun i hi => ?_⟩
  simp at hi
  rcases (by omega : i = 0 ∨ i = 1) with rfl | rfl
  · exact ⟨A1, c1, by simp [go_sem, Joins.cell_alloc_mark_at, rw_], by simpa [rw_] using k1, m1, r1.keep hb⟩
  · exact ⟨A2, c2, by simp [go_sem, Joins.cell_alloc_mark_at, rw_], by simpa [rw_] using k2, m2, r2.keep hb⟩
theorem rows4 {w : World} {A1 A2 A3 A4 : Option Addr} {n1 c1 n2 c2 n3 c3 n4 c4 : Nat} {l1 l2 l3 l4 : List Int} (t : TypeId) (fr : Nat × Nat)
    (e1 : l1.length = n1) (k1 : n1 ≤ c1) (m1 : c1 ≤ maxLen) (r1 : Rd w A1 l1) (e2 : l2.length = n2) (k2 : n2 ≤ c2) (m2 : c2 ≤ maxLen) (r2 : Rd w A2 l2) (e3 : l3.length = n3) (k3 : n3 ≤ c3) (m3 : c3 ≤ maxLen) (r3 : Rd w A3 l3) (e4 : l4.length = n4) (k4 : n4 ≤ c4) (m4 : c4 ≤ maxLen) (r4 : Rd w A4 l4) :
    RdRows (w.alloc (.cells #[.slice A1 n1 c1, .slice A2 n2 c2, .slice A3 n3 c3, .slice A4 n4 c4] t fr)) (some ⟨w.heap.size, 0, none⟩) [l1, l2, l3, l4] := by
  have hb : Below w.heap.size w (w.alloc (.cells #[.slice A1 n1 c1, .slice A2 n2 c2, .slice A3 n3 c3, .slice A4 n4 c4] t fr)) := (Below.refl _ _).alloc (Nat.le_refl _) _
  subst e1 e2 e3 e4
  refine .inr ⟨_, 0, rfl, fun i hi => ?_⟩
  simp at hi
  rcases (by omega : i = 0 ∨ i = 1 ∨ i = 2 ∨ i = 3) with rfl | rfl | rfl | rfl
  · exact ⟨A1, c1, by simp [go_sem, Joins.cell_alloc_mark_at, rw_], by simpa [rw_] using k1, m1, r1.keep hb⟩
  · exact ⟨A2, c2, by simp [go_sem, Joins.cell_alloc_mark_at, rw_], by simpa [rw_] using k2, m2, r2.keep hb⟩
  · exact ⟨A3, c3, by simp [go_sem, Joins.cell_alloc_mark_at, rw_], by simpa [rw_] using k3, m3, r3.keep hb⟩
  · exact ⟨A4, c4, by simp [go_sem, Joins.cell_alloc_mark_at, rw_], by simpa [rw_] using k4, m4, r4.keep hb⟩

theorem varL_ten {n : Int} (h : -9223372036854775808 ≤ n ∧ n ≤ 9223372036854775807) : (varL n).length ≤ 10 := vl_len10 (zig_lt h)

/-- Bytes of one's own, or full ones, beside an error. -/
def EncBack (w : World) (l : List Int) (z : Int) (e : Ending) (w' : World) : Prop :=
  ∃ A n c, e = .returned (.tuple #[.slice A n c, .int .i64 z]) ∧ l.length = n ∧ n ≤ c ∧ c ≤ maxLen ∧ Rd w' A l ∧ Below w.heap.size w w' ∧ BlkA A w.heap.size w'
/-- Bytes of one's own, beside an error. -/
def EncOwn (w : World) (l : List Int) (z : Int) (e : Ending) (w' : World) : Prop :=
  ∃ A n c, e = .returned (.tuple #[.slice A n c, .int .i64 z]) ∧ OwnB w' w.heap.size A n c l ∧ Below w.heap.size w w'

theorem varint_put (w : World) (n : Int) (hn : -9223372036854775808 ≤ n ∧ n ≤ 9223372036854775807) :
    Calls Try.prog 84 #[.int .i64 n] w fun e w' => ∃ A m c, e = .returned (.slice A m c) ∧ OwnB w' w.heap.size A m c (varL n) ∧ Below w.heap.size w w' := by
  refine (varint_any w n hn).mono ?_
  rintro e w' ⟨A, m, c, rfl, h1, h2⟩
  exact ⟨A, m, c, rfl, h1, h2⟩

set_option maxHeartbeats 8000000 in
theorem cenc_no (w : World) (k : Int) (c : Cl) (A : Option Addr) (n d : Nat) (hc : c.ok) (hn : (n : Int) ≤ 9223372036854775807) (hl : c.loc.length = n) (hno : ¬ goodC k c n) (R : Ending → World → Prop) (hR : R = EncBack w (encC k c) (checkZ k c n)) :
    Calls Try.prog 35 #[.int .i64 k, c.val A n d] w R := by
  have HR := Lib.hid hR; clear hR
  have he : encC k c = [] := if_neg (by rw [hl]; exact hno)
  have hz : checkZ k c n = 1 := if_neg hno
  have HE := Lib.hid he; clear he
  have HZ := Lib.hid hz; clear hz
  obtain ⟨W1, hW1⟩ : ∃ W, W = w.alloc (.cells #[.int .i64 c.key, .int .i64 c.child, .int .i64 c.total, .slice A n d, .int .i64 c.spill] 55) := ⟨_, rfl⟩
  have hbW : Below w.heap.size w W1 := by rw [hW1]; exact (Below.refl _ _).alloc (Nat.le_refl _) _
  have hat : ClAt W1 w.heap.size c A n d := by rw [hW1]; exact ⟨by simp [go_sem], by simp [go_sem], by simp [go_sem], by simp [go_sem], by simp [go_sem]⟩
  have HT := Lib.hid hat; clear hat
  have HW := Lib.hid hW1
  unfold Cl.val
  go_enter Try.func35, Try.ntmps35
  go_upto_region 1 with fail
  rw [← hW1]
  clear hW1 HW
  iterate 4 go_step
  refine wp_load_cl rfl _ rfl w.heap.size c A n d rfl HT.out ?_
  go_wp2_with fail
  refine (checkC_any _ k c A n d hc hn).mono ?_
  rintro e w1 ⟨rfl, hb1⟩
  simp only [HZ.out]
  have hB1 : Below w.heap.size w w1 := hbW.trans (hb1.mono hbW.size)
  clear hb1
  go_wp2
  rw [HR.out]
  exact ⟨none, 0, 0, by rw [HZ.out]; rfl, by rw [HE.out]; rfl, Nat.le_refl _, by decide, by rw [HE.out]; exact .inl rfl, hB1, BlkA.nil _ _⟩
end Go.Proofs.Ytoeaffmlolapnaa
