/- Several texts of this proof as one: ClC, ClF, ClG, ClH. Laid by merge.py. -/
import Derived.Test.YtoeaffmlolapnaaNpA
import Derived.Test.YtoeaffmlolapnaaNpB
import Derived.Test.YtoeaffmlolapnaaNpC
import Derived.Test.YtoeaffmlolapnaaNpD
import Derived.ArgAppend
import Derived.BigQuiet
import Derived.Deep.DeepCutAuto
import Derived.Deep.MidRow
import Derived.Deep.QuietTactic
import Derived.Deep.RegionHeld3
import Derived.Handy
import Derived.Laws.Externs
import Derived.Laws.ResultCell
import Derived.Lib.AppendStr
import Derived.Lib.Hide
import Derived.Lib.MakeNoZero
import Derived.Lib.SlBuf
import Derived.Lib.SmallJoins
import Derived.Maps.AppendAt
import Derived.Test.YtoeaffmlolapnaaProg
import Derived.WalkKit
import Derived.WalkSpells
namespace Go.Proofs.Ytoeaffmlolapnaa
section
open Go.RowKit
set_option maxRecDepth 100000
def clC (c : Cl) (A : Option Addr) (n d : Nat) : List Value := [.int .i64 c.key, .int .i64 c.child, .int .i64 c.total, .slice A n d, .int .i64 c.spill]
theorem ClAt.range {w : World} {g : Nat} {c : Cl} {A : Option Addr} {n d : Nat} (h : ClAt w g c A n d) : w.rangeAt g 0 (clC c A n d) := fun j v hv => by
  rw [Nat.zero_add]
  have hj : j < 5 := (List.getElem?_eq_some_iff.1 hv).1
  rcases (by omega : j = 0 ∨ j = 1 ∨ j = 2 ∨ j = 3 ∨ j = 4) with rfl | rfl | rfl | rfl | rfl
  · rw [h.1]; exact hv
  · rw [h.2.1]; exact hv
  · rw [h.2.2.1]; exact hv
  · rw [h.2.2.2.1]; exact hv
  · rw [h.2.2.2.2]; exact hv
theorem ClAt.of {w : World} {g : Nat} {c : Cl} {A : Option Addr} {n d : Nat} (h : w.rangeAt g 0 (clC c A n d)) : ClAt w g c A n d := by
  have h0 := h 0 _ rfl
  have h1 := h 1 _ rfl
  have h2 := h 2 _ rfl
  have h3 := h 3 _ rfl
  have h4 := h 4 _ rfl
  exact ⟨by simpa using h0, by simpa using h1, by simpa using h2, by simpa using h3, by simpa using h4⟩
theorem ClAt.stored {w : World} {g : Nat} (h : w.there g 0 5) (c : Cl) (A : Option Addr) (n d : Nat) : ClAt (w.setCells g 0 (clC c A n d)) g c A n d := ClAt.of (World.rangeAt_setCells_same w g 0 _ h)
theorem size_cl : (Try.prog.info? 55).map (·.size) = some 5 := by kernel_rfl
theorem wp_store_cl {ops : Array Oper} {rest : List Oper} {op : Oper} {a : Act} {w : World} {Q : Exit → Act → World → Prop} (hgd : op.guard = none) (x y : Operand) (ho : op.op = .store 55 x y) (g : Nat) (c : Cl) (A : Option Addr) (n d : Nat)
    (hx : a.eval x = .pointer (some ⟨g, 0, none⟩)) (hy : a.eval y = c.val A n d) (ht : w.there g 0 5) (h : wpList Try.prog ops Q rest (a.put op.dst undef) (w.setCells g 0 (clC c A n d))) : wpList Try.prog ops Q (op :: rest) a w :=
  wpList_store_mid hgd 55 x y ho g 0 (clC c A n d).toArray hx hy ht size_cl (all_oneCell_toArray (by intro v hv; simp [clC] at hv; rcases hv with rfl | rfl | rfl | rfl | rfl <;> rfl)) h
theorem wp_load_cl {ops : Array Oper} {rest : List Oper} {op : Oper} {a : Act} {w : World} {Q : Exit → Act → World → Prop} (hgd : op.guard = none) (x : Operand) (ho : op.op = .load 55 x) (g : Nat) (c : Cl) (A : Option Addr) (n d : Nat)
    (hx : a.eval x = .pointer (some ⟨g, 0, none⟩)) (hc : ClAt w g c A n d) (h : wpList Try.prog ops Q rest (a.put op.dst (c.val A n d)) w) : wpList Try.prog ops Q (op :: rest) a w :=
  wpList_load_mid hgd 55 x ho g 0 hx (clC c A n d) _ hc.range Try.underlying55 rfl size_cl h
theorem run_loadCl (w : World) (g : Nat) (c : Cl) (A : Option Addr) (n d : Nat) (hc : ClAt w g c A n d) : (loadVar 55 ⟨g, 0, none⟩).run Try.prog w = .ok (c.val A n d) w := by
  obtain ⟨k0, k1, k2, k3, k4⟩ := hc
  simp [go_sem, loadVar, k0, k1, k2, k3, k4, Cl.val]
theorem ret_cl {fn : Func} {R : Ending → World → Prop} {a : Act} {w : World} {q u : Tmp} {g : Nat} {c : Cl} {A : Option Addr} {n d : Nat} (hres : fn.results = #[.cell q 55, .tmp u]) (hp : a.tmps.getD q undef = .pointer (some ⟨g, 0, none⟩)) (hc : ClAt w g c A n d) (hd : a.defers = [])
    (hR : R (.returned (.tuple #[c.val A n d, a.tmps.getD u undef])) w) : bodyPost Try.prog fn R .ret a w := by
  refine bodyPost_ret (v := .tuple #[c.val A n d, a.tmps.getD u undef]) ?_ hd hR
  rw [results_cell_tmp hres, hp]
  show ((loadVar 55 ⟨g, 0, none⟩).run Try.prog w).andThen _ = _
  rw [run_loadCl w g c A n d hc]
  rfl

theorem fresh_rd {w : World} {l : List Int} {e : Ending} {w' : World} (h : FreshBack w l e w') : ∃ g n, e = .returned (.slice (some ⟨g, 0, none⟩) n n) ∧ l.length = n ∧ n ≤ maxLen ∧ Rd w' (some ⟨g, 0, none⟩) l ∧ Below w.heap.size w w' ∧ w.heap.size ≤ g ∧ g < w'.heap.size := by
  obtain ⟨g, n, rfl, h1, h2, h3, h4, h5, h6, h7⟩ := h
  exact ⟨g, n, rfl, h1.symm, h4, .inr ⟨g, 0, rfl, fun i hi => by simpa using h5 i (by omega)⟩, h7, h2, h3⟩
theorem Rd.blk {w : World} {A : Option Addr} {l : List Int} (h : Rd w A l) (hl : l ≠ []) : ∀ x, A = some x → x.block < w.heap.size := by
  intro x hx
  rcases h with h | ⟨b, o, rfl, hc⟩
  · exact absurd h hl
  · injection hx with hx
    subst hx
    have hc0 := hc 0 (List.length_pos_iff.2 hl)
    exact World.block_lt_of_cell? _ _ hc0
/-- Where a slice lies: among the blocks from 'b' on. -/
def BlkA (A : Option Addr) (b : Nat) (w : World) : Prop := ∀ x, A = some x → b ≤ x.block ∧ x.block < w.heap.size
theorem OwnB.blkA {w : World} {base b : Nat} {A : Option Addr} {n c : Nat} {l : List Int} (h : OwnB w base A n c l) (hb : b ≤ base) : BlkA A b w := by
  intro x hx
  rcases h.form with ⟨rfl, _, _⟩ | ⟨g, cur, rfl, h1, h2, _⟩
  · cases hx
  · injection hx with hx
    subst hx
    exact ⟨Nat.le_trans hb h1, (Array.getElem?_eq_some_iff.1 h2).1⟩
theorem BlkA.nil (b : Nat) (w : World) : BlkA none b w := fun _ h => by cases h
theorem BlkA.at {g b : Nat} {w : World} (h1 : b ≤ g) (h2 : g < w.heap.size) : BlkA (some ⟨g, 0, none⟩) b w := by
  intro x hx
  injection hx with hx
  subst hx
  exact ⟨h1, h2⟩
theorem BlkA.keep {A : Option Addr} {b B : Nat} {w w' : World} (h : BlkA A b w) (hb : Below B w w') : BlkA A b w' := fun x hx => ⟨(h x hx).1, Nat.lt_of_lt_of_le (h x hx).2 hb.size⟩
theorem BlkA.lt {A : Option Addr} {b : Nat} {w : World} (h : BlkA A b w) : ∀ x, A = some x → x.block < w.heap.size := fun x hx => (h x hx).2

theorem rows4 {w : World} {A1 A2 A3 A4 : Option Addr} {n1 c1 n2 c2 n3 c3 n4 c4 : Nat} {l1 l2 l3 l4 : List Int} (t : TypeId) (fr : Nat × Nat)
    (e1 : l1.length = n1) (k1 : n1 ≤ c1) (m1 : c1 ≤ maxLen) (r1 : Rd w A1 l1) (e2 : l2.length = n2) (k2 : n2 ≤ c2) (m2 : c2 ≤ maxLen) (r2 : Rd w A2 l2) (e3 : l3.length = n3) (k3 : n3 ≤ c3) (m3 : c3 ≤ maxLen) (r3 : Rd w A3 l3) (e4 : l4.length = n4) (k4 : n4 ≤ c4) (m4 : c4 ≤ maxLen) (r4 : Rd w A4 l4) :
    RdRows (w.alloc (.cells #[.slice A1 n1 c1, .slice A2 n2 c2, .slice A3 n3 c3, .slice A4 n4 c4] t fr)) (some ⟨w.heap.size, 0, none⟩) [l1, l2, l3, l4] := by
  have hb : Below w.heap.size w (w.alloc (.cells #[.slice A1 n1 c1, .slice A2 n2 c2, .slice A3 n3 c3, .slice A4 n4 c4] t fr)) := (Below.refl _ _).alloc (Nat.le_refl _) _
  subst e1 e2 e3 e4
  refine .inr ⟨_, 0, rfl, fun i hi => ?_⟩
  simp at hi
  rcases (by omega : i = 0 ∨ i = 1 ∨ i = 2 ∨ i = 3) with rfl | rfl | rfl | rfl
  · exact ⟨A1, c1, by simp [go_sem, Joins.cell_alloc_mark_at, rw_], by simpa [rw_] using k1, m1, r1.keep hb⟩
  · exact ⟨A2, c2, by simp [go_sem, Joins.cell_alloc_mark_at, rw_], by simpa [rw_] using k2, m2, r2.keep hb⟩
  · exact ⟨A3, c3, by simp [go_sem, Joins.cell_alloc_mark_at, rw_], by simpa [rw_] using k3, m3, r3.keep hb⟩
  · exact ⟨A4, c4, by simp [go_sem, Joins.cell_alloc_mark_at, rw_], by simpa [rw_] using k4, m4, r4.keep hb⟩

theorem varL_ten {n : Int} (h : -9223372036854775808 ≤ n ∧ n ≤ 9223372036854775807) : (varL n).length ≤ 10 := vl_len10 (zig_lt h)

/-- Bytes of one's own, or full ones, beside an error. -/
def EncBack (w : World) (l : List Int) (z : Int) (e : Ending) (w' : World) : Prop :=
  ∃ A n c, e = .returned (.tuple #[.slice A n c, .int .i64 z]) ∧ l.length = n ∧ n ≤ c ∧ c ≤ maxLen ∧ Rd w' A l ∧ Below w.heap.size w w' ∧ BlkA A w.heap.size w'
/-- Bytes of one's own, beside an error. -/
def EncOwn (w : World) (l : List Int) (z : Int) (e : Ending) (w' : World) : Prop :=
  ∃ A n c, e = .returned (.tuple #[.slice A n c, .int .i64 z]) ∧ OwnB w' w.heap.size A n c l ∧ Below w.heap.size w w'

theorem varint_put (w : World) (n : Int) (hn : -9223372036854775808 ≤ n ∧ n ≤ 9223372036854775807) :
    Calls Try.prog 84 #[.int .i64 n] w fun e w' => ∃ A m c, e = .returned (.slice A m c) ∧ OwnB w' w.heap.size A m c (varL n) ∧ Below w.heap.size w w' := by
  refine (varint_any w n hn).mono ?_
  rintro e w' ⟨A, m, c, rfl, h1, h2⟩
  exact ⟨A, m, c, rfl, h1, h2⟩

set_option maxHeartbeats 8000000 in
theorem cenc_no (w : World) (k : Int) (c : Cl) (A : Option Addr) (n d : Nat) (hc : c.ok) (hn : (n : Int) ≤ 9223372036854775807) (hl : c.loc.length = n) (hno : ¬ goodC k c n) (R : Ending → World → Prop) (hR : R = EncBack w (encC k c) (checkZ k c n)) :
    Calls Try.prog 35 #[.int .i64 k, c.val A n d] w R := by
  have HR := Lib.hid hR; clear hR
  have he : encC k c = [] := if_neg (by rw [hl]; exact hno)
  have hz : checkZ k c n = 1 := if_neg hno
  have HE := Lib.hid he; clear he
  have HZ := Lib.hid hz; clear hz
  obtain ⟨W1, hW1⟩ : ∃ W, W = w.alloc (.cells #[.int .i64 c.key, .int .i64 c.child, .int .i64 c.total, .slice A n d, .int .i64 c.spill] 55) := ⟨_, rfl⟩
  have hbW : Below w.heap.size w W1 := by rw [hW1]; exact (Below.refl _ _).alloc (Nat.le_refl _) _
  have hat : ClAt W1 w.heap.size c A n d := by rw [hW1]; exact ⟨by simp [go_sem], by simp [go_sem], by simp [go_sem], by simp [go_sem], by simp [go_sem]⟩
  have HT := Lib.hid hat; clear hat
  have HW := Lib.hid hW1
  unfold Cl.val
  go_enter Try.func35, Try.ntmps35
  go_upto_region 1 with fail
  rw [← hW1]
  clear hW1 HW
  iterate 4 go_step
  refine wp_load_cl rfl _ rfl w.heap.size c A n d rfl HT.out ?_
  go_wp2_with fail
  refine (checkC_any _ k c A n d hc hn).mono ?_
  rintro e w1 ⟨rfl, hb1⟩
  simp only [HZ.out]
  have hB1 : Below w.heap.size w w1 := hbW.trans (hb1.mono hbW.size)
  clear hb1
  go_wp2
  rw [HR.out]
  exact ⟨none, 0, 0, by rw [HZ.out]; rfl, by rw [HE.out]; rfl, Nat.le_refl _, by decide, by rw [HE.out]; exact .inl rfl, hB1, BlkA.nil _ _⟩
end
section
open Go.RowKit
set_option maxRecDepth 100000
/-- The next number, from lo to hi, or what is wrong with it. -/
def wn (l : List Int) (at_ lo hi : Int) : Int × Int × Int :=
  if (unvL l at_).2.2 ≠ 0 then (0, 0, (unvL l at_).2.2) else if (unvL l at_).1 < lo ∨ hi < (unvL l at_).1 then (0, 0, 8) else ((unvL l at_).1, (unvL l at_).2.1, 0)
structure Py where
  (total spill : Int)
  loc : List Int
  (at_ e : Int)
def py0 (e : Int) : Py := ⟨0, 0, [], 0, e⟩
def payD (l : List Int) (at_ : Int) : Py :=
  if (wn l at_ 0 16384).2.2 ≠ 0 then py0 (wn l at_ 0 16384).2.2 else
  if (wn l (wn l at_ 0 16384).2.1 0 (wn l at_ 0 16384).1).2.2 ≠ 0 then py0 (wn l (wn l at_ 0 16384).2.1 0 (wn l at_ 0 16384).1).2.2 else
  let t := (wn l at_ 0 16384).1
  let n := (wn l (wn l at_ 0 16384).2.1 0 (wn l at_ 0 16384).1).1
  let p := (wn l (wn l at_ 0 16384).2.1 0 (wn l at_ 0 16384).1).2.1
  if (l.length : Int) - p < n then py0 6 else
  if n = t then ⟨t, 0, (l.drop p.toNat).take n.toNat, p + n, 0⟩ else
  if (wn l (p + n) 1 1048576).2.2 ≠ 0 then py0 (wn l (p + n) 1 1048576).2.2 else
  ⟨t, (wn l (p + n) 1 1048576).1, (l.drop p.toNat).take n.toNat, (wn l (p + n) 1 1048576).2.1, 0⟩
def childD (k : Int) (l : List Int) : Int × Int × Int := if hasC k then wn l 0 1 1048576 else (0, 0, 0)
def keyD (k : Int) (l : List Int) (at_ : Int) : Int × Int × Int := if hasK k then unvL l at_ else (0, at_, 0)
def loadD (k : Int) (l : List Int) (at_ : Int) : Py := if k = 2 then ⟨0, 0, [], at_, 0⟩ else payD l at_
def decC (k : Int) (l : List Int) : Cl × Int :=
  if ¬ isK k then (zeroC, 1) else
  if (childD k l).2.2 ≠ 0 then (zeroC, (childD k l).2.2) else
  if (keyD k l (childD k l).2.1).2.2 ≠ 0 then (zeroC, (keyD k l (childD k l).2.1).2.2) else
  let y := loadD k l (keyD k l (childD k l).2.1).2.1
  if y.e ≠ 0 then (zeroC, y.e) else
  if y.at_ ≠ (l.length : Int) then (zeroC, 8) else
  (⟨(keyD k l (childD k l).2.1).1, (childD k l).1, y.total, y.spill, y.loc⟩, 0)

/-- A reader lies in a block. -/
def RrAt (w : World) (g : Nat) (A : Option Addr) (n c : Nat) (at_ e : Int) : Prop :=
  (w.cell? ⟨g, 0, none⟩ = some (.slice A n c) ∧ w.cell? ⟨g, 1, none⟩ = some (.int .i64 at_) ∧ w.cell? ⟨g, 2, none⟩ = some (.int .i64 e)) ∧ (w.frozen? ⟨g, 1, none⟩ = false ∧ w.frozen? ⟨g, 2, none⟩ = false)
/-- One block alone may have changed. -/
structure Only (g : Nat) (w w' : World) : Prop where
  os : w'.os = w.os
  tape : w'.tape = w.tape
  output : w'.output = w.output
  size : w'.heap.size = w.heap.size
  block : ∀ i, i ≠ g → w'.heap[i]? = w.heap[i]?
theorem Only.refl (g : Nat) (w : World) : Only g w w := ⟨rfl, rfl, rfl, rfl, fun _ _ => rfl⟩
theorem Only.trans {g : Nat} {a b c : World} (h : Only g a b) (k : Only g b c) : Only g a c := ⟨k.os.trans h.os, k.tape.trans h.tape, k.output.trans h.output, k.size.trans h.size, fun i hi => (k.block i hi).trans (h.block i hi)⟩
theorem Only.drewN {g : Nat} {a b : World} (h : Only g a b) (n : Nat) : Only g a (b.drewN n) := ⟨h.os, h.tape, h.output, h.size, h.block⟩
theorem Only.setCell {g : Nat} {a b : World} (h : Only g a b) (o : Nat) (v : Value) : Only g a (b.setCell ⟨g, o, none⟩ v) :=
  ⟨h.os, h.tape, h.output, (by simpa [World.setCell] using h.size), fun i hi => by
    rw [← h.block i hi]
    simp [World.setCell, Array.getElem?_modify, Ne.symm hi]⟩
theorem Only.below {g B : Nat} {w w' : World} (h : Only g w w') (hB : B ≤ g) : Below B w w' := ⟨h.os, h.tape, h.output, Nat.le_of_eq h.size.symm, fun i hi => h.block i (by omega)⟩
theorem Only.cell {g : Nat} {w w' : World} (h : Only g w w') {a : Addr} (ha : a.block ≠ g) : w'.cell? a = w.cell? a := World.cell?_of_block (h.block _ ha)
theorem Only.frozen {g : Nat} {w w' : World} (h : Only g w w') {a : Addr} (ha : a.block ≠ g) : w'.frozen? a = w.frozen? a := World.frozen?_of_block (h.block _ ha)
theorem RrAt.setAt {w : World} {g : Nat} {A : Option Addr} {n c : Nat} {at_ e : Int} (h : RrAt w g A n c at_ e) (x : Int) : RrAt (w.setCell ⟨g, 1, none⟩ (.int .i64 x)) g A n c x e :=
  ⟨⟨(World.cell?_setCell_other _ _ _ _ (by simp)).trans h.1.1, World.cell?_setCell_same _ _ _ h.1.2.1, (World.cell?_setCell_other _ _ _ _ (by simp)).trans h.1.2.2⟩, by rw [World.frozen?_setCell]; exact h.2.1, by rw [World.frozen?_setCell]; exact h.2.2⟩
theorem RrAt.setE {w : World} {g : Nat} {A : Option Addr} {n c : Nat} {at_ e : Int} (h : RrAt w g A n c at_ e) (x : Int) : RrAt (w.setCell ⟨g, 2, none⟩ (.int .i64 x)) g A n c at_ x :=
  ⟨⟨(World.cell?_setCell_other _ _ _ _ (by simp)).trans h.1.1, (World.cell?_setCell_other _ _ _ _ (by simp)).trans h.1.2.1, World.cell?_setCell_same _ _ _ h.1.2.2⟩, by rw [World.frozen?_setCell]; exact h.2.1, by rw [World.frozen?_setCell]; exact h.2.2⟩
theorem RrAt.drewN {w : World} {g : Nat} {A : Option Addr} {n c : Nat} {at_ e : Int} (h : RrAt w g A n c at_ e) (k : Nat) : RrAt (w.drewN k) g A n c at_ e := h

/-- What next tells, where nothing is wrong yet. -/
theorem next_any (w : World) (g : Nat) (A : Option Addr) (n c : Nat) (l : List Int) (at_ : Int) (hR : RrAt w g A n c at_ 0) (hn : l.length = n) (hnc : n ≤ c) (hcm : c ≤ maxLen) (hA : Rd w A l) (hB : IsB l) (ha : -9223372036854775808 ≤ at_ ∧ at_ ≤ 9223372036854775807) (R : Ending → World → Prop)
    (hP : R = fun e w' => ∃ at' e', e = .returned (.int .i64 (if (unvL l at_).2.2 ≠ 0 then 0 else (unvL l at_).1)) ∧ RrAt w' g A n c at' e' ∧ e' = (unvL l at_).2.2 ∧ ((unvL l at_).2.2 = 0 → at' = (unvL l at_).2.1) ∧ Only g w w') :
    Calls Try.prog 73 #[.pointer (some ⟨g, 0, none⟩)] w R := by
  have HP := Lib.hid hP; clear hP
  have HR := Lib.hid hR
  obtain ⟨⟨r0, r1, r2⟩, f1, f2⟩ := hR
  have HN := Lib.hid hn; clear hn
  have HA := Lib.hid hA; clear hA
  have HB := Lib.hid hB; clear hB
  go_enter Try.func73, Try.ntmps73
  obtain ⟨⟨v, p, z⟩, hU⟩ : ∃ U, unvL l at_ = U := ⟨_, rfl⟩
  have HU := Lib.hid hU; clear hU
  have HC := Lib.hid (show ∀ j, Calls Try.prog 106 #[.slice A n c, .int .i64 at_] (w.drewN j) fun e w' => e = .returned (.tuple #[.int .i64 v, .int .i64 p, .int .i64 z]) ∧ ∃ x, w' = (w.drewN j).drewN x from fun j => by
    have h := unv_any (w.drewN j) A n c l at_ HN.out hnc hcm (HA.out.keep (below_drewN (Below.refl _ _) _)) HB.out ha
    rw [HU.out] at h
    exact h.mono (fun e w' hh => ⟨hh.1, 0, by rw [← hh.2]; rfl⟩))
  go_upto_region 3 with fail
  go_quiet ((go_at_call 106; exact Calls.quiet_of (HC.out _)))
  have HRq := Lib.hid (HR.out.drewN nq)
  by_cases hz : z = 0
  · subst hz
    go_wp2
    rw [HP.out]
    exact ⟨p, 0, by rw [HU.out]; rfl, HRq.out.setAt p, by rw [HU.out], by rw [HU.out]; simp, ((Only.refl g w).drewN nq).setCell 1 _⟩
  · have hzb : (z != 0) = true := by simp [hz]
    go_wp2
    rw [HP.out]
    exact ⟨at_, z, by rw [HU.out]; simp [hz], HRq.out.setE z, by rw [HU.out], by rw [HU.out]; simp [hz], ((Only.refl g w).drewN nq).setCell 2 _⟩

/-- What next tells, where something is wrong already. -/
theorem next_bad (w : World) (g : Nat) (A : Option Addr) (n c : Nat) (at_ e0 : Int) (hR : RrAt w g A n c at_ e0) (he : e0 ≠ 0) :
    Calls Try.prog 73 #[.pointer (some ⟨g, 0, none⟩)] w fun e w' => e = .returned (.int .i64 0) ∧ w = w' := by
  obtain ⟨⟨r0, r1, r2⟩, f1, f2⟩ := hR
  have hb : (e0 != 0) = true := by simp [he]
  go_enter Try.func73, Try.ntmps73
  go_wp2
  go_ret
  exact ⟨rfl, rfl⟩

theorem form_ok (w : World) (g : Nat) (A : Option Addr) (n c : Nat) (at_ e0 : Int) (hR : RrAt w g A n c at_ e0) :
    Calls Try.prog 74 #[.pointer (some ⟨g, 0, none⟩), .bool true] w fun e w' => e = .returned (.tuple #[]) ∧ w = w' := by
  obtain ⟨⟨r0, r1, r2⟩, f1, f2⟩ := hR
  by_cases he : e0 = 0
  · subst he
    go_enter Try.func74, Try.ntmps74
    go_wp2
    go_end0
    exact ⟨rfl, rfl⟩
  · have hb : (e0 == 0) = false := by simp [he]
    go_enter Try.func74, Try.ntmps74
    go_wp2
    go_end0
    exact ⟨rfl, rfl⟩
theorem form_no (w : World) (g : Nat) (A : Option Addr) (n c : Nat) (at_ : Int) (hR : RrAt w g A n c at_ 0) :
    Calls Try.prog 74 #[.pointer (some ⟨g, 0, none⟩), .bool false] w fun e w' => e = .returned (.tuple #[]) ∧ w' = w.setCell ⟨g, 2, none⟩ (.int .i64 8) := by
  obtain ⟨⟨r0, r1, r2⟩, f1, f2⟩ := hR
  go_enter Try.func74, Try.ntmps74
  go_wp2
  go_end0
  exact ⟨rfl, rfl⟩
theorem form_bad (w : World) (g : Nat) (A : Option Addr) (n c : Nat) (at_ e0 : Int) (b : Bool) (hR : RrAt w g A n c at_ e0) (he : e0 ≠ 0) :
    Calls Try.prog 74 #[.pointer (some ⟨g, 0, none⟩), .bool b] w fun e w' => e = .returned (.tuple #[]) ∧ w = w' := by
  obtain ⟨⟨r0, r1, r2⟩, f1, f2⟩ := hR
  have hb : (e0 == 0) = false := by simp [he]
  go_enter Try.func74, Try.ntmps74
  go_wp2
  go_end0
  exact ⟨rfl, rfl⟩
end
section
open Go.RowKit
set_option maxRecDepth 100000
set_option linter.unusedSimpArgs false
set_option linter.unusedVariables false
theorem pay_e1 {l : List Int} {a v p z : Int} (h : unvL l a = (v, p, z)) (hz : z ≠ 0) : payD l a = py0 z := by simp [payD, wn, h, hz]
theorem wn_form {l : List Int} {a v p lo hi : Int} (h : unvL l a = (v, p, 0)) (hb : v < lo ∨ hi < v) : wn l a lo hi = (0, 0, 8) := by simp [wn, h, hb]
theorem wn_ok {l : List Int} {a v p lo hi : Int} (h : unvL l a = (v, p, 0)) (hb : ¬ (v < lo ∨ hi < v)) : wn l a lo hi = (v, p, 0) := by simp only [wn, h]; rw [if_neg (by simp), if_neg hb]
theorem wn_err {l : List Int} {a v p z lo hi : Int} (h : unvL l a = (v, p, z)) (hz : z ≠ 0) : wn l a lo hi = (0, 0, z) := by simp [wn, h, hz]
theorem pay_f1 {l : List Int} {a v p : Int} (h : unvL l a = (v, p, 0)) (hb : v < 0 ∨ 16384 < v) : payD l a = py0 8 := by simp [payD, wn_form h hb]
theorem pay_e2 {l : List Int} {a v p m p2 z : Int} (h : unvL l a = (v, p, 0)) (hb : ¬ (v < 0 ∨ 16384 < v)) (h2 : unvL l p = (m, p2, z)) (hz : z ≠ 0) : payD l a = py0 z := by simp [payD, wn_ok h hb, wn_err h2 hz, hz]
theorem pay_f2 {l : List Int} {a v p m p2 : Int} (h : unvL l a = (v, p, 0)) (hb : ¬ (v < 0 ∨ 16384 < v)) (h2 : unvL l p = (m, p2, 0)) (hb2 : m < 0 ∨ v < m) : payD l a = py0 8 := by simp [payD, wn_ok h hb, wn_form h2 hb2]
theorem pay_s {l : List Int} {a v p m p2 : Int} (h : unvL l a = (v, p, 0)) (hb : ¬ (v < 0 ∨ 16384 < v)) (h2 : unvL l p = (m, p2, 0)) (hb2 : ¬ (m < 0 ∨ v < m)) (hs : (l.length : Int) - p2 < m) : payD l a = py0 6 := by simp [payD, wn_ok h hb, wn_ok h2 hb2, hs]
theorem pay_all {l : List Int} {a v p p2 : Int} (h : unvL l a = (v, p, 0)) (hb : ¬ (v < 0 ∨ 16384 < v)) (h2 : unvL l p = (v, p2, 0)) (hb2 : ¬ (v < 0 ∨ v < v)) (hs : ¬ (l.length : Int) - p2 < v) : payD l a = ⟨v, 0, (l.drop p2.toNat).take v.toNat, p2 + v, 0⟩ := by simp only [payD, wn_ok h hb, wn_ok h2 hb2]; simp [hs]
theorem pay_e3 {l : List Int} {a v p m p2 s p3 z : Int} (h : unvL l a = (v, p, 0)) (hb : ¬ (v < 0 ∨ 16384 < v)) (h2 : unvL l p = (m, p2, 0)) (hb2 : ¬ (m < 0 ∨ v < m)) (hs : ¬ (l.length : Int) - p2 < m) (hm : m ≠ v) (h3 : unvL l (p2 + m) = (s, p3, z)) (hz : z ≠ 0) : payD l a = py0 z := by
  simp only [payD, wn_ok h hb, wn_ok h2 hb2, wn_err h3 hz]; simp [hs, hm, hz]
theorem pay_f3 {l : List Int} {a v p m p2 s p3 : Int} (h : unvL l a = (v, p, 0)) (hb : ¬ (v < 0 ∨ 16384 < v)) (h2 : unvL l p = (m, p2, 0)) (hb2 : ¬ (m < 0 ∨ v < m)) (hs : ¬ (l.length : Int) - p2 < m) (hm : m ≠ v) (h3 : unvL l (p2 + m) = (s, p3, 0)) (hb3 : s < 1 ∨ 1048576 < s) : payD l a = py0 8 := by
  simp only [payD, wn_ok h hb, wn_ok h2 hb2, wn_form h3 hb3]; simp [hs, hm]
theorem pay_ok {l : List Int} {a v p m p2 s p3 : Int} (h : unvL l a = (v, p, 0)) (hb : ¬ (v < 0 ∨ 16384 < v)) (h2 : unvL l p = (m, p2, 0)) (hb2 : ¬ (m < 0 ∨ v < m)) (hs : ¬ (l.length : Int) - p2 < m) (hm : m ≠ v) (h3 : unvL l (p2 + m) = (s, p3, 0)) (hb3 : ¬ (s < 1 ∨ 1048576 < s)) : payD l a = ⟨v, s, (l.drop p2.toNat).take m.toNat, p3, 0⟩ := by
  simp only [payD, wn_ok h hb, wn_ok h2 hb2, wn_ok h3 hb3]; simp [hs, hm]

theorem next_yes (w : World) (g : Nat) (A : Option Addr) (n c : Nat) (l : List Int) (at_ v p : Int) (hR : RrAt w g A n c at_ 0) (hn : l.length = n) (hnc : n ≤ c) (hcm : c ≤ maxLen) (hA : Rd w A l) (hB : IsB l) (ha : -9223372036854775808 ≤ at_ ∧ at_ ≤ 9223372036854775807) (hU : unvL l at_ = (v, p, 0)) :
    Calls Try.prog 73 #[.pointer (some ⟨g, 0, none⟩)] w fun e w' => e = .returned (.int .i64 v) ∧ RrAt w' g A n c p 0 ∧ Only g w w' := by
  refine (next_any w g A n c l at_ hR hn hnc hcm hA hB ha _ rfl).mono ?_
  rintro e w' ⟨at', e', rfl, h1, h2, h3, h4⟩
  simp only [hU] at h2 h3 ⊢
  have h5 := h3 trivial
  subst h2 h5
  exact ⟨by simp, h1, h4⟩
theorem next_err (w : World) (g : Nat) (A : Option Addr) (n c : Nat) (l : List Int) (at_ v p z : Int) (hR : RrAt w g A n c at_ 0) (hn : l.length = n) (hnc : n ≤ c) (hcm : c ≤ maxLen) (hA : Rd w A l) (hB : IsB l) (ha : -9223372036854775808 ≤ at_ ∧ at_ ≤ 9223372036854775807) (hU : unvL l at_ = (v, p, z)) (hz : z ≠ 0) :
    Calls Try.prog 73 #[.pointer (some ⟨g, 0, none⟩)] w fun e w' => e = .returned (.int .i64 0) ∧ (∃ at', RrAt w' g A n c at' z) ∧ Only g w w' := by
  refine (next_any w g A n c l at_ hR hn hnc hcm hA hB ha _ rfl).mono ?_
  rintro e w' ⟨at', e', rfl, h1, h2, h3, h4⟩
  simp only [hU] at h2 ⊢
  subst h2
  exact ⟨by simp [hz], ⟨at', h1⟩, h4⟩

/-- What load leaves. -/
def LoadBack (w : World) (g gc : Nat) (A : Option Addr) (n c : Nat) (ky ch : Int) (y : Py) (e : Ending) (w' : World) : Prop :=
  ∃ at' e', e = .returned (.tuple #[]) ∧ RrAt w' g A n c at' e' ∧ e' = y.e ∧ (e' = 0 → at' = y.at_ ∧ ∃ A' n' c', ClAt w' gc ⟨ky, ch, y.total, y.spill, y.loc⟩ A' n' c' ∧ OwnB w' (g + 1) A' n' c' y.loc) ∧ Below g w w'

set_option maxHeartbeats 8000000 in
theorem load_bad (w : World) (g gc : Nat) (A : Option Addr) (n c : Nat) (at_ z : Int) (hR : RrAt w g A n c at_ z) (hz : z ≠ 0) (R : Ending → World → Prop) (hP : R = fun e w' => e = .returned (.tuple #[]) ∧ RrAt w' g A n c at_ z ∧ Below g w w') :
    Calls Try.prog 76 #[.pointer (some ⟨g, 0, none⟩), .pointer (some ⟨gc, 0, none⟩)] w R := by
  have HP := Lib.hid hP; clear hP
  have HR := Lib.hid hR
  have HZ := Lib.hid hz
  have z1 : (z != 0) = true := by simp [hz]
  have z2 : (z == 0) = false := by simp [hz]
  obtain ⟨⟨r0, r1, r2⟩, f1, f2⟩ := hR
  clear hz
  go_enter Try.func76, Try.ntmps76
  go_wp2_with fail
  refine (next_bad _ g A n c at_ z HR.out HZ.out).mono ?_
  rintro e w1 ⟨rfl, rfl⟩
  go_wp2_with fail
  refine (form_bad _ g A n c at_ z true HR.out HZ.out).mono ?_
  rintro e w1 ⟨rfl, rfl⟩
  go_wp2_with fail
  refine (next_bad _ g A n c at_ z HR.out HZ.out).mono ?_
  rintro e w1 ⟨rfl, rfl⟩
  go_wp2_with fail
  refine (form_bad _ g A n c at_ z true HR.out HZ.out).mono ?_
  rintro e w1 ⟨rfl, rfl⟩
  go_upto_region 4 with fail
  go_quiet (fail)
  go_wp2
  go_end0
  rw [HP.out]
  exact ⟨rfl, HR.out.drewN nq, below_drewN (Below.refl _ _) nq⟩

end
section
open Go.RowKit
set_option maxRecDepth 100000
set_option linter.unusedSimpArgs false
set_option linter.unusedVariables false
theorem form_no2 (w : World) (g : Nat) (A : Option Addr) (n c : Nat) (at_ : Int) (hR : RrAt w g A n c at_ 0) :
    Calls Try.prog 74 #[.pointer (some ⟨g, 0, none⟩), .bool false] w fun e w' => e = .returned (.tuple #[]) ∧ RrAt w' g A n c at_ 8 ∧ Only g w w' := by
  refine (form_no w g A n c at_ hR).mono ?_
  rintro e w' ⟨rfl, rfl⟩
  exact ⟨rfl, hR.setE 8, (Only.refl g w).setCell 2 _⟩
theorem RrAt.other {w : World} {g : Nat} {A : Option Addr} {n c : Nat} {at_ e : Int} (h : RrAt w g A n c at_ e) (b o : Nat) (hb : b ≠ g) (v : Value) : RrAt (w.setCell ⟨b, o, none⟩ v) g A n c at_ e :=
  ⟨⟨(World.cell?_setCell_other _ _ _ _ (by simp [hb])).trans h.1.1, (World.cell?_setCell_other _ _ _ _ (by simp [hb])).trans h.1.2.1, (World.cell?_setCell_other _ _ _ _ (by simp [hb])).trans h.1.2.2⟩, by rw [World.frozen?_setCell]; exact h.2.1, by rw [World.frozen?_setCell]; exact h.2.2⟩
theorem ClAt.other {w : World} {g : Nat} {c : Cl} {A : Option Addr} {n d : Nat} (h : ClAt w g c A n d) (b o : Nat) (hb : b ≠ g) (v : Value) : ClAt (w.setCell ⟨b, o, none⟩ v) g c A n d :=
  ⟨(World.cell?_setCell_other _ _ _ _ (by simp [hb])).trans h.1, (World.cell?_setCell_other _ _ _ _ (by simp [hb])).trans h.2.1, (World.cell?_setCell_other _ _ _ _ (by simp [hb])).trans h.2.2.1, (World.cell?_setCell_other _ _ _ _ (by simp [hb])).trans h.2.2.2.1, (World.cell?_setCell_other _ _ _ _ (by simp [hb])).trans h.2.2.2.2⟩
theorem ClAt.setTotal {w : World} {g : Nat} {ky ch t sp : Int} {lo : List Int} {A : Option Addr} {n d : Nat} (h : ClAt w g ⟨ky, ch, t, sp, lo⟩ A n d) (x : Int) : ClAt (w.setCell ⟨g, 2, none⟩ (.int .i64 x)) g ⟨ky, ch, x, sp, lo⟩ A n d :=
  ⟨(World.cell?_setCell_other _ _ _ _ (by simp)).trans h.1, (World.cell?_setCell_other _ _ _ _ (by simp)).trans h.2.1, World.cell?_setCell_same _ _ _ h.2.2.1, (World.cell?_setCell_other _ _ _ _ (by simp)).trans h.2.2.2.1, (World.cell?_setCell_other _ _ _ _ (by simp)).trans h.2.2.2.2⟩
theorem ClAt.setLoc {w : World} {g : Nat} {ky ch t sp : Int} {lo : List Int} {A : Option Addr} {n d : Nat} (h : ClAt w g ⟨ky, ch, t, sp, lo⟩ A n d) (x : List Int) (B : Option Addr) (m e : Nat) : ClAt (w.setCell ⟨g, 3, none⟩ (.slice B m e)) g ⟨ky, ch, t, sp, x⟩ B m e :=
  ⟨(World.cell?_setCell_other _ _ _ _ (by simp)).trans h.1, (World.cell?_setCell_other _ _ _ _ (by simp)).trans h.2.1, (World.cell?_setCell_other _ _ _ _ (by simp)).trans h.2.2.1, World.cell?_setCell_same _ _ _ h.2.2.2.1, (World.cell?_setCell_other _ _ _ _ (by simp)).trans h.2.2.2.2⟩
theorem ClAt.setSpill {w : World} {g : Nat} {ky ch t sp : Int} {lo : List Int} {A : Option Addr} {n d : Nat} (h : ClAt w g ⟨ky, ch, t, sp, lo⟩ A n d) (x : Int) : ClAt (w.setCell ⟨g, 4, none⟩ (.int .i64 x)) g ⟨ky, ch, t, x, lo⟩ A n d :=
  ⟨(World.cell?_setCell_other _ _ _ _ (by simp)).trans h.1, (World.cell?_setCell_other _ _ _ _ (by simp)).trans h.2.1, (World.cell?_setCell_other _ _ _ _ (by simp)).trans h.2.2.1, (World.cell?_setCell_other _ _ _ _ (by simp)).trans h.2.2.2.1, World.cell?_setCell_same _ _ _ h.2.2.2.2⟩
theorem there_keepC {w w' : World} {B g n : Nat} (h : w.there g 0 n) (hb : Below B w w') (hg : g < B) : w'.there g 0 n := fun j hj => by
  obtain ⟨h1, h2⟩ := h j hj
  exact ⟨by rw [hb.cell (by simpa using hg)]; exact h1, by rw [hb.frozen (by simpa using hg)]; exact h2⟩
theorem there_setC {w : World} {g n : Nat} (h : w.there g 0 n) (a : Addr) (v : Value) : (w.setCell a v).there g 0 n := fun j hj => by
  obtain ⟨h1, h2⟩ := h j hj
  refine ⟨?_, by rw [World.frozen?_setCell]; exact h2⟩
  by_cases e : a = ⟨g, 0 + j, none⟩
  · subst e
    obtain ⟨u, hu⟩ := Option.isSome_iff_exists.1 h1
    rw [World.cell?_setCell_same _ _ _ hu]; rfl
  · rw [World.cell?_setCell_other _ _ _ _ e]; exact h1
theorem rd_offC {w : World} {g off : Nat} {l : List Int} (h : Rd w (some ⟨g, off, none⟩) l) (k : Nat) : Rd w (some ⟨g, off + k, none⟩) (l.drop k) := by
  rcases h with rfl | ⟨b, o, he, hc⟩
  · exact .inl (by simp)
  · cases he
    refine .inr ⟨_, _, rfl, fun i hi => ?_⟩
    simp at hi
    have := hc (k + i) (by omega)
    rw [show off + k + i = off + (k + i) by omega, this]
    simp [bt]
theorem rd_takeC {w : World} {A : Option Addr} {l : List Int} (h : Rd w A l) (n : Nat) : Rd w A (l.take n) := by
  rcases h with h | ⟨b, off, rfl, hc⟩
  · exact .inl (by simp [h])
  · refine .inr ⟨b, off, rfl, fun i hi => ?_⟩
    simp at hi
    rw [hc i (by omega)]
    simp [bt, show i < n by omega]
theorem heapC_ne (w : World) (a : Addr) (v : Value) {i : Nat} (h : i ≠ a.block) : (w.setCell a v).heap[i]? = w.heap[i]? := by
  simp [World.setCell, Array.getElem?_modify, Ne.symm h]
theorem OwnB.apartC {w w' : World} {base : Nat} {A : Option Addr} {n c : Nat} {l : List Int} (h : OwnB w base A n c l) (hb : ∀ i, base ≤ i → w'.heap[i]? = w.heap[i]?) : OwnB w' base A n c l := by
  refine ⟨h.1, ?_⟩
  rcases h.2 with hv | ⟨g, cap, cur, hv, hbg, hg, rest⟩
  · exact .inl hv
  · exact .inr ⟨g, cap, cur, hv, hbg, (hb g hbg).trans hg, rest⟩
def HeldR (g : Nat) (A : Option Addr) (n c : Nat) (at_ : Int) (wr W : World) : Prop := RrAt W g A n c at_ 0 ∧ Below g wr W
set_option maxHeartbeats 16000000 in
theorem load_any (w : World) (g gc : Nat) (A : Option Addr) (n c : Nat) (l : List Int) (a : Nat) (ky ch : Int) (hR : RrAt w g A n c a 0) (hC : ClAt w gc ⟨ky, ch, 0, 0, []⟩ none 0 0) (hT : w.there gc 0 5) (hg : g < gc) (hgc : gc < w.heap.size)
    (hn : l.length = n) (hnc : n ≤ c) (hcm : c ≤ maxLen) (hA : Rd w A l) (hAg : ∀ x, A = some x → l ≠ [] → x.block < g) (hB : IsB l) (ha : a ≤ n) (R : Ending → World → Prop) (hP : R = LoadBack w g gc A n c ky ch (payD l a)) :
    Calls Try.prog 76 #[.pointer (some ⟨g, 0, none⟩), .pointer (some ⟨gc, 0, none⟩)] w R := by
  have HP := Lib.hid hP; clear hP
  have HN := Lib.hid hn; clear hn
  have HB := Lib.hid hB; clear hB
  have HCM := Lib.hid hcm
  unfold maxLen at hcm
  have HA := Lib.hid hA; clear hA
  have HAG := Lib.hid hAg; clear hAg
  have HC := Lib.hid hC; clear hC
  have HT := Lib.hid hT; clear hT
  have HR := Lib.hid hR; clear hR
  have hfin : ∀ (W : World) (at' e' : Int), e' ≠ 0 → payD l a = py0 e' → RrAt W g A n c at' e' → Below g w W → R (.returned (.tuple #[])) W := by
    intro W at' e' h1 h2 h3 h4
    rw [HP.out]
    exact ⟨at', e', rfl, h3, by rw [h2]; rfl, fun h => absurd h h1, h4⟩
  have HFIN := Lib.hid hfin; clear hfin
  have rdOnly : ∀ W : World, Below g w W → Rd W A l := fun W hW => by
    by_cases hl0 : l = []
    · exact .inl hl0
    · exact HA.out.below hW (fun x hx => HAG.out x hx hl0)
  have RDO := Lib.hid rdOnly; clear rdOnly
  obtain ⟨⟨v, p, z⟩, hU⟩ : ∃ U, unvL l a = U := ⟨_, rfl⟩
  have HU := Lib.hid hU
  go_enter Try.func76, Try.ntmps76
  go_wp2_with fail
  by_cases hz : z = 0
  rotate_left
  · have HZE := Lib.hid hz
    have z1 : (z != 0) = true := by simp [hz]
    have z2 : (z == 0) = false := by simp [hz]
    refine (next_err _ g A n c l a v p z HR.out HN.out hnc HCM.out HA.out HB.out (by omega) hU hz).mono ?_
    rintro e w1 ⟨rfl, ⟨at1, hr1⟩, ho1⟩
    have HE := Lib.hid hr1
    have hb1 : Below g w w1 := ho1.below (Nat.le_refl _)
    clear hr1 ho1 hz hU
    go_wp2_with fail
    refine (form_bad _ g A n c _ _ _ HE.out HZE.out).mono ?_
    rintro e w0 ⟨rfl, rfl⟩
    go_wp2_with fail
    refine (next_bad _ g A n c _ _ HE.out HZE.out).mono ?_
    rintro e w0 ⟨rfl, rfl⟩
    go_wp2_with fail
    refine (form_bad _ g A n c _ _ _ HE.out HZE.out).mono ?_
    rintro e w0 ⟨rfl, rfl⟩
    obtain ⟨⟨r0, r1, r2⟩, f1, f2⟩ := HE.out
    go_upto_region 4 with fail
    go_quiet (fail)
    go_wp2
    go_end0
    exact HFIN.out _ _ _ HZE.out (pay_e1 HU.out HZE.out) (HE.out.drewN nq) (below_drewN hb1 nq)
  subst hz
  obtain ⟨q1, hq1, hq1a, hq1n, hq1v, hv1, hv2⟩ := unv_at HB.out a (by rw [hU])
  rw [hU] at hq1 hq1v hv1 hv2
  simp only at hq1 hq1v hv1 hv2
  subst hq1
  rw [HN.out] at hq1n
  clear hq1v
  refine (next_yes _ g A n c l a v q1 HR.out HN.out hnc HCM.out HA.out HB.out (by omega) hU).mono ?_
  rintro e w1 ⟨rfl, hr1, ho1⟩
  have hb1 : Below g w w1 := ho1.below (Nat.le_refl _)
  have HR1 := Lib.hid hr1
  have HO1 := Lib.hid ho1
  clear hr1 ho1 hU
  by_cases hv : v < 0 ∨ 16384 < v
  · have HV := Lib.hid hv
    have HZE := Lib.hid (show (8 : Int) ≠ 0 by decide)
    rcases hv with hv | hv
    · skip
      have hd : decide (0 ≤ v) = false := decide_eq_false (by omega)
      go_wp2_with fail
      refine (form_no2 _ g A n c _ HR1.out).mono ?_
      rintro e w2 ⟨rfl, hr2, ho2⟩
      have HE := Lib.hid hr2
      have hb2 : Below g w w2 := hb1.trans (ho2.below (Nat.le_refl _))
      clear hr2 ho2
      go_wp2_with fail
      refine (next_bad _ g A n c _ _ HE.out HZE.out).mono ?_
      rintro e w0 ⟨rfl, rfl⟩
      go_wp2_with fail
      refine (form_bad _ g A n c _ _ _ HE.out HZE.out).mono ?_
      rintro e w0 ⟨rfl, rfl⟩
      obtain ⟨⟨r0, r1, r2⟩, f1, f2⟩ := HE.out
      go_upto_region 4 with fail
      go_quiet (fail)
      go_wp2
      go_end0
      exact HFIN.out _ _ _ HZE.out (pay_f1 HU.out HV.out) (HE.out.drewN nq) (below_drewN hb2 nq)
    · skip
      have hd : decide (v ≤ 16384) = false := decide_eq_false (by omega)
      go_wp2_with fail
      refine (form_no2 _ g A n c _ HR1.out).mono ?_
      rintro e w2 ⟨rfl, hr2, ho2⟩
      have HE := Lib.hid hr2
      have hb2 : Below g w w2 := hb1.trans (ho2.below (Nat.le_refl _))
      clear hr2 ho2
      go_wp2_with fail
      refine (next_bad _ g A n c _ _ HE.out HZE.out).mono ?_
      rintro e w0 ⟨rfl, rfl⟩
      go_wp2_with fail
      refine (form_bad _ g A n c _ _ _ HE.out HZE.out).mono ?_
      rintro e w0 ⟨rfl, rfl⟩
      obtain ⟨⟨r0, r1, r2⟩, f1, f2⟩ := HE.out
      go_upto_region 4 with fail
      go_quiet (fail)
      go_wp2
      go_end0
      exact HFIN.out _ _ _ HZE.out (pay_f1 HU.out HV.out) (HE.out.drewN nq) (below_drewN hb2 nq)
  have HV := Lib.hid hv
  have hv0 : 0 ≤ v := by omega
  have hv9 : v ≤ 16384 := by omega
  clear hv
  go_wp2_with fail
  refine (form_ok _ g A n c _ _ HR1.out).mono ?_
  rintro e w2 ⟨rfl, rfl⟩
  obtain ⟨⟨m, p2, z2⟩, hU2⟩ : ∃ U, unvL l q1 = U := ⟨_, rfl⟩
  have HU2 := Lib.hid hU2
  go_wp2_with fail
  by_cases hz2 : z2 = 0
  rotate_left
  · have HZE := Lib.hid hz2
    have z1 : (z2 != 0) = true := by simp [hz2]
    have z2' : (z2 == 0) = false := by simp [hz2]
    refine (next_err _ g A n c l q1 m p2 z2 HR1.out HN.out hnc HCM.out (RDO.out _ hb1) HB.out (by omega) hU2 hz2).mono ?_
    rintro e w3 ⟨rfl, ⟨at1, hr3⟩, ho3⟩
    have HE := Lib.hid hr3
    have hb3 : Below g w w3 := hb1.trans (ho3.below (Nat.le_refl _))
    clear hr3 ho3 hz2 hU2
    go_wp2_with fail
    refine (form_bad _ g A n c _ _ _ HE.out HZE.out).mono ?_
    rintro e w0 ⟨rfl, rfl⟩
    obtain ⟨⟨r0, r1, r2⟩, f1, f2⟩ := HE.out
    go_upto_region 4 with fail
    go_quiet (fail)
    go_wp2
    go_end0
    exact HFIN.out _ _ _ HZE.out (pay_e2 HU.out HV.out HU2.out HZE.out) (HE.out.drewN nq) (below_drewN hb3 nq)
  subst hz2
  obtain ⟨q2, hq2, hq2a, hq2n, hq2v, hm1, hm2⟩ := unv_at HB.out q1 (by rw [hU2])
  rw [hU2] at hq2 hq2v hm1 hm2
  simp only at hq2 hq2v hm1 hm2
  subst hq2
  rw [HN.out] at hq2n
  clear hq2v
  refine (next_yes _ g A n c l q1 m q2 HR1.out HN.out hnc HCM.out (RDO.out _ hb1) HB.out (by omega) hU2).mono ?_
  rintro e w3 ⟨rfl, hr3, ho3⟩
  have hb3 : Below g w w3 := hb1.trans (ho3.below (Nat.le_refl _))
  have HR3 := Lib.hid hr3
  have HO3 := Lib.hid (HO1.out.trans ho3)
  clear hr3 ho3 hU2 HR1 HO1 hb1
  by_cases hm : m < 0 ∨ v < m
  · have HM := Lib.hid hm
    have HZE := Lib.hid (show (8 : Int) ≠ 0 by decide)
    rcases hm with hm | hm
    · skip
      have hd : decide (0 ≤ m) = false := decide_eq_false (by omega)
      go_wp2_with fail
      refine (form_no2 _ g A n c _ HR3.out).mono ?_
      rintro e w4 ⟨rfl, hr4, ho4⟩
      have HE := Lib.hid hr4
      have hb4 : Below g w w4 := hb3.trans (ho4.below (Nat.le_refl _))
      clear hr4 ho4
      obtain ⟨⟨r0, r1, r2⟩, f1, f2⟩ := HE.out
      go_upto_region 4 with fail
      go_quiet (fail)
      go_wp2
      go_end0
      exact HFIN.out _ _ _ HZE.out (pay_f2 HU.out HV.out HU2.out HM.out) (HE.out.drewN nq) (below_drewN hb4 nq)
    · skip
      have hd : decide (m ≤ v) = false := decide_eq_false (by omega)
      go_wp2_with fail
      refine (form_no2 _ g A n c _ HR3.out).mono ?_
      rintro e w4 ⟨rfl, hr4, ho4⟩
      have HE := Lib.hid hr4
      have hb4 : Below g w w4 := hb3.trans (ho4.below (Nat.le_refl _))
      clear hr4 ho4
      obtain ⟨⟨r0, r1, r2⟩, f1, f2⟩ := HE.out
      go_upto_region 4 with fail
      go_quiet (fail)
      go_wp2
      go_end0
      exact HFIN.out _ _ _ HZE.out (pay_f2 HU.out HV.out HU2.out HM.out) (HE.out.drewN nq) (below_drewN hb4 nq)
  have HM := Lib.hid hm
  obtain ⟨mn, rfl, hmn⟩ : ∃ mn : Nat, m = (mn : Int) ∧ (mn : Int) ≤ v := ⟨m.toNat, by omega, by omega⟩
  clear hm
  go_wp2_with fail
  refine (form_ok _ g A n c _ _ HR3.out).mono ?_
  rintro e w4 ⟨rfl, rfl⟩
  have hsub : IntKind.i64.wrap ((n : Int) - (q2 : Int)) = (n : Int) - (q2 : Int) := IntWalk.i64_in _ (by omega)
  obtain ⟨⟨r0, r1, r2⟩, f1, f2⟩ := HR3.out
  go_upto_region 4 with fail
  by_cases hs : (n : Int) - (q2 : Int) < (mn : Int)
  · go_quiet (fail)
    have HE := Lib.hid ((HR3.out.drewN nq).setE 6)
    have hb5 : Below g w ((w3.drewN nq).setCell ⟨g, 2, none⟩ (.int .i64 6)) := (below_drewN hb3 nq).setCell (Nat.le_refl _) _
    clear hsub
    go_wp2
    go_end0
    exact HFIN.out _ _ 6 (by decide) (pay_s HU.out HV.out HU2.out HM.out (by rw [HN.out]; exact hs)) HE.out hb5
  go_quiet (fail)
  obtain ⟨wr, hwr⟩ : ∃ x, x = w3.drewN nq := ⟨_, rfl⟩
  rw [← hwr]
  have hor : Only g w wr := by rw [hwr]; exact HO3.out.drewN nq
  have hbr : Below g w wr := hor.below (Nat.le_refl _)
  have hrr : RrAt wr g A n c q2 0 := by rw [hwr]; exact HR3.out.drewN nq
  clear hwr r0 r1 r2 f1 f2 hsub
  have HSS := Lib.hid hs
  have hfit : q2 + mn ≤ n := by omega
  clear hs
  have hsz := hor.size
  have hcl : ClAt wr gc ⟨ky, ch, 0, 0, []⟩ none 0 0 := by
    obtain ⟨x0, x1, x2, x3, x4⟩ := HC.out
    exact ⟨(hor.cell (by simp only; omega)).trans x0, (hor.cell (by simp only; omega)).trans x1, (hor.cell (by simp only; omega)).trans x2, (hor.cell (by simp only; omega)).trans x3, (hor.cell (by simp only; omega)).trans x4⟩
  have hth : wr.there gc 0 5 := fun j hj => by
    obtain ⟨h1, h2⟩ := HT.out j hj
    exact ⟨by rw [hor.cell (by simp only; omega)]; exact h1, by rw [hor.frozen (by simp only; omega)]; exact h2⟩
  have HRR := Lib.hid hrr
  obtain ⟨⟨r0, r1, r2⟩, f1, f2⟩ := hrr
  obtain ⟨x0, x1, x2, x3, x4⟩ := hcl
  have y2 := (hth 2 (by decide)).2
  rw [Nat.zero_add] at y2
  have HTH := Lib.hid hth
  clear hth
  go_upto_region 8 with fail
  obtain ⟨wq, hwq⟩ : ∃ x, x = wr.setCell ⟨gc, 2, none⟩ (.int .i64 v) := ⟨_, rfl⟩
  rw [← hwq]
  have hRq : RrAt wq g A n c q2 0 := by rw [hwq]; exact HRR.out.other gc 2 (by omega) _
  have hCq : ClAt wq gc ⟨ky, ch, v, 0, []⟩ none 0 0 := by rw [hwq]; exact ClAt.setTotal ⟨x0, x1, x2, x3, x4⟩ v
  have hTq : wq.there gc 0 5 := by rw [hwq]; exact there_setC HTH.out _ _
  have hbq : Below g w wq := by rw [hwq]; exact hbr.setCell (by simp only; omega) _
  have hzq : wq.heap.size = w.heap.size := by rw [hwq]; simp only [World.setCell, Array.size_modify]; exact hsz
  clear hwq r0 r1 r2 f1 f2 x0 x1 x2 x3 x4 y2
  have HRQ := Lib.hid hRq
  have HCQ := Lib.hid hCq
  have HTQ := Lib.hid hTq
  clear hRq hCq hTq
  obtain ⟨b0, o0, rfl, _, hcc⟩ := HA.out.at (by rw [HN.out]; omega)
  clear hcc
  obtain ⟨Z, hZ⟩ : ∃ Z, Z = (l.drop q2).take mn := ⟨_, rfl⟩
  have hZl : Z.length = mn := by rw [hZ, List.length_take, List.length_drop, HN.out]; omega
  have hZr : Rd w (some ⟨b0, o0 + q2, none⟩) Z := by rw [hZ]; exact rd_takeC (rd_offC HA.out q2) mn
  have HZL := Lib.hid hZl
  have HZR := Lib.hid hZr
  have HZE2 := Lib.hid hZ
  clear hZ hZl hZr
  have hbw : b0 < g := HAG.out _ rfl (fun e9 => by have h9 := HN.out; rw [e9] at h9; simp only [List.length_nil] at h9; omega)
  have L0 : ∀ W, HeldR g (some ⟨b0, o0, none⟩) n c q2 wq W → W.cell? ⟨g, 0, none⟩ = some (.slice (some ⟨b0, o0, none⟩) n c) := fun W h => h.1.1.1
  have L1 : ∀ W, HeldR g (some ⟨b0, o0, none⟩) n c q2 wq W → W.cell? ⟨g, 1, none⟩ = some (.int .i64 q2) := fun W h => h.1.1.2.1
  have i0 : (0 : Int) ≤ (q2 : Int) := by omega
  have i1 : (q2 : Int) ≤ (q2 : Int) + (mn : Int) := by omega
  have i2 : (q2 : Int) + (mn : Int) ≤ (c : Int) := by omega
  have t1 : ((q2 : Int) + (mn : Int)).toNat = q2 + mn := by omega
  have t3 : q2 + mn - q2 = mn := by omega
  have e1 : IntKind.i64.wrap ((q2 : Int) + (mn : Int)) = (q2 : Int) + (mn : Int) := IntWalk.i64_in _ (by omega)
  by_cases hcq : c = q2
  · have hm0 : mn = 0 := by omega
    have HZX := Lib.hid (show Rd wq.drew (some ⟨b0, o0, none⟩) Z from .inl (List.eq_nil_of_length_eq_zero (by rw [HZL.out]; exact hm0)))
    have HM0 := Lib.hid hm0
    clear hm0
    have hcq2 : q2 = c := hcq.symm
    subst hcq2
    clear hcq
    refine wp_region_held_drew (S := (fun W => HeldR g (some ⟨b0, o0, none⟩) n q2 q2 wq W)) (by kernel_rfl) ?_ (fun hHeld => ?_)
    · exact ⟨HRQ.out.drewN 1, (Below.refl _ wq).drew⟩
    refine' wpAnyH_take (i := 0) (oi := _) (v := _) rfl (by kernel_rfl) (by kernel_rfl) (by kernel_rfl) (fun _ _ _ h => h) (Or.inl ⟨by rfl, ?hu0⟩) (by assumption) ?rst0
    case hu0 => (intro w' hSw; (try dsimp only at hSw); go_simp; try with_reducible rfl)
    try simp only [Act.put, List.setIfInBounds_toArray, List.set_cons_zero, List.set_cons_succ, List.getElem_toArray, List.getElem_cons_zero, List.getElem_cons_succ]
    refine' wpAnyH_take (i := 1) (oi := _) (v := _) rfl (by kernel_rfl) (by kernel_rfl) (by kernel_rfl) (fun _ _ _ h => h) (Or.inl ⟨by rfl, ?hu1⟩) (by assumption) ?rst1
    case hu1 => (intro w' hSw; (try dsimp only at hSw); go_simp; try with_reducible rfl)
    try simp only [Act.put, List.setIfInBounds_toArray, List.set_cons_zero, List.set_cons_succ, List.getElem_toArray, List.getElem_cons_zero, List.getElem_cons_succ]
    refine' wpAnyH_take (i := 2) (oi := _) (v := _) rfl (by kernel_rfl) (by kernel_rfl) (by kernel_rfl) (fun _ _ _ h => h) (Or.inl ⟨by rfl, ?hu2⟩) (by assumption) ?rst2
    case hu2 => (intro w' hSw; (try dsimp only at hSw); go_simp; try with_reducible rfl)
    try simp only [Act.put, List.setIfInBounds_toArray, List.set_cons_zero, List.set_cons_succ, List.getElem_toArray, List.getElem_cons_zero, List.getElem_cons_succ]
    refine' wpAnyH_take (i := 3) (oi := _) (v := _) rfl (by kernel_rfl) (by kernel_rfl) (by kernel_rfl) (fun _ _ _ h => h) (Or.inl ⟨by rfl, ?hu3⟩) (by assumption) ?rst3
    case hu3 => (intro w' hSw; (try dsimp only at hSw); go_simp; try with_reducible rfl)
    try simp only [Act.put, List.setIfInBounds_toArray, List.set_cons_zero, List.set_cons_succ, List.getElem_toArray, List.getElem_cons_zero, List.getElem_cons_succ]
    refine' wpAnyH_take (i := 4) (oi := _) (v := _) rfl (by kernel_rfl) (by kernel_rfl) (by kernel_rfl) (fun _ _ _ h => h) (Or.inl ⟨by rfl, ?hu4⟩) (by assumption) ?rst4
    case hu4 => (intro w' hSw; (try dsimp only at hSw); go_simp; try with_reducible rfl)
    try simp only [Act.put, List.setIfInBounds_toArray, List.set_cons_zero, List.set_cons_succ, List.getElem_toArray, List.getElem_cons_zero, List.getElem_cons_succ]
    refine' wpAnyH_take (i := 5) (oi := _) (v := _) rfl (by kernel_rfl) (by kernel_rfl) (by kernel_rfl) (fun _ _ _ h => h) (Or.inl ⟨by rfl, ?hu5⟩) (by assumption) ?rst5
    case hu5 => (intro w' hSw; (try dsimp only at hSw); go_simp; try with_reducible rfl)
    try simp only [Act.put, List.setIfInBounds_toArray, List.set_cons_zero, List.set_cons_succ, List.getElem_toArray, List.getElem_cons_zero, List.getElem_cons_succ]
    refine' wpAnyH_take (i := 6) (oi := _) (v := _) rfl (by kernel_rfl) (by kernel_rfl) (by kernel_rfl) (fun _ _ _ h => h) (Or.inl ⟨by rfl, ?hu6⟩) (by assumption) ?rst6
    case hu6 => (intro w' hSw; (try dsimp only at hSw); go_simp; try with_reducible rfl)
    try simp only [Act.put, List.setIfInBounds_toArray, List.set_cons_zero, List.set_cons_succ, List.getElem_toArray, List.getElem_cons_zero, List.getElem_cons_succ]
    refine' wpAnyH_take (i := 7) (oi := _) (v := _) rfl (by kernel_rfl) (by kernel_rfl) (by kernel_rfl) (fun _ _ _ h => h) (Or.inl ⟨by rfl, ?hu7⟩) (by assumption) ?rst7
    case hu7 => (intro w' hSw; (try dsimp only at hSw); go_simp; try with_reducible rfl)
    try simp only [Act.put, List.setIfInBounds_toArray, List.set_cons_zero, List.set_cons_succ, List.getElem_toArray, List.getElem_cons_zero, List.getElem_cons_succ]
    refine' wpAnyH_take (i := 8) (oi := _) (v := _) rfl (by kernel_rfl) (by kernel_rfl) (by kernel_rfl) (fun _ _ _ h => h) (Or.inl ⟨by rfl, ?hu8⟩) (by assumption) ?rst8
    case hu8 => (intro w' hSw; (try dsimp only at hSw); go_simp; try with_reducible rfl)
    try simp only [Act.put, List.setIfInBounds_toArray, List.set_cons_zero, List.set_cons_succ, List.getElem_toArray, List.getElem_cons_zero, List.getElem_cons_succ]
    refine' wpAnyH_take (i := 9) (oi := _) (v := _) rfl (by kernel_rfl) (by kernel_rfl) (by kernel_rfl) (fun _ _ _ h => h) (Or.inl ⟨by rfl, ?hu9⟩) (by assumption) ?rst9
    case hu9 => (intro w' hSw; (try dsimp only at hSw); go_simp; try with_reducible rfl)
    try simp only [Act.put, List.setIfInBounds_toArray, List.set_cons_zero, List.set_cons_succ, List.getElem_toArray, List.getElem_cons_zero, List.getElem_cons_succ]
    refine' wpAnyH_take (i := 10) (oi := _) (v := _) rfl (by kernel_rfl) (by kernel_rfl) (by kernel_rfl) (fun _ _ _ h => h) (Or.inl ⟨by rfl, ?hu10⟩) (by assumption) ?rst10
    case hu10 => (intro w' hSw; (try dsimp only at hSw); go_simp; try with_reducible rfl)
    try simp only [Act.put, List.setIfInBounds_toArray, List.set_cons_zero, List.set_cons_succ, List.getElem_toArray, List.getElem_cons_zero, List.getElem_cons_succ]
    refine' wpAnyH_take (i := 11) (oi := _) (v := _) rfl (by kernel_rfl) (by kernel_rfl) (by kernel_rfl) (fun _ _ _ h => h) (Or.inl ⟨by rfl, ?hu11⟩) (by assumption) ?rst11
    case hu11 => (intro w' hSw; (try dsimp only at hSw); go_simp; try with_reducible rfl)
    try simp only [Act.put, List.setIfInBounds_toArray, List.set_cons_zero, List.set_cons_succ, List.getElem_toArray, List.getElem_cons_zero, List.getElem_cons_succ]
    refine' wpAnyH_take (i := 12) (oi := _) (v := _) rfl (by kernel_rfl) (by kernel_rfl) (by kernel_rfl) (fun _ _ _ h => h) (Or.inl ⟨by rfl, ?hu12⟩) (by assumption) ?rst12
    case hu12 => (intro w' hSw; (try dsimp only at hSw); go_simp; try with_reducible rfl)
    try simp only [Act.put, List.setIfInBounds_toArray, List.set_cons_zero, List.set_cons_succ, List.getElem_toArray, List.getElem_cons_zero, List.getElem_cons_succ]
    refine' wpAnyH_take (i := 13) (oi := _) (v := _) rfl (by kernel_rfl) (by kernel_rfl) (by kernel_rfl) (fun _ _ _ h => h) (Or.inl ⟨by rfl, ?hu13⟩) (by assumption) ?rst13
    case hu13 => (intro w' hSw; (try dsimp only at hSw); go_simp; try with_reducible rfl)
    try simp only [Act.put, List.setIfInBounds_toArray, List.set_cons_zero, List.set_cons_succ, List.getElem_toArray, List.getElem_cons_zero, List.getElem_cons_succ]
    refine' wpAnyH_take (i := 14) (oi := _) (v := _) rfl (by kernel_rfl) (by kernel_rfl) (by kernel_rfl) (fun _ _ _ h => h) (Or.inl ⟨by rfl, ?hu14⟩) (by assumption) ?rst14
    case hu14 => (intro w' hSw; (try dsimp only at hSw); go_simp; try with_reducible rfl)
    try simp only [Act.put, List.setIfInBounds_toArray, List.set_cons_zero, List.set_cons_succ, List.getElem_toArray, List.getElem_cons_zero, List.getElem_cons_succ]
    refine' wpAnyH_take (i := 15) (oi := _) (v := _) rfl (by kernel_rfl) (by kernel_rfl) (by kernel_rfl) (fun _ _ _ h => h) (Or.inl ⟨by rfl, ?hu15⟩) (by assumption) ?rst15
    case hu15 => (intro w' hSw; (try dsimp only at hSw); go_simp; try with_reducible rfl)
    try simp only [Act.put, List.setIfInBounds_toArray, List.set_cons_zero, List.set_cons_succ, List.getElem_toArray, List.getElem_cons_zero, List.getElem_cons_succ]
    refine wpAnyH_ready (rs := [16]) (by kernel_rfl) (by simp) ?_
    refine AllReadyH.cons (o := _) rfl (fun K hK => ?_) AllReadyH.nil
    refine step_append rfl (.const (.slice none 0 0)) (.tmp 74) rfl wq.heap.size none 0 0 [] rfl (OwnB.nil _ _) (some ⟨b0, o0, none⟩) mn 0 Z rfl HZL.out HZX.out (by omega) (by simp) ?_
    intro A7 c7 w7 hown7 _ hb7
    have hb7' : Below wq.heap.size wq w7 := ((Below.refl _ wq).drew).trans hb7
    simp only [List.nil_append, Nat.zero_add] at hown7 ⊢
    have HO7 := Lib.hid hown7
    have HC7 := Lib.hid (HCQ.out.keep hb7')
    have HT7 := Lib.hid (there_keepC HTQ.out hb7' (by omega))
    have HR7 : HeldR g (some ⟨b0, o0, none⟩) n q2 q2 wq w7 := by
      obtain ⟨⟨r0, r1, r2⟩, f1, f2⟩ := HRQ.out
      exact ⟨⟨⟨(hb7'.cell (by simp only; omega)).trans r0, (hb7'.cell (by simp only; omega)).trans r1, (hb7'.cell (by simp only; omega)).trans r2⟩, (hb7'.frozen (by simp only; omega)).trans f1, (hb7'.frozen (by simp only; omega)).trans f2⟩, ⟨hb7'.os, hb7'.tape, hb7'.output, hb7'.size, fun i hi => hb7'.block i (by omega)⟩⟩
    have m3 := HC7.out.2.2.2.1
    have n3 := (HT7.out 3 (by decide)).2
    rw [Nat.zero_add] at n3
    clear hown7 hb7
    refine hK.out _ _ ?_ (fun hHeld => ?_)
    · exact HR7
    clear hK K
    try simp only [Act.put, List.setIfInBounds_toArray, List.set_cons_zero, List.set_cons_succ, List.getElem_toArray, List.getElem_cons_zero, List.getElem_cons_succ]
    refine' wpAnyH_take (i := 17) (oi := _) (v := _) rfl (by kernel_rfl) (by kernel_rfl) (by kernel_rfl) (fun _ _ _ h => h) (Or.inl ⟨by rfl, ?hu17⟩) (by assumption) ?rst17
    case hu17 => (intro w' hSw; (try dsimp only at hSw); go_simp; try with_reducible rfl)
    try simp only [Act.put, List.setIfInBounds_toArray, List.set_cons_zero, List.set_cons_succ, List.getElem_toArray, List.getElem_cons_zero, List.getElem_cons_succ]
    refine' wpAnyH_take (i := 18) (oi := _) (v := _) rfl (by kernel_rfl) (by kernel_rfl) (by kernel_rfl) (fun _ _ _ h => h) (Or.inl ⟨by rfl, ?hu18⟩) (by assumption) ?rst18
    case hu18 => (intro w' hSw; (try dsimp only at hSw); go_simp; try with_reducible rfl)
    try simp only [Act.put, List.setIfInBounds_toArray, List.set_cons_zero, List.set_cons_succ, List.getElem_toArray, List.getElem_cons_zero, List.getElem_cons_succ]
    refine wpAnyH_ready (rs := [19]) (by kernel_rfl) (by simp) ?_
    refine AllReadyH.cons (o := _) rfl (fun K hK => ?_) AllReadyH.nil
    go_simp
    refine hK.out _ _ ?_ (fun hHeld => ?_)
    · exact ⟨HR7.1.other gc 3 (by omega) _, HR7.2.setCell (by simp only; omega) _⟩
    clear hK K
    try simp only [Act.put, List.setIfInBounds_toArray, List.set_cons_zero, List.set_cons_succ, List.getElem_toArray, List.getElem_cons_zero, List.getElem_cons_succ]
    refine wpAnyH_done (by kernel_rfl) ?_ _
    obtain ⟨w8, hw8⟩ : ∃ x, x = w7.setCell ⟨gc, 3, none⟩ (.slice A7 mn c7) := ⟨_, rfl⟩
    rw [← hw8]
    have hR8 : RrAt w8 g (some ⟨b0, o0, none⟩) n q2 q2 0 := by rw [hw8]; exact HR7.1.other gc 3 (by omega) _
    have hC8 : ClAt w8 gc ⟨ky, ch, v, 0, Z⟩ A7 mn c7 := by rw [hw8]; exact HC7.out.setLoc Z A7 mn c7
    have hb8 : Below g w w8 := by rw [hw8]; exact (hbq.trans (HR7.2)).setCell (by simp only; omega) _
    have hO8 : OwnB w8 wq.heap.size A7 mn c7 Z := by rw [hw8]; exact HO7.out.apartC (fun i hi => heapC_ne _ _ _ (by simp only; omega))
    have hT8 : w8.there gc 0 5 := by rw [hw8]; exact there_setC HT7.out _ _
    have hz8 : wq.heap.size ≤ w8.heap.size := by rw [hw8]; simp only [World.setCell, Array.size_modify]; exact hb7'.size
    have HO8 := Lib.hid hO8
    have HC8 := Lib.hid hC8
    have HR8 := Lib.hid hR8
    have HT8 := Lib.hid hT8
    clear hw8 hO8 hC8 hT8
    obtain ⟨⟨r0, r1, r2⟩, f1, f2⟩ := hR8
    have hpe : ∀ (W : World) (t sp at' : Int), payD l a = ⟨t, sp, (l.drop (q2 : Int).toNat).take (mn : Int).toNat, at', 0⟩ → RrAt W g (some ⟨b0, o0, none⟩) n q2 at' 0 → ClAt W gc ⟨ky, ch, t, sp, Z⟩ A7 mn c7 → OwnB W (g + 1) A7 mn c7 Z → Below g w W → R (.returned (.tuple #[])) W := by
      intro W t sp at' h1 h2 h3 h4 h5
      rw [Int.toNat_natCast, Int.toNat_natCast, ← HZE2.out] at h1
      rw [HP.out]
      refine ⟨at', 0, rfl, h2, by rw [h1], fun _ => ⟨by rw [h1], A7, mn, c7, ?_, ?_⟩, h5⟩
      · rw [h1]; exact h3
      · rw [h1]; exact h4
    have HPE := Lib.hid hpe
    clear hpe
    by_cases hmv : (mn : Int) < v
    rotate_left
    · have hme : (mn : Int) = v := by omega
      go_wp2
      go_end0
      refine HPE.out _ v 0 ((q2 : Int) + v) ?_ (HR8.out.setAt _) (HC8.out.other g 1 (by omega) _) ?_ (hb8.setCell (Nat.le_refl _) _)
      · have h1 := pay_all HU.out HV.out (p2 := (q2 : Int)) (by rw [← hme]; exact HU2.out) (by omega) (by rw [HN.out]; omega)
        rw [h1, hme]
      · exact (HO8.out.apartC (fun i hi => heapC_ne _ _ _ (by simp only; omega))).mono (by omega)
    have hmne : (mn : Int) ≠ v := by omega
    have HMNE := Lib.hid hmne
    clear hmne
    obtain ⟨⟨s, p3, z3⟩, hU3⟩ : ∃ U, unvL l ((q2 : Int) + (mn : Int)) = U := ⟨_, rfl⟩
    have HU3 := Lib.hid hU3
    have hpr : Below g w (w8.setCell ⟨g, 1, none⟩ (.int .i64 ((q2 : Int) + (mn : Int)))) := hb8.setCell (Nat.le_refl _) _
    go_wp2_with fail
    obtain ⟨w9, hw9⟩ : ∃ x, x = w8.setCell ⟨g, 1, none⟩ (.int .i64 ((q2 : Int) + (mn : Int))) := ⟨_, rfl⟩
    rw [← hw9] at hpr ⊢
    have hR9 : RrAt w9 g (some ⟨b0, o0, none⟩) n q2 ((q2 : Int) + (mn : Int)) 0 := by rw [hw9]; exact HR8.out.setAt _
    have hC9 : ClAt w9 gc ⟨ky, ch, v, 0, Z⟩ A7 mn c7 := by rw [hw9]; exact HC8.out.other g 1 (by omega) _
    have hO9 : OwnB w9 wq.heap.size A7 mn c7 Z := by rw [hw9]; exact HO8.out.apartC (fun i hi => heapC_ne _ _ _ (by simp only; omega))
    have hT9 : w9.there gc 0 5 := by rw [hw9]; exact there_setC HT8.out _ _
    have hz9 : wq.heap.size ≤ w9.heap.size := by rw [hw9]; simp only [World.setCell, Array.size_modify]; exact hz8
    have HR9 := Lib.hid hR9
    have HC9 := Lib.hid hC9
    have HO9 := Lib.hid hO9
    have HT9 := Lib.hid hT9
    clear hw9 hR9 hC9 hO9 hT9 r0 r1 r2 f1 f2
    by_cases hz3 : z3 = 0
    rotate_left
    · have HZE := Lib.hid hz3
      refine (next_err _ g _ n q2 l _ s p3 z3 HR9.out HN.out hnc HCM.out (RDO.out _ hpr) HB.out (by omega) hU3 hz3).mono ?_
      rintro e w10 ⟨rfl, ⟨at1, hr10⟩, ho10⟩
      have HE := Lib.hid hr10
      go_wp2_with fail
      refine (page_no _ 0 (by unfold isP; omega)).mono ?_
      rintro e w0 ⟨rfl, rfl⟩
      go_wp2_with fail
      refine (form_bad _ g _ n q2 _ _ _ HE.out HZE.out).mono ?_
      rintro e w0 ⟨rfl, rfl⟩
      have x4 := (ho10.cell (a := ⟨gc, 4, none⟩) (by simp only; omega)).trans HC9.out.2.2.2.2
      have y4 := (ho10.frozen (a := ⟨gc, 4, none⟩) (by simp only; omega)).trans (show w9.frozen? ⟨gc, 4, none⟩ = false by simpa using (HT9.out 4 (by decide)).2)
      have hb10 : Below g w w10 := hpr.trans (ho10.below (Nat.le_refl _))
      clear hr10 ho10 hz3 hU3
      go_wp2
      go_end0
      exact HFIN.out _ _ _ HZE.out (pay_e3 HU.out HV.out HU2.out HM.out (by rw [HN.out]; have := HSS.out; omega) HMNE.out HU3.out HZE.out) (HE.out.other gc 4 (by omega) _) (hb10.setCell (by simp only; omega) _)
    subst hz3
    obtain ⟨q3, hq3, hq3a, hq3n, hq3v, hs1, hs2⟩ := unv_at HB.out (q2 + mn) (by rw [Int.natCast_add, hU3])
    rw [Int.natCast_add, hU3] at hq3 hq3v hs1 hs2
    simp only at hq3 hq3v hs1 hs2
    subst hq3
    rw [HN.out] at hq3n
    clear hq3v
    exact absurd hq3n (by omega)
  have HZX := Lib.hid (HZR.out.below (show Below g w wq.drew from hbq.drew) (fun x hx => by cases hx; exact hbw))
  refine wp_region_held_drew (S := (fun W => HeldR g (some ⟨b0, o0, none⟩) n c q2 wq W)) (by kernel_rfl) ?_ (fun hHeld => ?_)
  · exact ⟨HRQ.out.drewN 1, (Below.refl _ wq).drew⟩
  refine' wpAnyH_take (i := 0) (oi := _) (v := _) rfl (by kernel_rfl) (by kernel_rfl) (by kernel_rfl) (fun _ _ _ h => h) (Or.inl ⟨by rfl, ?hy0⟩) (by assumption) ?rest0
  case hy0 => (intro w' hSw; (try dsimp only at hSw); go_simp; try with_reducible rfl)
  try simp only [Act.put, List.setIfInBounds_toArray, List.set_cons_zero, List.set_cons_succ, List.getElem_toArray, List.getElem_cons_zero, List.getElem_cons_succ]
  refine' wpAnyH_take (i := 1) (oi := _) (v := _) rfl (by kernel_rfl) (by kernel_rfl) (by kernel_rfl) (fun _ _ _ h => h) (Or.inl ⟨by rfl, ?hy1⟩) (by assumption) ?rest1
  case hy1 => (intro w' hSw; (try dsimp only at hSw); go_simp; try with_reducible rfl)
  try simp only [Act.put, List.setIfInBounds_toArray, List.set_cons_zero, List.set_cons_succ, List.getElem_toArray, List.getElem_cons_zero, List.getElem_cons_succ]
  refine' wpAnyH_take (i := 2) (oi := _) (v := _) rfl (by kernel_rfl) (by kernel_rfl) (by kernel_rfl) (fun _ _ _ h => h) (Or.inl ⟨by rfl, ?hy2⟩) (by assumption) ?rest2
  case hy2 => (intro w' hSw; (try dsimp only at hSw); go_simp; try with_reducible rfl)
  try simp only [Act.put, List.setIfInBounds_toArray, List.set_cons_zero, List.set_cons_succ, List.getElem_toArray, List.getElem_cons_zero, List.getElem_cons_succ]
  refine' wpAnyH_take (i := 3) (oi := _) (v := _) rfl (by kernel_rfl) (by kernel_rfl) (by kernel_rfl) (fun _ _ _ h => h) (Or.inl ⟨by rfl, ?hy3⟩) (by assumption) ?rest3
  case hy3 => (intro w' hSw; (try dsimp only at hSw); go_simp; try with_reducible rfl)
  try simp only [Act.put, List.setIfInBounds_toArray, List.set_cons_zero, List.set_cons_succ, List.getElem_toArray, List.getElem_cons_zero, List.getElem_cons_succ]
  refine' wpAnyH_take (i := 4) (oi := _) (v := _) rfl (by kernel_rfl) (by kernel_rfl) (by kernel_rfl) (fun _ _ _ h => h) (Or.inl ⟨by rfl, ?hy4⟩) (by assumption) ?rest4
  case hy4 => (intro w' hSw; (try dsimp only at hSw); go_simp; try with_reducible rfl)
  try simp only [Act.put, List.setIfInBounds_toArray, List.set_cons_zero, List.set_cons_succ, List.getElem_toArray, List.getElem_cons_zero, List.getElem_cons_succ]
  refine' wpAnyH_take (i := 5) (oi := _) (v := _) rfl (by kernel_rfl) (by kernel_rfl) (by kernel_rfl) (fun _ _ _ h => h) (Or.inl ⟨by rfl, ?hy5⟩) (by assumption) ?rest5
  case hy5 => (intro w' hSw; (try dsimp only at hSw); go_simp; try with_reducible rfl)
  try simp only [Act.put, List.setIfInBounds_toArray, List.set_cons_zero, List.set_cons_succ, List.getElem_toArray, List.getElem_cons_zero, List.getElem_cons_succ]
  refine' wpAnyH_take (i := 6) (oi := _) (v := _) rfl (by kernel_rfl) (by kernel_rfl) (by kernel_rfl) (fun _ _ _ h => h) (Or.inl ⟨by rfl, ?hy6⟩) (by assumption) ?rest6
  case hy6 => (intro w' hSw; (try dsimp only at hSw); go_simp; try with_reducible rfl)
  try simp only [Act.put, List.setIfInBounds_toArray, List.set_cons_zero, List.set_cons_succ, List.getElem_toArray, List.getElem_cons_zero, List.getElem_cons_succ]
  refine' wpAnyH_take (i := 7) (oi := _) (v := _) rfl (by kernel_rfl) (by kernel_rfl) (by kernel_rfl) (fun _ _ _ h => h) (Or.inl ⟨by rfl, ?hy7⟩) (by assumption) ?rest7
  case hy7 => (intro w' hSw; (try dsimp only at hSw); go_simp; try with_reducible rfl)
  try simp only [Act.put, List.setIfInBounds_toArray, List.set_cons_zero, List.set_cons_succ, List.getElem_toArray, List.getElem_cons_zero, List.getElem_cons_succ]
  refine' wpAnyH_take (i := 8) (oi := _) (v := _) rfl (by kernel_rfl) (by kernel_rfl) (by kernel_rfl) (fun _ _ _ h => h) (Or.inl ⟨by rfl, ?hy8⟩) (by assumption) ?rest8
  case hy8 => (intro w' hSw; (try dsimp only at hSw); go_simp; try with_reducible rfl)
  try simp only [Act.put, List.setIfInBounds_toArray, List.set_cons_zero, List.set_cons_succ, List.getElem_toArray, List.getElem_cons_zero, List.getElem_cons_succ]
  refine' wpAnyH_take (i := 9) (oi := _) (v := _) rfl (by kernel_rfl) (by kernel_rfl) (by kernel_rfl) (fun _ _ _ h => h) (Or.inl ⟨by rfl, ?hy9⟩) (by assumption) ?rest9
  case hy9 => (intro w' hSw; (try dsimp only at hSw); go_simp; try with_reducible rfl)
  try simp only [Act.put, List.setIfInBounds_toArray, List.set_cons_zero, List.set_cons_succ, List.getElem_toArray, List.getElem_cons_zero, List.getElem_cons_succ]
  refine' wpAnyH_take (i := 10) (oi := _) (v := _) rfl (by kernel_rfl) (by kernel_rfl) (by kernel_rfl) (fun _ _ _ h => h) (Or.inl ⟨by rfl, ?hy10⟩) (by assumption) ?rest10
  case hy10 => (intro w' hSw; (try dsimp only at hSw); go_simp; try with_reducible rfl)
  try simp only [Act.put, List.setIfInBounds_toArray, List.set_cons_zero, List.set_cons_succ, List.getElem_toArray, List.getElem_cons_zero, List.getElem_cons_succ]
  refine' wpAnyH_take (i := 11) (oi := _) (v := _) rfl (by kernel_rfl) (by kernel_rfl) (by kernel_rfl) (fun _ _ _ h => h) (Or.inl ⟨by rfl, ?hy11⟩) (by assumption) ?rest11
  case hy11 => (intro w' hSw; (try dsimp only at hSw); go_simp; try with_reducible rfl)
  try simp only [Act.put, List.setIfInBounds_toArray, List.set_cons_zero, List.set_cons_succ, List.getElem_toArray, List.getElem_cons_zero, List.getElem_cons_succ]
  refine' wpAnyH_take (i := 12) (oi := _) (v := _) rfl (by kernel_rfl) (by kernel_rfl) (by kernel_rfl) (fun _ _ _ h => h) (Or.inl ⟨by rfl, ?hy12⟩) (by assumption) ?rest12
  case hy12 => (intro w' hSw; (try dsimp only at hSw); go_simp; try with_reducible rfl)
  try simp only [Act.put, List.setIfInBounds_toArray, List.set_cons_zero, List.set_cons_succ, List.getElem_toArray, List.getElem_cons_zero, List.getElem_cons_succ]
  refine' wpAnyH_take (i := 13) (oi := _) (v := _) rfl (by kernel_rfl) (by kernel_rfl) (by kernel_rfl) (fun _ _ _ h => h) (Or.inl ⟨by rfl, ?hy13⟩) (by assumption) ?rest13
  case hy13 => (intro w' hSw; (try dsimp only at hSw); go_simp; try with_reducible rfl)
  try simp only [Act.put, List.setIfInBounds_toArray, List.set_cons_zero, List.set_cons_succ, List.getElem_toArray, List.getElem_cons_zero, List.getElem_cons_succ]
  refine' wpAnyH_take (i := 14) (oi := _) (v := _) rfl (by kernel_rfl) (by kernel_rfl) (by kernel_rfl) (fun _ _ _ h => h) (Or.inl ⟨by rfl, ?hy14⟩) (by assumption) ?rest14
  case hy14 => (intro w' hSw; (try dsimp only at hSw); go_simp; try with_reducible rfl)
  try simp only [Act.put, List.setIfInBounds_toArray, List.set_cons_zero, List.set_cons_succ, List.getElem_toArray, List.getElem_cons_zero, List.getElem_cons_succ]
  refine' wpAnyH_take (i := 15) (oi := _) (v := _) rfl (by kernel_rfl) (by kernel_rfl) (by kernel_rfl) (fun _ _ _ h => h) (Or.inl ⟨by rfl, ?hy15⟩) (by assumption) ?rest15
  case hy15 => (intro w' hSw; (try dsimp only at hSw); go_simp; try with_reducible rfl)
  try simp only [Act.put, List.setIfInBounds_toArray, List.set_cons_zero, List.set_cons_succ, List.getElem_toArray, List.getElem_cons_zero, List.getElem_cons_succ]
  refine wpAnyH_ready (rs := [16]) (by kernel_rfl) (by simp) ?_
  refine AllReadyH.cons (o := _) rfl (fun K hK => ?_) AllReadyH.nil
  refine step_append rfl (.const (.slice none 0 0)) (.tmp 74) rfl wq.heap.size none 0 0 [] rfl (OwnB.nil _ _) (some ⟨b0, o0 + q2, none⟩) mn (c - q2) Z rfl HZL.out HZX.out (by omega) (by simp) ?_
  intro A7 c7 w7 hown7 _ hb7
  have hb7' : Below wq.heap.size wq w7 := ((Below.refl _ wq).drew).trans hb7
  simp only [List.nil_append, Nat.zero_add] at hown7 ⊢
  have HO7 := Lib.hid hown7
  have HC7 := Lib.hid (HCQ.out.keep hb7')
  have HT7 := Lib.hid (there_keepC HTQ.out hb7' (by omega))
  have HR7 : HeldR g (some ⟨b0, o0, none⟩) n c q2 wq w7 := by
    obtain ⟨⟨r0, r1, r2⟩, f1, f2⟩ := HRQ.out
    exact ⟨⟨⟨(hb7'.cell (by simp only; omega)).trans r0, (hb7'.cell (by simp only; omega)).trans r1, (hb7'.cell (by simp only; omega)).trans r2⟩, (hb7'.frozen (by simp only; omega)).trans f1, (hb7'.frozen (by simp only; omega)).trans f2⟩, ⟨hb7'.os, hb7'.tape, hb7'.output, hb7'.size, fun i hi => hb7'.block i (by omega)⟩⟩
  have m3 := HC7.out.2.2.2.1
  have n3 := (HT7.out 3 (by decide)).2
  rw [Nat.zero_add] at n3
  clear hown7 hb7
  refine hK.out _ _ ?_ (fun hHeld => ?_)
  · exact HR7
  clear hK K
  try simp only [Act.put, List.setIfInBounds_toArray, List.set_cons_zero, List.set_cons_succ, List.getElem_toArray, List.getElem_cons_zero, List.getElem_cons_succ]
  refine' wpAnyH_take (i := 17) (oi := _) (v := _) rfl (by kernel_rfl) (by kernel_rfl) (by kernel_rfl) (fun _ _ _ h => h) (Or.inl ⟨by rfl, ?hy17⟩) (by assumption) ?rest17
  case hy17 => (intro w' hSw; (try dsimp only at hSw); go_simp; try with_reducible rfl)
  try simp only [Act.put, List.setIfInBounds_toArray, List.set_cons_zero, List.set_cons_succ, List.getElem_toArray, List.getElem_cons_zero, List.getElem_cons_succ]
  refine' wpAnyH_take (i := 18) (oi := _) (v := _) rfl (by kernel_rfl) (by kernel_rfl) (by kernel_rfl) (fun _ _ _ h => h) (Or.inl ⟨by rfl, ?hy18⟩) (by assumption) ?rest18
  case hy18 => (intro w' hSw; (try dsimp only at hSw); go_simp; try with_reducible rfl)
  try simp only [Act.put, List.setIfInBounds_toArray, List.set_cons_zero, List.set_cons_succ, List.getElem_toArray, List.getElem_cons_zero, List.getElem_cons_succ]
  refine wpAnyH_ready (rs := [19]) (by kernel_rfl) (by simp) ?_
  refine AllReadyH.cons (o := _) rfl (fun K hK => ?_) AllReadyH.nil
  go_simp
  refine hK.out _ _ ?_ (fun hHeld => ?_)
  · exact ⟨HR7.1.other gc 3 (by omega) _, HR7.2.setCell (by simp only; omega) _⟩
  clear hK K
  try simp only [Act.put, List.setIfInBounds_toArray, List.set_cons_zero, List.set_cons_succ, List.getElem_toArray, List.getElem_cons_zero, List.getElem_cons_succ]
  refine wpAnyH_done (by kernel_rfl) ?_ _
  obtain ⟨w8, hw8⟩ : ∃ x, x = w7.setCell ⟨gc, 3, none⟩ (.slice A7 mn c7) := ⟨_, rfl⟩
  rw [← hw8]
  have hR8 : RrAt w8 g (some ⟨b0, o0, none⟩) n c q2 0 := by rw [hw8]; exact HR7.1.other gc 3 (by omega) _
  have hC8 : ClAt w8 gc ⟨ky, ch, v, 0, Z⟩ A7 mn c7 := by rw [hw8]; exact HC7.out.setLoc Z A7 mn c7
  have hb8 : Below g w w8 := by rw [hw8]; exact (hbq.trans (HR7.2)).setCell (by simp only; omega) _
  have hO8 : OwnB w8 wq.heap.size A7 mn c7 Z := by rw [hw8]; exact HO7.out.apartC (fun i hi => heapC_ne _ _ _ (by simp only; omega))
  have hT8 : w8.there gc 0 5 := by rw [hw8]; exact there_setC HT7.out _ _
  have hz8 : wq.heap.size ≤ w8.heap.size := by rw [hw8]; simp only [World.setCell, Array.size_modify]; exact hb7'.size
  have HO8 := Lib.hid hO8
  have HC8 := Lib.hid hC8
  have HR8 := Lib.hid hR8
  have HT8 := Lib.hid hT8
  clear hw8 hO8 hC8 hT8
  obtain ⟨⟨r0, r1, r2⟩, f1, f2⟩ := hR8
  have hpe : ∀ (W : World) (t sp at' : Int), payD l a = ⟨t, sp, (l.drop (q2 : Int).toNat).take (mn : Int).toNat, at', 0⟩ → RrAt W g (some ⟨b0, o0, none⟩) n c at' 0 → ClAt W gc ⟨ky, ch, t, sp, Z⟩ A7 mn c7 → OwnB W (g + 1) A7 mn c7 Z → Below g w W → R (.returned (.tuple #[])) W := by
    intro W t sp at' h1 h2 h3 h4 h5
    rw [Int.toNat_natCast, Int.toNat_natCast, ← HZE2.out] at h1
    rw [HP.out]
    refine ⟨at', 0, rfl, h2, by rw [h1], fun _ => ⟨by rw [h1], A7, mn, c7, ?_, ?_⟩, h5⟩
    · rw [h1]; exact h3
    · rw [h1]; exact h4
  have HPE := Lib.hid hpe
  clear hpe
  by_cases hmv : (mn : Int) < v
  rotate_left
  · have hme : (mn : Int) = v := by omega
    go_wp2
    go_end0
    refine HPE.out _ v 0 ((q2 : Int) + v) ?_ (HR8.out.setAt _) (HC8.out.other g 1 (by omega) _) ?_ (hb8.setCell (Nat.le_refl _) _)
    · have h1 := pay_all HU.out HV.out (p2 := (q2 : Int)) (by rw [← hme]; exact HU2.out) (by omega) (by rw [HN.out]; omega)
      rw [h1, hme]
    · exact (HO8.out.apartC (fun i hi => heapC_ne _ _ _ (by simp only; omega))).mono (by omega)
  have hmne : (mn : Int) ≠ v := by omega
  have HMNE := Lib.hid hmne
  clear hmne
  obtain ⟨⟨s, p3, z3⟩, hU3⟩ : ∃ U, unvL l ((q2 : Int) + (mn : Int)) = U := ⟨_, rfl⟩
  have HU3 := Lib.hid hU3
  have hpr : Below g w (w8.setCell ⟨g, 1, none⟩ (.int .i64 ((q2 : Int) + (mn : Int)))) := hb8.setCell (Nat.le_refl _) _
  go_wp2_with fail
  obtain ⟨w9, hw9⟩ : ∃ x, x = w8.setCell ⟨g, 1, none⟩ (.int .i64 ((q2 : Int) + (mn : Int))) := ⟨_, rfl⟩
  rw [← hw9] at hpr ⊢
  have hR9 : RrAt w9 g (some ⟨b0, o0, none⟩) n c ((q2 : Int) + (mn : Int)) 0 := by rw [hw9]; exact HR8.out.setAt _
  have hC9 : ClAt w9 gc ⟨ky, ch, v, 0, Z⟩ A7 mn c7 := by rw [hw9]; exact HC8.out.other g 1 (by omega) _
  have hO9 : OwnB w9 wq.heap.size A7 mn c7 Z := by rw [hw9]; exact HO8.out.apartC (fun i hi => heapC_ne _ _ _ (by simp only; omega))
  have hT9 : w9.there gc 0 5 := by rw [hw9]; exact there_setC HT8.out _ _
  have hz9 : wq.heap.size ≤ w9.heap.size := by rw [hw9]; simp only [World.setCell, Array.size_modify]; exact hz8
  have HR9 := Lib.hid hR9
  have HC9 := Lib.hid hC9
  have HO9 := Lib.hid hO9
  have HT9 := Lib.hid hT9
  clear hw9 hR9 hC9 hO9 hT9 r0 r1 r2 f1 f2
  by_cases hz3 : z3 = 0
  rotate_left
  · have HZE := Lib.hid hz3
    refine (next_err _ g _ n c l _ s p3 z3 HR9.out HN.out hnc HCM.out (RDO.out _ hpr) HB.out (by omega) hU3 hz3).mono ?_
    rintro e w10 ⟨rfl, ⟨at1, hr10⟩, ho10⟩
    have HE := Lib.hid hr10
    go_wp2_with fail
    refine (page_no _ 0 (by unfold isP; omega)).mono ?_
    rintro e w0 ⟨rfl, rfl⟩
    go_wp2_with fail
    refine (form_bad _ g _ n c _ _ _ HE.out HZE.out).mono ?_
    rintro e w0 ⟨rfl, rfl⟩
    have x4 := (ho10.cell (a := ⟨gc, 4, none⟩) (by simp only; omega)).trans HC9.out.2.2.2.2
    have y4 := (ho10.frozen (a := ⟨gc, 4, none⟩) (by simp only; omega)).trans (show w9.frozen? ⟨gc, 4, none⟩ = false by simpa using (HT9.out 4 (by decide)).2)
    have hb10 : Below g w w10 := hpr.trans (ho10.below (Nat.le_refl _))
    clear hr10 ho10 hz3 hU3
    go_wp2
    go_end0
    exact HFIN.out _ _ _ HZE.out (pay_e3 HU.out HV.out HU2.out HM.out (by rw [HN.out]; have := HSS.out; omega) HMNE.out HU3.out HZE.out) (HE.out.other gc 4 (by omega) _) (hb10.setCell (by simp only; omega) _)
  subst hz3
  obtain ⟨q3, hq3, hq3a, hq3n, hq3v, hs1, hs2⟩ := unv_at HB.out (q2 + mn) (by rw [Int.natCast_add, hU3])
  rw [Int.natCast_add, hU3] at hq3 hq3v hs1 hs2
  simp only at hq3 hq3v hs1 hs2
  subst hq3
  rw [HN.out] at hq3n
  clear hq3v
  refine (next_yes _ g _ n c l _ s q3 HR9.out HN.out hnc HCM.out (RDO.out _ hpr) HB.out (by omega) hU3).mono ?_
  rintro e w10 ⟨rfl, hr10, ho10⟩
  have HE := Lib.hid hr10
  have hb10 : Below g w w10 := hpr.trans (ho10.below (Nat.le_refl _))
  have HO10 := Lib.hid ho10
  have hC10 : ClAt w10 gc ⟨ky, ch, v, 0, Z⟩ A7 mn c7 := by
    obtain ⟨x0, x1, x2, x3, x4⟩ := HC9.out
    exact ⟨(ho10.cell (by simp only; omega)).trans x0, (ho10.cell (by simp only; omega)).trans x1, (ho10.cell (by simp only; omega)).trans x2, (ho10.cell (by simp only; omega)).trans x3, (ho10.cell (by simp only; omega)).trans x4⟩
  have hO10 : OwnB w10 wq.heap.size A7 mn c7 Z := HO9.out.apartC (fun i hi => ho10.block i (by omega))
  have y4 := (ho10.frozen (a := ⟨gc, 4, none⟩) (by simp only; omega)).trans (show w9.frozen? ⟨gc, 4, none⟩ = false by simpa using (HT9.out 4 (by decide)).2)
  have x4 := hC10.2.2.2.2
  have HC10 := Lib.hid hC10
  have HOB := Lib.hid hO10
  clear hr10 ho10 hU3 hC10 hO10
  by_cases hsp : isP s
  · have HSP := Lib.hid hsp
    go_wp2_with fail
    refine (page_yes _ s hsp).mono ?_
    rintro e w0 ⟨rfl, rfl⟩
    go_wp2_with fail
    refine (form_ok _ g _ n c _ _ HE.out).mono ?_
    rintro e w0 ⟨rfl, rfl⟩
    unfold isP at hsp
    go_wp2
    go_end0
    refine HPE.out _ v s q3 ?_ (HE.out.other gc 4 (by omega) _) (HC10.out.setSpill s) ((HOB.out.apartC (fun i hi => heapC_ne _ _ _ (by simp only; omega))).mono (by omega)) (hb10.setCell (by simp only; omega) _)
    exact pay_ok HU.out HV.out HU2.out HM.out (by rw [HN.out]; have := HSS.out; omega) HMNE.out HU3.out (by omega)
  · have HSP := Lib.hid hsp
    go_wp2_with fail
    refine (page_no _ s hsp).mono ?_
    rintro e w0 ⟨rfl, rfl⟩
    go_wp2_with fail
    refine (form_no2 _ g _ n c _ HE.out).mono ?_
    rintro e w11 ⟨rfl, hr11, ho11⟩
    have HE2 := Lib.hid hr11
    have x4' := (ho11.cell (a := ⟨gc, 4, none⟩) (by simp only; omega)).trans x4
    have y4' := (ho11.frozen (a := ⟨gc, 4, none⟩) (by simp only; omega)).trans y4
    have hb11 : Below g w w11 := hb10.trans (ho11.below (Nat.le_refl _))
    clear hr11 ho11 x4 y4 hsp
    go_wp2
    go_end0
    refine HFIN.out _ _ 8 (by decide) ?_ (HE2.out.other gc 4 (by omega) _) (hb11.setCell (by simp only; omega) _)
    exact pay_f3 HU.out HV.out HU2.out HM.out (by rw [HN.out]; have := HSS.out; omega) HMNE.out HU3.out (by have := HSP.out; unfold isP at this; omega)
end
end Go.Proofs.Ytoeaffmlolapnaa
