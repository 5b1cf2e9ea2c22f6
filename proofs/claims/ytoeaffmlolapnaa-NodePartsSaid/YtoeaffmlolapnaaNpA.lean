/- Several texts of this proof as one: Base, Mem, Frame, FrameN, NumP, NumA, NumP2, Sli, Orz. Laid by merge.py. -/
import Derived.BigQuiet
import Derived.ChangeOld
import Derived.Deep.DeepCutAuto
import Derived.Deep.Matrix
import Derived.Deep.QuietTactic
import Derived.Deep.RegionHeld3
import Derived.Handy
import Derived.Lib.Hide
import Derived.Lib.SmallJoins
import Derived.Maps.AppendAt
import Derived.OpenShut
import Derived.ProofKit
import Derived.ShutString
import Derived.SizedLaws
import Derived.Test.YtoeaffmlolapnaaProg
import Derived.WalkKit
import Derived.WalkSpells
namespace Go.Proofs.Ytoeaffmlolapnaa
section
open Go.RowKit
/-- The byte at a place (0 behind the end). -/
def bt (l : List Int) (i : Nat) : Int := l.getD i 0
/-- The row at a place. -/
def rw_ (l : List (List Int)) (i : Nat) : List Int := l.getD i []

theorem bt_lt {l : List Int} {i : Nat} (h : i < l.length) : bt l i = l[i] := by simp [bt, h]
theorem bt_ge {l : List Int} {i : Nat} (h : l.length ≤ i) : bt l i = 0 := by simp [bt, List.getElem?_eq_none h]
theorem rw_lt {l : List (List Int)} {i : Nat} (h : i < l.length) : rw_ l i = l[i] := by simp [rw_, h]

/-- All are bytes. -/
def IsB (l : List Int) : Prop := ∀ x ∈ l, 0 ≤ x ∧ x ≤ 255
theorem IsB.bt {l : List Int} (h : IsB l) (i : Nat) : 0 ≤ bt l i ∧ bt l i ≤ 255 := by
  by_cases hi : i < l.length
  · rw [bt_lt hi]; exact h _ (List.getElem_mem hi)
  · rw [bt_ge (by omega)]; omega

/-- A slice's address reads as these bytes. -/
def Rd (w : World) (A : Option Addr) (l : List Int) : Prop :=
  l = [] ∨ ∃ b off, A = some ⟨b, off, none⟩ ∧ ∀ i, i < l.length → w.cell? ⟨b, off + i, none⟩ = some (.int .u8 (bt l i))

theorem Rd.at {w : World} {A : Option Addr} {l : List Int} (h : Rd w A l) (hl : 0 < l.length) :
    ∃ b off, A = some ⟨b, off, none⟩ ∧ b < w.heap.size ∧ ∀ i, i < l.length → w.cell? ⟨b, off + i, none⟩ = some (.int .u8 (bt l i)) := by
  rcases h with rfl | ⟨b, off, rfl, hc⟩
  · simp at hl
  · exact ⟨b, off, rfl, World.block_lt_of_cell? w _ (hc 0 hl), hc⟩

theorem Rd.below {w w' : World} {A : Option Addr} {l : List Int} {B : Nat} (h : Rd w A l) (hb : Below B w w') (hB : ∀ a, A = some a → a.block < B) : Rd w' A l := by
  rcases h with rfl | ⟨b, off, rfl, hc⟩
  · exact .inl rfl
  · exact .inr ⟨b, off, rfl, fun i hi => (hb.cell (p := ⟨b, off + i, none⟩) (show b < B from hB ⟨b, off, none⟩ rfl)).trans (hc i hi)⟩

theorem Rd.keep {w w' : World} {A : Option Addr} {l : List Int} (h : Rd w A l) (hb : Below w.heap.size w w') : Rd w' A l := by
  rcases h with rfl | ⟨b, off, rfl, hc⟩
  · exact .inl rfl
  · exact .inr ⟨b, off, rfl, fun i hi => (hb.cell (p := ⟨b, off + i, none⟩) (World.block_lt_of_cell? w _ (hc i hi))).trans (hc i hi)⟩

/-- Rows of bytes. -/
def RdRows (w : World) (A : Option Addr) (L : List (List Int)) : Prop :=
  L = [] ∨ ∃ b off, A = some ⟨b, off, none⟩ ∧ ∀ i, i < L.length → ∃ A' c, w.cell? ⟨b, off + i, none⟩ = some (.slice A' (rw_ L i).length c) ∧ (rw_ L i).length ≤ c ∧ c ≤ maxLen ∧ Rd w A' (rw_ L i)

theorem RdRows.keep {w w' : World} {A : Option Addr} {L : List (List Int)} (h : RdRows w A L) (hb : Below w.heap.size w w') : RdRows w' A L := by
  rcases h with rfl | ⟨b, off, rfl, hc⟩
  · exact .inl rfl
  · refine .inr ⟨b, off, rfl, fun i hi => ?_⟩
    obtain ⟨A', c, h1, h2, h3, h4⟩ := hc i hi
    exact ⟨A', c, (hb.cell (p := ⟨b, off + i, none⟩) (World.block_lt_of_cell? w _ h1)).trans h1, h2, h3, h4.keep hb⟩

theorem RdRows.at {w : World} {A : Option Addr} {L : List (List Int)} (h : RdRows w A L) (hl : 0 < L.length) :
    ∃ b off, A = some ⟨b, off, none⟩ ∧ b < w.heap.size ∧ ∀ i, i < L.length → ∃ A' c, w.cell? ⟨b, off + i, none⟩ = some (.slice A' (rw_ L i).length c) ∧ (rw_ L i).length ≤ c ∧ c ≤ maxLen ∧ Rd w A' (rw_ L i) := by
  rcases h with rfl | ⟨b, off, rfl, hc⟩
  · simp at hl
  · obtain ⟨A', c, h1, _⟩ := hc 0 hl
    exact ⟨b, off, rfl, World.block_lt_of_cell? w _ h1, hc⟩

theorem take_succ_bt {l : List Int} {k : Nat} (h : k < l.length) : l.take (k + 1) = l.take k ++ [bt l k] := by
  rw [bt_lt h, List.take_succ_eq_append_getElem h]
theorem take_succ_rw {l : List (List Int)} {k : Nat} (h : k < l.length) : l.take (k + 1) = l.take k ++ [rw_ l k] := by
  rw [rw_lt h, List.take_succ_eq_append_getElem h]

/-- Are two lists the same? Behind a name that the walk does not open. -/
def beqL (l k : List Int) : Bool := decide (l = k)
theorem beqL_iff (l k : List Int) : beqL l k = true ↔ l = k := by simp [beqL]
theorem beqL_no (l k : List Int) : beqL l k = false ↔ l ≠ k := by simp [beqL]
theorem beqL_self (l : List Int) : beqL l l = true := by simp [beqL]

theorem ret_int {k : IntKind} {a b : Int} (h : a = b) : Ending.returned (.int k a) = .returned (.int k b) := by rw [h]
theorem ret_bool {a b : Bool} (h : a = b) : Ending.returned (.bool a) = .returned (.bool b) := by rw [h]

end
section
open Go.RowKit
set_option maxRecDepth 100000
theorem info_u8 : (Try.prog.info? 5).map (fun i => (i.zero, i.size, i.bytes)) = some (some (.int .u8 0), 1, 1) := by kernel_rfl

/-- The bytes as values. -/
def vb (l : List Int) : List Value := l.map (Value.int .u8)
theorem vb_length (l : List Int) : (vb l).length = l.length := by simp [vb]
theorem vb_append (l m : List Int) : vb (l ++ m) = vb l ++ vb m := by simp [vb]
theorem vb_get {l : List Int} {j : Nat} {u : Value} (h : (vb l)[j]? = some u) : j < l.length ∧ u = .int .u8 (bt l j) := by
  have hj : j < l.length := by simpa [vb] using (List.getElem?_eq_some_iff.1 h).1
  refine ⟨hj, ?_⟩
  simp [vb, hj] at h
  rw [bt_lt hj, h]
theorem vb_one (l : List Int) : ∀ u ∈ vb l, u.oneCell' = true := ints_oneCell .u8 l

/-- A slice of bytes among the blocks from 'base' on, that the call owns. -/
def OwnB (w : World) (base : Nat) (A : Option Addr) (n c : Nat) (l : List Int) : Prop := w.ownsRow base 5 1 (.slice A n c) n (vb l)

theorem OwnB.len {w : World} {base : Nat} {A : Option Addr} {n c : Nat} {l : List Int} (h : OwnB w base A n c l) : l.length = n := by
  have := h.1
  rw [vb_length] at this
  omega
theorem OwnB.form {w : World} {base : Nat} {A : Option Addr} {n c : Nat} {l : List Int} (h : OwnB w base A n c l) :
    (A = none ∧ n = 0 ∧ c = 0) ∨ ∃ g cur, A = some ⟨g, 0, none⟩ ∧ base ≤ g ∧ w.heap[g]? = some (.cells cur 5 (0, 0)) ∧ n ≤ c ∧ c ≤ maxLen ∧ cur.size = c ∧ cur.toList.take n = vb l := by
  rcases h.2 with ⟨hv, hn⟩ | ⟨g, cap, cur, hv, hb, hg, h1, h2, h3, h4⟩
  · injection hv with h1 h2 h3
    exact .inl ⟨h1, hn, h3⟩
  · injection hv with e1 e2 e3
    subst e3
    exact .inr ⟨g, cur, e1, hb, hg, h1, h2, by omega, by simpa using h4⟩
theorem OwnB.cap {w : World} {base : Nat} {A : Option Addr} {n c : Nat} {l : List Int} (h : OwnB w base A n c l) : n ≤ c ∧ c ≤ maxLen := by
  rcases h.form with ⟨_, rfl, rfl⟩ | ⟨_, _, _, _, _, h1, h2, _⟩
  · exact ⟨Nat.le_refl _, by unfold maxLen; omega⟩
  · exact ⟨h1, h2⟩
theorem OwnB.rd {w : World} {base : Nat} {A : Option Addr} {n c : Nat} {l : List Int} (h : OwnB w base A n c l) : Rd w A l := by
  rcases h.form with ⟨rfl, rfl, rfl⟩ | ⟨g, cur, rfl, _, _, _, _, _, _⟩
  · have := h.len
    exact .inl (List.eq_nil_of_length_eq_zero this)
  · refine .inr ⟨g, 0, rfl, fun i hi => ?_⟩
    have hc := World.ownsRow.cells h (g := g) rfl i (.int .u8 (bt l i)) (by rw [bt_lt hi]; simp [vb, hi])
    simpa [Addr.add_lit] using hc
theorem OwnB.blk {w : World} {base : Nat} {n c g : Nat} {l : List Int} (h : OwnB w base (some ⟨g, 0, none⟩) n c l) : base ≤ g ∧ g < w.heap.size := World.ownsRow.lt h g rfl
theorem OwnB.nil (w : World) (base : Nat) : OwnB w base none 0 0 [] := World.ownsRow_nil w base _ _
theorem OwnB.keep {w w' : World} {base : Nat} {A : Option Addr} {n c : Nat} {l : List Int} (h : OwnB w base A n c l) (hb : Below w.heap.size w w') : OwnB w' base A n c l := by
  refine ⟨h.1, ?_⟩
  rcases h.2 with hv | ⟨g, cap, cur, hv, hbg, hg, rest⟩
  · exact .inl hv
  · exact .inr ⟨g, cap, cur, hv, hbg, (hb.block g (Array.getElem?_eq_some_iff.1 hg).1).trans hg, rest⟩
theorem OwnB.mono {w : World} {base base' : Nat} {A : Option Addr} {n c : Nat} {l : List Int} (h : OwnB w base A n c l) (hb : base' ≤ base) : OwnB w base' A n c l := by
  refine ⟨h.1, ?_⟩
  rcases h.2 with hv | ⟨g, cap, cur, hv, hbg, rest⟩
  · exact .inl hv
  · exact .inr ⟨g, cap, cur, hv, by omega, rest⟩
theorem OwnB.alloc {w : World} {base : Nat} {A : Option Addr} {n c : Nat} {l : List Int} (h : OwnB w base A n c l) (o : Obj) : OwnB (w.alloc o) base A n c l := World.ownsRow.alloc h o
theorem OwnB.drew {w : World} {base : Nat} {A : Option Addr} {n c : Nat} {l : List Int} (h : OwnB w base A n c l) : OwnB w.drew base A n c l := h

/-- '[]byte{}' and '[]byte{x, ..}': a new block of these bytes. -/
theorem OwnB.lit (w : World) (cs : Array Value) (l : List Int) (base n : Nat) (hcs : cs.toList = vb l) (hn : n = l.length) (hb : base ≤ w.heap.size) (hm : n ≤ maxLen) :
    OwnB (w.alloc (.cells cs 5)) base (some ⟨w.heap.size, 0, none⟩) n n l := by
  subst hn
  have hsz : cs.size = l.length := by rw [← Array.length_toList, hcs, vb_length]
  refine ⟨by rw [vb_length, Nat.mul_one], .inr ⟨w.heap.size, l.length, cs, rfl, hb, heap_alloc_new w _, Nat.le_refl _, hm, by omega, ?_⟩⟩
  rw [hcs, Nat.mul_one, ← vb_length, List.take_length]

theorem run_append_bytes (w : World) (base : Nat) (A : Option Addr) (n c : Nat) (l : List Int) (hown : OwnB w base A n c l) (B : Option Addr) (m d : Nat) (k : List Int) (hk : k.length = m) (hr : Rd w B k)
    (hbytes : n + m ≤ 140737488355328) (hbase : base ≤ w.heap.size) (ty : TypeId) :
    ∃ A' c' w', (Builtin.append_ #[29, 29] ty #[.slice A n c, .slice B m d]).run Try.prog w = .ok (.slice A' (n + m) c') w' ∧ OwnB w' base A' (n + m) c' (l ++ k) ∧ w.grownBy w' (Value.ownBlock (.slice A n c)) ∧
      (Value.ownBlock (.slice A' (n + m) c') = Value.ownBlock (.slice A n c) ∨ Value.ownBlock (.slice A' (n + m) c') = some w.heap.size) := by
  obtain ⟨i, hi, hz, hsz, hby⟩ := info_parts info_u8
  rcases B with _ | b
  · have hm : k = [] := by
      rcases hr with h | ⟨_, _, h, _⟩
      · exact h
      · cases h
    subst hm
    obtain rfl : m = 0 := by simpa using hk.symm
    refine ⟨A, c, w, ?_, ?_, ⟨rfl, rfl, rfl, Nat.le_refl _, fun _ _ _ => rfl⟩, .inl rfl⟩
    · rcases hown.2 with ⟨hv, hn⟩ | ⟨g, cap, cur, hv, _, _, hnc, _⟩
      · injection hv with e1 e2 e3
        subst e1; subst e2; subst e3
        simp [Builtin.append_, run_underlying Try.underlying29, sizeOf, typeInfo, hi, Builtin.lenOf, Builtin.firstCells]
      · injection hv with e1 e2 e3
        subst e1; subst e3
        simp [Builtin.append_, run_underlying Try.underlying29, sizeOf, typeInfo, hi, Builtin.lenOf, Builtin.firstCells, hnc, storeCells]
    · simpa using hown
  · have hcells : ∀ j u, (vb k)[j]? = some u → w.cell? (b.add j) = some u := by
      intro j u hu
      obtain ⟨hj, rfl⟩ := vb_get hu
      rcases hr with rfl | ⟨g, off, hB, hc⟩
      · simp at hj
      · injection hB with hB
        subst hB
        simpa [Addr.add_lit] using hc j hj
    obtain ⟨v', w', hrun, h2, h3, h4, h5⟩ := run_append_own_at (P := Try.prog) w base 29 ty 5 i (.int .u8 0) 1 1 Try.underlying29 hi hz hsz hby rfl (by decide) (.slice A n c) n (vb l) hown b m d (vb k)
      (by rw [vb_length, hk, Nat.mul_one]) hcells (vb_one k) (by unfold maxLen; omega) (by omega) hbase
    have hform : ∃ A' c', v' = .slice A' (n + m) c' := by
      rcases h2.2 with ⟨hv, hn⟩ | ⟨g, cap, cur, hv, _⟩
      · exact ⟨none, 0, by rw [hv, hn]⟩
      · exact ⟨_, _, hv⟩
    obtain ⟨A', c', rfl⟩ := hform
    rw [← vb_append] at h2
    exact ⟨A', c', w', hrun, h2, h3, h5⟩

/-- 'append(out, xs...)' on bytes: out is the call's own; xs whatever. -/
theorem wp_append {ops : Array Oper} {rest : List Oper} {o : Oper} {a : Act} {w : World} {Q : Exit → Act → World → Prop} (hgd : o.guard = none) (s x : Operand)
    (ho : o.op = .call { callee := .builtin .append, args := #[s, x], argTypes := #[29, 29] })
    (base : Nat) (A : Option Addr) (n c : Nat) (l : List Int) (hs : a.eval s = .slice A n c) (hown : OwnB w base A n c l) (B : Option Addr) (m d : Nat) (k : List Int) (hx : a.eval x = .slice B m d) (hk : k.length = m) (hr : Rd w B k)
    (hbytes : n + m ≤ 140737488355328) (hbase : base ≤ w.heap.size)
    (h : ∀ A' c' w', OwnB w' base A' (n + m) c' (l ++ k) → w.grownBy w' (Value.ownBlock (.slice A n c)) → Below base w w' → wpList Try.prog ops Q rest (a.put o.dst (.slice A' (n + m) c')) w') : wpList Try.prog ops Q (o :: rest) a w := by
  obtain ⟨A', c', w', hrun, h2, h3, _⟩ := run_append_bytes w base A n c l hown B m d k hk hr hbytes hbase o.type
  have hb : Below base w w' := (Below.refl _ _).grown h3 hbase (fun k hk => (World.ownsRow.lt hown k hk).1)
  refine wpList_plain hgd fun K hK => ?_
  unfold Oper.wp execOp
  simp only [ho, resolve, invoke, builtin, Sem.run_bind, Sem.run_pure, Result.andThen_ok, List.map_toArray, List.map_cons, List.map_nil, hs, hx, hrun]
  exact hK _ _ (h A' c' w' h2 h3 hb)

/-- The same inside a region that draws its order. -/
theorem step_append {ops : Array Oper} {o : Oper} {a : Act} {w : World} {K : Act → World → Prop} {Q : Exit → Act → World → Prop} {E : Prop} (hgd : o.guard = none) (s x : Operand)
    (ho : o.op = .call { callee := .builtin .append, args := #[s, x], argTypes := #[29, 29] })
    (base : Nat) (A : Option Addr) (n c : Nat) (l : List Int) (hs : a.eval s = .slice A n c) (hown : OwnB w base A n c l) (B : Option Addr) (m d : Nat) (k : List Int) (hx : a.eval x = .slice B m d) (hk : k.length = m) (hr : Rd w B k)
    (hbytes : n + m ≤ 140737488355328) (hbase : base ≤ w.heap.size)
    (h : ∀ A' c' w', OwnB w' base A' (n + m) c' (l ++ k) → w.grownBy w' (Value.ownBlock (.slice A n c)) → Below base w w' → K (a.put o.dst (.slice A' (n + m) c')) w') :
    if Region.wanted o (yielded ops a.tmps) = true then Oper.wp Try.prog o a w K Q else E := by
  obtain ⟨A', c', w', hrun, h2, h3, _⟩ := run_append_bytes w base A n c l hown B m d k hk hr hbytes hbase o.type
  have hb : Below base w w' := (Below.refl _ _).grown h3 hbase (fun k hk => (World.ownsRow.lt hown k hk).1)
  have hw : Region.wanted o (yielded ops a.tmps) = true := by simp [Region.wanted, hgd]
  rw [if_pos hw]
  unfold Oper.wp execOp
  simp only [ho, resolve, invoke, builtin, Sem.run_bind, Sem.run_pure, Result.andThen_ok, List.map_toArray, List.map_cons, List.map_nil, hs, hx, hrun]
  exact h A' c' w' h2 h3 hb

theorem OwnB.cellAt {w : World} {base g n c : Nat} {l : List Int} (h : OwnB w base (some ⟨g, 0, none⟩) n c l) (j : Nat) (hj : j < n) : w.cell? ⟨g, j, none⟩ = some (.int .u8 (bt l j)) := by
  have hl := h.len
  have := World.ownsRow.cellAt h j (by omega)
  rw [this, bt_lt (by omega)]
  simp [vb, show j < l.length by omega]
theorem OwnB.frozenAt {w : World} {base g n c : Nat} {l : List Int} (h : OwnB w base (some ⟨g, 0, none⟩) n c l) (j : Nat) : w.frozen? ⟨g, j, none⟩ = false := World.ownsRow.frozenAt h j
theorem OwnB.stored {w : World} {base g n c : Nat} {l : List Int} (h : OwnB w base (some ⟨g, 0, none⟩) n c l) (j : Nat) (x : Int) : OwnB (w.setCell ⟨g, j, none⟩ (.int .u8 x)) base (some ⟨g, 0, none⟩) n c (l.set j x) := by
  have := World.ownsRow.stored h j (.int .u8 x)
  unfold OwnB
  rw [show vb (l.set j x) = (vb l).set j (.int .u8 x) from by simp [vb, List.map_set]]
  exact this.1
/-- A slice of at least one byte that the call owns lies at a row's head. -/
theorem OwnB.at {w : World} {base : Nat} {A : Option Addr} {n c : Nat} {l : List Int} (h : OwnB w base A n c l) (hn : 0 < n) : ∃ g, A = some ⟨g, 0, none⟩ ∧ base ≤ g ∧ g < w.heap.size := by
  rcases h.form with ⟨_, h0, _⟩ | ⟨g, cur, hA, hb, _⟩
  · omega
  · subst hA
    exact ⟨g, rfl, h.blk.1, h.blk.2⟩

/-- A row of zeros. -/
def zrs (n : Nat) : Array Value := madeCells (Value.cells (.int .u8 0)) n
/-- 'make([]byte, a, n)'. -/
theorem run_mk (a n : Nat) (ha : a ≤ n) (hn : n ≤ 281474976710656) (w : World) :
    (Instr.makeSlice 29 (.int .i64 (a : Int)) (.int .i64 (n : Int))).run Try.prog w = .ok (.slice (some ⟨w.heap.size, 0, none⟩) a n) (w.alloc (.cells (zrs n) 5)) := by
  obtain ⟨i, hi, hz, hsz, hby⟩ := info_parts info_u8
  have h := run_make (P := Try.prog) w 29 5 i (.int .u8 0) Try.underlying29 hi hz .i64 .i64 a n (by omega) (by omega) (by rw [hby]; omega) (by omega)
  simpa [hsz, zrs] using h
theorem zrs_size (n : Nat) : (zrs n).size = n := by simp [zrs, madeCells, Value.cells]
theorem zrs_get {n i : Nat} (h : i < n) : (zrs n)[i]? = some (.int .u8 0) := by
  simp [zrs, madeCells, Value.cells, h, Nat.mod_one]
theorem OwnB.made (w : World) (base n : Nat) (hb : base ≤ w.heap.size) (hm : n ≤ maxLen) : OwnB (w.alloc (.cells (zrs n) 5)) base (some ⟨w.heap.size, 0, none⟩) 0 n [] :=
  World.ownsRow_made w (zrs n) n hb hm (by rw [zrs_size, Nat.mul_one])

theorem OwnB.zeros (w : World) (base n : Nat) (hb : base ≤ w.heap.size) (hm : n ≤ maxLen) : OwnB (w.alloc (.cells (zrs n) 5)) base (some ⟨w.heap.size, 0, none⟩) n n (List.replicate n 0) := by
  refine ⟨by rw [vb_length]; simp, .inr ⟨w.heap.size, n, zrs n, rfl, hb, heap_alloc_new w _, Nat.le_refl _, hm, by rw [zrs_size, Nat.mul_one], ?_⟩⟩
  rw [Nat.mul_one]
  apply List.ext_getElem?
  intro i
  by_cases h : i < n
  · rw [List.getElem?_take_of_lt h, Array.getElem?_toList, zrs_get h]
    simp [vb, h]
  · rw [List.getElem?_eq_none (by simp; omega), List.getElem?_eq_none (by rw [vb_length]; simp; omega)]
/-- What comes back: bytes of the call's own. -/
def BytesBack (w : World) (l : List Int) (e : Ending) (w' : World) : Prop := ∃ A n c, e = .returned (.slice A n c) ∧ OwnB w' w.heap.size A n c l ∧ Below w.heap.size w w'

/-- 'string(b)'. -/
theorem run_str (w : World) (A : Option Addr) (n c : Nat) (l : List Int) (hn : l.length = n) (h : Rd w A l) :
    (convert 29 9 (.slice A n c)).run Try.prog w = .ok (.string (strOfNums l)) w := by
  rcases h with rfl | ⟨b, off, rfl, hc⟩
  · subst hn
    rw [run_convert_bytes_string w 29 9 5 A _ c Try.underlying29 Try.underlying5 Try.underlying9]
    cases A with
    | none => simp [Conv.bytesToString]; rfl
    | some a =>
      show (Conv.bytesToString (.slice (some a) 0 c)).run Try.prog w = _
      rw [run_bytesToString w a 0 c [] (by simpa using run_loadCells_list (P := Try.prog) w a [] (fun j v hj => by simp at hj))]
      rfl
  · exact run_convert_bytes_arg w 29 5 Try.underlying29 Try.underlying5 b off n c l hn (fun i hi => by rw [hc i (by omega)]; rfl) 9 Try.underlying9

theorem str_eq {l m : List Int} (hl : IsB l) (hm : IsB m) : (strOfNums l).toList = (strOfNums m).toList ↔ l = m := by
  rw [ByteArray.toList_eq, ByteArray.toList_eq, strOfNums_data, strOfNums_data]
  constructor
  · intro h
    have h2 := congrArg (List.map fun b : UInt8 => (b.toNat : Int)) h
    simp only [List.map_map] at h2
    have hid : ∀ k : List Int, IsB k → k.map ((fun b : UInt8 => (b.toNat : Int)) ∘ fun n => UInt8.ofNat n.toNat) = k := by
      intro k hk
      conv => rhs; rw [← List.map_id k]
      apply List.map_congr_left
      intro x hx
      have := hk x hx
      simp [UInt8.toNat_ofNat']
      omega
    rwa [hid l hl, hid m hm] at h2
  · rintro rfl; rfl
theorem str_beq {l m : List Int} (hl : IsB l) (hm : IsB m) : ((strOfNums l).toList == (strOfNums m).toList) = beqL l m := by
  rw [Bool.eq_iff_iff, beqL_iff]
  simp [str_eq hl hm]

end
section
open Go.ChangeShapes Go.WideShapes Go.ChangeAt Go.RowKit
set_option maxRecDepth 100000
theorem own : ownKnob Try.prog.godebug = none := by kernel_rfl
theorem laidOut : laidOutB Try.prog = true := by kernel_rfl

theorem wf_byte {n : Int} (h : (Lit.int .u8 n).wf = true) : 0 ≤ n ∧ n ≤ 255 := by
  simp [Lit.wf, IntKind.min, IntKind.max, IntKind.signed, IntKind.bits] at h
  omega
theorem wf_i64b {n : Int} (h : (Lit.int .i64 n).wf = true) : -9223372036854775808 ≤ n ∧ n ≤ 9223372036854775807 := by
  simp [Lit.wf, IntKind.min, IntKind.max, IntKind.signed, IntKind.bits] at h
  omega
theorem wf_u64b {n : Int} (h : (Lit.int .u64 n).wf = true) : 0 ≤ n ∧ n ≤ 18446744073709551615 := by
  simp [Lit.wf, IntKind.min, IntKind.max, IntKind.signed, IntKind.bits] at h
  omega
theorem wf_u32b {n : Int} (h : (Lit.int .u32 n).wf = true) : 0 ≤ n ∧ n ≤ 4294967295 := by
  simp [Lit.wf, IntKind.min, IntKind.max, IntKind.signed, IntKind.bits] at h
  omega

theorem rd_of_cells {w : World} {a : Addr} {n : Nat} {zs : List Int} (hn : n ≤ zs.length) (h : ∀ i, i < zs.length → w.cell? (a.add i) = some (.int .u8 (zs.getD i 0))) : Rd w (some a) (zs.take n) := by
  by_cases h0 : n = 0
  · subst h0; exact .inl (by simp)
  · obtain ⟨b, off, spot⟩ := a
    have hc := h 0 (by omega)
    have hs : spot = none := by simpa [Addr.add] using World.cell?_spot hc
    subst hs
    refine .inr ⟨b, off, rfl, fun i hi => ?_⟩
    have hi' : i < n := by simp at hi; omega
    have := h i (by omega)
    rw [Addr.add_lit] at this
    rw [this]
    simp [bt, hi']

section
variable {H : Type} {enc : TypeId × Value → H} {P : Program} {W : World} {base : Nat}
theorem open_bytes {T E : TypeId} {r : Reach} {b0 : Nat} {v : Value} {d : DataW H} {p : List MemPlace} (hT : P.underlying T = some (.slice E)) (hE : P.underlying E = some (.int .u8)) (cE : P.cellsOf E = 1)
    (hv : Value.okWide P W r b0 T v) (h : DataW.Trod enc P W base (fun _ => true) true T v d p) :
    ∃ A n c l, v = .slice A n c ∧ l.length = n ∧ n ≤ c ∧ c ≤ maxLen ∧ Rd W A l ∧ IsB l := by
  obtain ⟨A, n, c, rfl⟩ := okWide_slice hT hv
  obtain ⟨fuel, hf⟩ := h
  rcases open_ints hT hE cE hf with ⟨hcs, _⟩ | ⟨x, l, c', zs, hcs, _, hl, hm, hz, _, hcell, hwz⟩
  · simp [Value.cells] at hcs
    obtain ⟨rfl, rfl, rfl⟩ := hcs
    exact ⟨none, 0, 0, [], rfl, rfl, Nat.le_refl _, by unfold maxLen; omega, .inl rfl, by simp [IsB]⟩
  · simp [Value.cells] at hcs
    obtain ⟨rfl, rfl, rfl⟩ := hcs
    have hz' : zs.length = c := by simpa using hz
    refine ⟨_, _, _, zs.take n, rfl, by simp; omega, hl, hm, rd_of_cells (by omega) hcell, fun y hy => wf_byte (hwz y (List.mem_of_mem_take hy))⟩

theorem open_rows {T E Q : TypeId} {r : Reach} {b0 : Nat} {v : Value} {d : DataW H} {p : List MemPlace} (hT : P.underlying T = some (.slice E)) (hE : P.underlying E = some (.slice Q)) (hQ : P.underlying Q = some (.int .u8)) (cE : P.cellsOf E = 1) (cQ : P.cellsOf Q = 1)
    (hv : Value.okWide P W r b0 T v) (h : DataW.Trod enc P W base (fun _ => true) true T v d p) :
    ∃ A n c L, v = .slice A n c ∧ L.length = n ∧ n ≤ c ∧ c ≤ maxLen ∧ RdRows W A L ∧ ∀ l ∈ L, IsB l := by
  obtain ⟨A, n, c, rfl⟩ := okWide_slice hT hv
  obtain ⟨fuel, hf⟩ := h
  rcases Deep.open_int_rows hT hE hQ cE cQ hf with ⟨hcs, _⟩ | ⟨a, len, cap, A', L, C, Z, hcs, _, hl, hm, _, hrow⟩
  · simp [Value.cells] at hcs
    obtain ⟨rfl, rfl, rfl⟩ := hcs
    exact ⟨none, 0, 0, [], rfl, rfl, Nat.le_refl _, by unfold maxLen; omega, .inl rfl, by simp⟩
  · simp [Value.cells] at hcs
    obtain ⟨rfl, rfl, rfl⟩ := hcs
    refine ⟨_, _, _, (List.range n).map fun i => (Z i).take (L i), rfl, by simp, hl, hm, ?_, ?_⟩
    · by_cases h0 : n = 0
      · subst h0; exact .inl (by simp)
      · obtain ⟨b, off, spot⟩ := a
        have hc := (hrow 0 (by omega)).1
        have hs : spot = none := by simpa [Addr.add] using World.cell?_spot hc
        subst hs
        refine .inr ⟨b, off, rfl, fun i hi => ?_⟩
        have hi' : i < n := by simpa using hi
        obtain ⟨h1, h2, h3, h4, h5, h6, h7⟩ := hrow i (by omega)
        rw [Addr.add_lit] at h1
        have e : rw_ ((List.range n).map fun i => (Z i).take (L i)) i = (Z i).take (L i) := by simp [rw_, hi']
        rw [e]
        refine ⟨A' i, C i, by rw [h1]; simp; omega, by simp; omega, h3, ?_⟩
        cases hA : A' i with
        | none =>
          have := h6 hA
          exact .inl (by rw [show L i = 0 by omega]; simp)
        | some a' => exact rd_of_cells (by omega) (fun j hj => (h7 a' hA).2 j (by omega))
    · intro l hl'
      obtain ⟨i, hi, rfl⟩ := List.mem_map.1 hl'
      have hi' : i < n := by simpa using hi
      exact fun y hy => wf_byte ((hrow i (by omega)).2.2.2.2.1 y (List.mem_of_mem_take hy))
end
end
section
open Go.ChangeShapes Go.WideShapes Go.ChangeAt Go.RowKit Go.Deep
set_option maxRecDepth 100000
section
variable {H : Type} {enc : TypeId × Value → H} {P : Program} {W : World} {base : Nat}
theorem open_bytes_cell {T E : TypeId} {v : Value} {n : Nat} {y : DataW H × List MemPlace} (hT : P.underlying T = some (.slice E)) (hE : P.underlying E = some (.int .u8)) (cE : P.cellsOf E = 1)
    (hf : DataW.trod enc P W base (fun _ => true) true n T [v] = some y) :
    ∃ A n c l, v = .slice A n c ∧ l.length = n ∧ n ≤ c ∧ c ≤ maxLen ∧ Rd W A l ∧ IsB l := by
  rcases open_ints hT hE cE hf with ⟨hcs, _⟩ | ⟨x, l, c', zs, hcs, _, hl, hm, hz, _, hcell, hwz⟩
  · simp at hcs
    subst hcs
    exact ⟨none, 0, 0, [], rfl, rfl, Nat.le_refl _, by unfold maxLen; omega, .inl rfl, by simp [IsB]⟩
  · simp at hcs
    subst hcs
    have hz' : zs.length = c' := by simpa using hz
    refine ⟨_, _, _, zs.take l, rfl, by simp; omega, hl, hm, rd_of_cells (by omega) hcell, fun y hy => wf_byte (hwz y (List.mem_of_mem_take hy))⟩

theorem open_bytes_d {T E : TypeId} {r : Reach} {b0 : Nat} {v : Value} {d : DataW H} {p : List MemPlace} (hT : P.underlying T = some (.slice E)) (hE : P.underlying E = some (.int .u8)) (cE : P.cellsOf E = 1)
    (hv : Value.okWide P W r b0 T v) (h : DataW.Trod enc P W base (fun _ => true) true T v d p) :
    ∃ A n c l, v = .slice A n c ∧ l.length = n ∧ n ≤ c ∧ c ≤ maxLen ∧ Rd W A l ∧ IsB l ∧ (n = 0 ∨ ∃ es sp, d = .slice es sp ∧ es.length = n) := by
  obtain ⟨A, n, c, rfl⟩ := okWide_slice hT hv
  obtain ⟨fuel, hf⟩ := h
  rcases open_ints hT hE cE hf with ⟨hcs, _⟩ | ⟨x, l, c', zs, hcs, _, hl, hm, hz, hx, hcell, hwz⟩
  · simp [Value.cells] at hcs
    obtain ⟨rfl, rfl, rfl⟩ := hcs
    exact ⟨none, 0, 0, [], rfl, rfl, Nat.le_refl _, by unfold maxLen; omega, .inl rfl, by simp [IsB], .inl rfl⟩
  · simp [Value.cells] at hcs
    obtain ⟨rfl, rfl, rfl⟩ := hcs
    have hz' : zs.length = c := by simpa using hz
    simp only [Prod.mk.injEq] at hx
    refine ⟨_, _, _, zs.take n, rfl, by simp; omega, hl, hm, rd_of_cells (by omega) hcell, fun y hy => wf_byte (hwz y (List.mem_of_mem_take hy)), .inr ⟨_, _, hx.1, by simp [lits]; omega⟩⟩

theorem sized_bytes {ts : List TypeId} {ds : List (DataW H)} {j n : Nat} {T E : TypeId} {d : DataW H} (h : (DataW.weightsEach P ts ds).all (· ≤ reachBytes) = true) (ht : ts[j]? = some T) (hd : ds[j]? = some d) (hT : P.underlying T = some (.slice E)) (hb : P.bytesOf E = 1)
    (h0 : n = 0 ∨ ∃ es sp, d = .slice es sp ∧ es.length = n) : n ≤ 140737488351232 := by
  rcases h0 with rfl | ⟨es, sp, rfl, rfl⟩
  · omega
  · have := sized_slice h ht hd hT
    rw [hb] at this
    have e : reachBytes = 140737488351232 := rfl
    omega

theorem open_place {t : TypeId} {f0 f1 : Field} {E : TypeId} {r : Reach} {b0 : Nat} {v : Value} {d : DataW H} {p : List MemPlace} (hs : P.underlying t = some (.struct #[f0, f1])) (hone : oneCellFields P #[f0, f1] = true) (hC : P.cellsOf t = 2)
    (h0 : P.underlying f0.type = some (.slice E)) (hE : P.underlying E = some (.int .u8)) (cE : P.cellsOf E = 1) (h1 : P.underlying f1.type = some (.int .i64))
    (hv : Value.okWide P W r b0 t v) (h : DataW.Trod enc P W base (fun _ => true) true t v d p) :
    ∃ A n c l a, v = .agg #[.slice A n c, .int .i64 a] ∧ l.length = n ∧ n ≤ c ∧ c ≤ maxLen ∧ Rd W A l ∧ IsB l ∧ (-9223372036854775808 ≤ a ∧ a ≤ 9223372036854775807) := by
  obtain ⟨c0, c1, y0, y1, m, rfl, rfl, rfl, hy0, hy1⟩ := Go.Joins.open_agg2 hs hone hC hv h
  obtain ⟨A, n, c, l, rfl, e1, e2, e3, e4, e5⟩ := open_bytes_cell h0 hE cE hy0
  obtain ⟨a, e0, rfl, wa⟩ := DataW.trod_int h1 hy1
  simp at e0
  subst e0
  exact ⟨A, n, c, l, a, rfl, e1, e2, e3, e4, e5, wf_i64b wa⟩
end
end
section
open Go.RowKit
/-- The k lowest bytes of a number, the highest one first. -/
def fxL (n : Int) : Nat → List Int
  | 0 => []
  | k + 1 => (n / 256 ^ k % 256) :: fxL n k
theorem fxL_length (n : Int) (k : Nat) : (fxL n k).length = k := by induction k with | zero => rfl | succ k ih => simp [fxL, ih]
theorem fxL_isB (n : Int) (k : Nat) : IsB (fxL n k) := by
  induction k with
  | zero => simp [fxL, IsB]
  | succ k ih =>
    intro x hx
    simp only [fxL, List.mem_cons] at hx
    rcases hx with rfl | hx
    · omega
    · exact ih x hx
/-- What Fixed gives. -/
def fixedL (n size : Int) : List Int := if size < 1 ∨ 8 < size then [] else fxL n size.toNat

/-- The number of bytes, the highest one first. -/
def beI (l : List Int) : Int := l.foldl (fun a x => a * 256 + x) 0
theorem beI_snoc (l : List Int) (x : Int) : beI (l ++ [x]) = beI l * 256 + x := by simp [beI, List.foldl_append]
theorem beI_from {l : List Int} (h : IsB l) (a : Int) (ha : 0 ≤ a) (A : Nat) (hA : a < 256 ^ A) : 0 ≤ l.foldl (fun a x => a * 256 + x) a ∧ l.foldl (fun a x => a * 256 + x) a < 256 ^ (A + l.length) := by
  induction l generalizing a A with
  | nil => exact ⟨ha, hA⟩
  | cons x l ih =>
    have hx := h x (List.mem_cons_self ..)
    have := ih (fun y hy => h y (List.mem_cons_of_mem _ hy)) (a * 256 + x) (by omega) (A + 1) (by rw [Int.pow_succ]; omega)
    rw [List.length_cons, ← Nat.add_assoc, Nat.add_right_comm]
    exact this
theorem beI_bd {l : List Int} (h : IsB l) : 0 ≤ beI l ∧ beI l < 256 ^ l.length := by
  have := beI_from h 0 (Int.le_refl _) 0 (by decide)
  simpa [beI] using this
theorem pow256_le {j k : Nat} (h : j ≤ k) : (256 : Int) ^ j ≤ 256 ^ k := by
  have h2 : ((256 ^ j : Nat) : Int) ≤ ((256 ^ k : Nat) : Int) := Int.ofNat_le.2 (Nat.pow_le_pow_right (by decide) h)
  simpa only [Int.natCast_pow, Int.cast_ofNat_Int] using h2
theorem beI_lt {l : List Int} (h : IsB l) (k : Nat) (hk : l.length ≤ k) : 0 ≤ beI l ∧ beI l < 256 ^ k := by
  have := beI_bd h
  have h2 := pow256_le hk
  omega

/-- The groups of a number, the lowest first. -/
def vl (z : Nat) : List Int := if h : z < 128 then [(z : Int)] else ((z % 128 : Nat) + 128 : Int) :: vl (z / 128)
termination_by z
decreasing_by omega
theorem vl_small {z : Nat} (h : z < 128) : vl z = [(z : Int)] := by rw [vl, dif_pos h]
theorem vl_big {z : Nat} (h : ¬ z < 128) : vl z = ((z % 128 : Nat) + 128 : Int) :: vl (z / 128) := by rw [vl, dif_neg h]
theorem vl_isB (z : Nat) : IsB (vl z) := by
  induction z using Nat.strongRecOn with
  | _ z ih =>
    by_cases h : z < 128
    · rw [vl_small h]; intro x hx; simp at hx; omega
    · rw [vl_big h]
      intro x hx
      rcases List.mem_cons.1 hx with rfl | hx
      · omega
      · exact ih (z / 128) (by omega) x hx
theorem vl_pos (z : Nat) : 0 < (vl z).length := by
  by_cases h : z < 128
  · rw [vl_small h]; simp
  · rw [vl_big h]; simp
theorem vl_len (k : Nat) : ∀ z, z < 128 ^ (k + 1) → (vl z).length ≤ k + 1 := by
  induction k with
  | zero => intro z h; rw [vl_small (by simpa using h)]; simp
  | succ k ih =>
    intro z h
    by_cases h1 : z < 128
    · rw [vl_small h1]; simp
    · rw [vl_big h1]
      have := ih (z / 128) (by rw [Nat.pow_succ] at h; omega)
      simp; omega
theorem vl_len10 {z : Nat} (h : z < 18446744073709551616) : (vl z).length ≤ 10 := vl_len 9 z (Nat.lt_of_lt_of_le h (by decide))
/-- A number's sign, put into its lowest bit. -/
def zig (n : Int) : Nat := if n < 0 then (-2 * n - 1).toNat else (2 * n).toNat
theorem zig_lt {n : Int} (h : -9223372036854775808 ≤ n ∧ n ≤ 9223372036854775807) : zig n < 18446744073709551616 := by unfold zig; split <;> omega
/-- What Varint gives. -/
def varL (n : Int) : List Int := vl (zig n)
theorem varL_len {n : Int} (h : -9223372036854775808 ≤ n ∧ n ≤ 9223372036854775807) : (varL n).length ≤ 10 := vl_len10 (zig_lt h)
end
section
open Go.RowKit
set_option maxRecDepth 100000
theorem below_drewN {B : Nat} {a w : World} (h : Below B a w) (n : Nat) : Below B a (w.drewN n) := ⟨h.os, h.tape, h.output, h.size, h.block⟩
theorem eq_of_bt {l k : List Int} (hl : l.length = k.length) (h : ∀ q, q < l.length → bt l q = bt k q) : l = k := by
  apply List.ext_getElem hl
  intro i h1 h2
  have := h i h1
  rwa [bt_lt h1, bt_lt h2] at this
theorem fixed_nil (n size : Int) (h : size < 1 ∨ 8 < size) : fixedL n size = [] := by rw [fixedL, if_pos h]
theorem fixed_nat (n : Int) (k : Nat) (h1 : 1 ≤ k) (h8 : k ≤ 8) : fixedL n k = fxL n k := by rw [fixedL, if_neg (by omega), Int.toNat_natCast]
theorem zeros_set (k j : Nat) (hj : j < k) (s : List Int) (x : Int) : (List.replicate (k - j) 0 ++ s).set (k - 1 - j) x = List.replicate (k - (j + 1)) 0 ++ x :: s := by
  have e : k - j = (k - 1 - j) + 1 := by omega
  rw [e, List.replicate_succ', List.append_assoc, show k - (j + 1) = k - 1 - j by omega]
  rw [List.set_append_right _ _ (by simp)]
  simp

theorem pow_256 (j : Nat) : (2 : Int) ^ (8 * j) = 256 ^ j := by rw [Int.pow_mul]; rfl

def FixRel (w : World) (n : Int) (k : Nat) (i : Value) (wr : World) : Prop :=
  ∃ j : Nat, j ≤ k ∧ i = .int .i64 j ∧ OwnB wr w.heap.size (some ⟨w.heap.size, 0, none⟩) k k (List.replicate (k - j) 0 ++ fxL n j) ∧ Below w.heap.size w wr

set_option maxHeartbeats 2000000 in
theorem fixed_any (w : World) (n size : Int) (_hn0 : 0 ≤ n) (_hn1 : n ≤ 18446744073709551615) :
    Calls Try.prog 105 #[.int .u64 n, .int .i64 size] w (BytesBack w (fixedL n size)) := by
  by_cases hs : size < 1 ∨ 8 < size
  · rw [fixed_nil n size hs]
    rcases hs with hs | hs
    · go_enter Try.func105, Try.ntmps105
      go_wp2_with fail
      go_ret
      exact ⟨none, 0, 0, rfl, OwnB.nil _ _, Below.refl _ _⟩
    · have hs' : ¬ size < 1 := by omega
      go_enter Try.func105, Try.ntmps105
      go_wp2_with fail
      go_ret
      exact ⟨none, 0, 0, rfl, OwnB.nil _ _, Below.refl _ _⟩
  · obtain ⟨k, rfl⟩ := Int.eq_ofNat_of_zero_le (show 0 ≤ size by omega)
    have h1 : 1 ≤ k := by omega
    have h8 : k ≤ 8 := by omega
    clear hs
    rw [fixed_nat n k h1 h8]
    have hmk := fun W => run_mk k k (Nat.le_refl _) (by omega) W
    go_enter Try.func105, Try.ntmps105
    go_wp2_with fail
    go_loopw [16] (fun i wr => FixRel w n k i wr) (fun i _ => k - (intOf i).toNat)
    case atStart => exact ⟨0, Nat.zero_le _, rfl, by simpa [fxL] using OwnB.zeros w w.heap.size k (Nat.le_refl _) (by unfold maxLen; omega), (Below.refl _ _).alloc (Nat.le_refl _) _⟩
    case round =>
      clear hmk
      obtain ⟨j, hj, rfl, hown, hb⟩ := hrel
      by_cases hlt : j < k
      · have hc := hown.cellAt (k - 1 - j) (by omega)
        have hf := hown.frozenAt (k - 1 - j)
        have HO := Lib.hid hown; clear hown
        have ht : ((k : Int) - 1 - (j : Int)).toNat = k - 1 - j := by omega
        go_wp2_with fail
        go_roundw
        case rel =>
          refine ⟨j + 1, by omega, by go_num, ?_, hb.setCell (Nat.le_refl _) _⟩
          rw [fxL, ← zeros_set k j hlt, ← pow_256]
          exact HO.out.stored _ _
        case measure => simp [intOf]; omega
      · obtain rfl : j = k := by omega
        have HO := Lib.hid hown; clear hown
        go_wp2_with fail
        go_ret
        exact ⟨_, _, _, rfl, by simpa using HO.out, hb⟩

set_option maxHeartbeats 2000000 in
theorem same1_any (w : World) (A B : Option Addr) (n c m d : Nat) (l k : List Int) (hl : l.length = n) (hk : k.length = m) (hn : n ≤ 9223372036854775807) (hA : Rd w A l) (hB : Rd w B k) :
    Calls Try.prog 25 #[.slice A n c, .slice B m d] w fun e w' => e = .returned (.bool (beqL l k)) ∧ Below w.heap.size w w' := by
  have HL := Lib.hid hl; clear hl
  have HK := Lib.hid hk; clear hk
  have HA := Lib.hid hA; clear hA
  have HB := Lib.hid hB; clear hB
  by_cases hnm : n = m
  · subst hnm
    have hne : ((n : Int) != (n : Int)) = false := by simp
    go_enter Try.func25, Try.ntmps25
    go_wp2_with fail
    go_loopw [5] (fun i wr => ∃ j : Nat, j ≤ n ∧ i = .int .i64 j ∧ Hid (∀ q, q < j → bt l q = bt k q) ∧ Below w.heap.size w wr) (fun i _ => n - (intOf i).toNat)
    case atStart => exact ⟨0, Nat.zero_le _, rfl, fun q hq => absurd hq (by omega), Below.refl _ _⟩
    case round =>
      obtain ⟨j, hj, rfl, HE, hb⟩ := hrel
      by_cases hlt : j < n
      · obtain ⟨b1, o1, hA', _, hc1⟩ := Rd.at (HA.out.keep hb) (by rw [HL.out]; omega)
        obtain ⟨b2, o2, hB', _, hc2⟩ := Rd.at (HB.out.keep hb) (by rw [HK.out]; omega)
        have c1 := hc1 j (by rw [HL.out]; omega)
        have c2 := hc2 j (by rw [HK.out]; omega)
        subst hA'
        subst hB'
        clear hc1 hc2
        have i0 : (0 : Int) ≤ (j : Int) := by omega
        have i1 : (j : Int) < (n : Int) := by omega
        by_cases he : bt l j = bt k j
        · have hne2 : (bt l j != bt k j) = false := by simp [he]
          have HEE := Lib.hid he; clear he
          go_wp2_with fail
          go_quiet (fail)
          go_wp2_with fail
          go_roundw
          case rel =>
            refine ⟨j + 1, by omega, by go_num, fun q hq => ?_, below_drewN hb _⟩
            by_cases hqj : q < j
            · exact HE.out q hqj
            · obtain rfl : q = j := by omega
              exact HEE.out
          case measure => simp [intOf]; omega
        · have hne2 : (bt l j != bt k j) = true := by simp [he]
          go_wp2_with fail
          go_quiet (fail)
          go_wp2
          go_ret
          refine ⟨ret_bool ?_, below_drewN hb _⟩
          rw [eq_comm, beqL_no]
          rintro rfl
          exact he rfl
      · obtain rfl : j = n := by omega
        go_wp2_with fail
        go_ret
        refine ⟨ret_bool ?_, hb⟩
        rw [eq_comm, beqL_iff]
        exact eq_of_bt (by rw [HL.out, HK.out]) (by rw [HL.out]; exact HE.out)
  · have hne : ((n : Int) != (m : Int)) = true := by simp; omega
    go_enter Try.func25, Try.ntmps25
    go_wp2_with fail
    go_ret
    refine ⟨ret_bool ?_, Below.refl _ _⟩
    rw [eq_comm, beqL_no]
    rintro rfl
    exact hnm (HL.out.symm.trans HK.out)
end
section
open Go.RowKit
/-- The bytes of one number (i of them are read): an error, or the bytes. -/
def grp (i : Nat) : List Int → Int × List Int
  | [] => (6, [])
  | x :: s => if i = 9 ∧ 1 < x then (9, []) else if 128 ≤ x then ((grp (i + 1) s).1, x :: (grp (i + 1) s).2) else (0, [x])
/-- What groups come to. -/
def valI : List Int → Int
  | [] => 0
  | x :: s => x % 128 + 128 * valI s
/-- The number of a number whose sign stands in its lowest bit. -/
def zag (z : Int) : Int := if z % 2 = 1 then -(z / 2) - 1 else z / 2
/-- What Unvarint gives. -/
def unvG (at_ : Int) (g : Int × List Int) : Int × Int × Int :=
  if g.1 ≠ 0 then (0, 0, g.1) else if 1 < g.2.length ∧ bt g.2 (g.2.length - 1) = 0 then (0, 0, 8) else (zag (valI g.2), at_ + g.2.length, 0)
def unvL (l : List Int) (at_ : Int) : Int × Int × Int := if at_ < 0 then (0, 0, 1) else unvG at_ (grp 0 (l.drop at_.toNat))

/-- The first j bytes are all followed by another one. -/
def Pre (s : List Int) (j : Nat) : Prop := j ≤ 9 ∧ j ≤ s.length ∧ ∀ q, q < j → 128 ≤ bt s q
theorem Pre.zero (s : List Int) : Pre s 0 := ⟨by omega, by omega, fun q hq => absurd hq (by omega)⟩
theorem bt_cons_succ (x : Int) (s : List Int) (q : Nat) : bt (x :: s) (q + 1) = bt s q := by simp [bt]
theorem bt_cons_zero (x : Int) (s : List Int) : bt (x :: s) 0 = x := by simp [bt]
theorem grp_pre (s : List Int) : ∀ (i j : Nat), i + j ≤ 9 → j ≤ s.length → (∀ q, q < j → 128 ≤ bt s q) →
    grp i s = ((grp (i + j) (s.drop j)).1, s.take j ++ (grp (i + j) (s.drop j)).2) := by
  induction s with
  | nil => intro i j h1 h2 h3; simp at h2; subst h2; simp
  | cons x s ih =>
    intro i j h1 h2 h3
    cases j with
    | zero => simp
    | succ j =>
      have hx := h3 0 (by omega)
      rw [bt_cons_zero] at hx
      have := ih (i + 1) j (by omega) (by simpa using h2) (fun q hq => by have := h3 (q + 1) (by omega); rwa [bt_cons_succ] at this)
      rw [grp, if_neg (by omega), if_pos hx, this]
      simp [Nat.add_comm, Nat.add_left_comm]
theorem drop_cons {s : List Int} {j : Nat} (h : j < s.length) : s.drop j = bt s j :: s.drop (j + 1) := by
  rw [bt_lt h]; exact List.drop_eq_getElem_cons h
theorem unv_short {s : List Int} {j : Nat} (h : Pre s j) (hj : s.length ≤ j) (at_ : Int) : unvG at_ (grp 0 s) = (0, 0, 6) := by
  rw [grp_pre s 0 j (by have := h.1; omega) h.2.1 h.2.2, List.drop_eq_nil_of_le hj]
  rfl
theorem unv_over {s : List Int} {j : Nat} (h : Pre s j) (hj : j < s.length) (h9 : j = 9) (hx : 1 < bt s j) (at_ : Int) : unvG at_ (grp 0 s) = (0, 0, 9) := by
  rw [grp_pre s 0 j (by have := h.1; omega) h.2.1 h.2.2, drop_cons hj, grp, if_pos ⟨by omega, hx⟩]
  rfl
theorem Pre.succ {s : List Int} {j : Nat} (h : Pre s j) (hj : j < s.length) (h9 : ¬ (j = 9 ∧ 1 < bt s j)) (hx : 128 ≤ bt s j) : Pre s (j + 1) := by
  refine ⟨by have := h.1; omega, by omega, fun q hq => ?_⟩
  by_cases e : q = j
  · subst e; exact hx
  · exact h.2.2 q (by omega)
theorem grp_end {s : List Int} {j : Nat} (h : Pre s j) (hj : j < s.length) (h9 : ¬ (j = 9 ∧ 1 < bt s j)) (hx : ¬ 128 ≤ bt s j) : grp 0 s = (0, s.take (j + 1)) := by
  rw [grp_pre s 0 j (by have := h.1; omega) h.2.1 h.2.2, drop_cons hj, grp, if_neg (by simpa using h9), if_neg hx, take_succ_bt hj]
theorem unv_form {s : List Int} {j : Nat} (h : Pre s j) (hj : j < s.length) (h9 : ¬ (j = 9 ∧ 1 < bt s j)) (hx : ¬ 128 ≤ bt s j) (h0 : 0 < j) (hz : bt s j = 0) (at_ : Int) : unvG at_ (grp 0 s) = (0, 0, 8) := by
  have e : (s.take (j + 1)).length = j + 1 := by simp; omega
  rw [grp_end h hj h9 hx, unvG, if_neg (by simp), if_pos]
  refine ⟨by show 1 < (s.take (j + 1)).length; omega, ?_⟩
  show bt (s.take (j + 1)) ((s.take (j + 1)).length - 1) = 0
  rw [e, ← hz, take_succ_bt hj]
  simp [bt]
  rw [List.getElem?_append_right (by simp; omega)]
  simp [Nat.min_eq_left (Nat.le_of_lt hj)]
theorem unv_ok {s : List Int} {j : Nat} (h : Pre s j) (hj : j < s.length) (h9 : ¬ (j = 9 ∧ 1 < bt s j)) (hx : ¬ 128 ≤ bt s j) (h0 : ¬ (0 < j ∧ bt s j = 0)) (at_ : Int) :
    unvG at_ (grp 0 s) = (zag (valI (s.take (j + 1))), at_ + j + 1, 0) := by
  have e : (s.take (j + 1)).length = j + 1 := by simp; omega
  have e2 : bt (s.take (j + 1)) j = bt s j := by simp [bt]
  rw [grp_end h hj h9 hx, unvG, if_neg (by simp), if_neg]
  · show (zag (valI (s.take (j + 1))), at_ + ((s.take (j + 1)).length : Int), (0 : Int)) = _
    rw [e]
    congr 2
    omega
  · show ¬ (1 < (s.take (j + 1)).length ∧ bt (s.take (j + 1)) ((s.take (j + 1)).length - 1) = 0)
    rw [e, Nat.add_sub_cancel, e2]
    intro ⟨h1, h2⟩
    exact h0 ⟨by omega, h2⟩

theorem valI_snoc (l : List Int) (x : Int) : valI (l ++ [x]) = valI l + x % 128 * 128 ^ l.length := by
  induction l with
  | nil => simp [valI]
  | cons y l ih => rw [List.cons_append, valI, ih, valI, List.length_cons, Int.pow_succ, Int.mul_add, ← Int.mul_assoc, ← Int.add_assoc, Int.mul_comm 128 (x % 128), Int.mul_assoc (x % 128), Int.mul_comm 128 (128 ^ l.length)]
theorem valI_bd (l : List Int) : 0 ≤ valI l ∧ valI l < 128 ^ l.length := by
  induction l with
  | nil => simp [valI]
  | cons y l ih => rw [valI, List.length_cons, Int.pow_succ]; omega
/-- What a number's bytes come to fits. -/
theorem valI_fits {s : List Int} (hB : IsB s) {j : Nat} (hp : Pre s j) (hj : j < s.length) (h9 : ¬ (j = 9 ∧ 1 < bt s j)) : valI (s.take (j + 1)) < 18446744073709551616 := by
  rw [take_succ_bt hj, valI_snoc]
  have hb := valI_bd (s.take j)
  have hlen : (s.take j).length = j := by simp; omega
  rw [hlen] at hb ⊢
  have hx := hB.bt j
  have hj9 := hp.1
  rcases (by omega : j = 0 ∨ j = 1 ∨ j = 2 ∨ j = 3 ∨ j = 4 ∨ j = 5 ∨ j = 6 ∨ j = 7 ∨ j = 8 ∨ j = 9) with rfl | rfl | rfl | rfl | rfl | rfl | rfl | rfl | rfl | rfl <;> simp only [Int.reducePow] at hb ⊢ <;> omega
theorem andNot128 {x : Int} (h : 0 ≤ x ∧ x ≤ 255) : bits .andNot .u8 x 128 = x % 128 := by
  obtain ⟨n, rfl⟩ := Int.eq_ofNat_of_zero_le h.1
  have h1 := u8_andNot_nat n 128 (by omega) (by decide)
  rw [show n &&& (255 - 128) = n % 128 from Nat.and_two_pow_sub_one_eq_mod n 7] at h1
  simpa using h1
theorem and128 {x : Int} (h : 0 ≤ x ∧ x ≤ 255) : (bits .and .u8 x 128 != 0) = decide (128 ≤ x) := by
  obtain ⟨n, rfl⟩ := Int.eq_ofNat_of_zero_le h.1
  have h1 := u8_and_nat n 128 (by omega) (by decide)
  rw [show (128 : Nat) = 2 ^ 7 from rfl, nat_bit 7 n] at h1
  have h2 : bits .and .u8 (n : Int) 128 = ((n / 128 % 2 * 128 : Nat) : Int) := h1
  rw [h2, Bool.eq_iff_iff, bne_iff_ne, decide_eq_true_eq]
  omega
/-- One group more. -/
theorem or_group {z x : Int} {j : Nat} (hj : j ≤ 9) (hz : 0 ≤ z ∧ z < 128 ^ j) (hx : 0 ≤ x ∧ x ≤ 127) (h9 : ¬ (j = 9 ∧ 1 < x)) :
    bits .or .u64 z (IntKind.u64.wrap (x * 2 ^ (7 * j))) = z + x * 128 ^ j := by
  obtain ⟨z, rfl⟩ := Int.eq_ofNat_of_zero_le hz.1
  obtain ⟨x, rfl⟩ := Int.eq_ofNat_of_zero_le hx.1
  have e : (2 : Int) ^ (7 * j) = 128 ^ j := by rw [Int.pow_mul]; rfl
  have hzn : z < 2 ^ (7 * j) := by
    have h2 := hz.2
    rw [← e] at h2
    have e3 : ((2 ^ (7 * j) : Nat) : Int) = (2 : Int) ^ (7 * j) := by simp
    omega
  have hfit : x * 2 ^ (7 * j) < 18446744073709551616 := by
    rcases (by omega : j = 0 ∨ j = 1 ∨ j = 2 ∨ j = 3 ∨ j = 4 ∨ j = 5 ∨ j = 6 ∨ j = 7 ∨ j = 8 ∨ j = 9) with rfl | rfl | rfl | rfl | rfl | rfl | rfl | rfl | rfl | rfl <;> simp only [Nat.reducePow, Nat.reduceMul] <;> omega
  have e2 : ((x * 2 ^ (7 * j) : Nat) : Int) = (x : Int) * 2 ^ (7 * j) := by simp
  rw [← e2, IntKind.wrap_u64, Int.emod_eq_of_lt (by omega) (by omega)]
  have hz64 : z < 18446744073709551616 := by
    have : 2 ^ (7 * j) ≤ 2 ^ 63 := Nat.pow_le_pow_right (by decide) (by omega)
    omega
  rw [u64_or_nat z _ hz64 hfit, Nat.or_comm, nat_join (7 * j) (x * 2 ^ (7 * j)) z (Nat.mul_mod_left _ _) hzn, ← e, ← e2]
  omega
theorem and1 {z : Int} (h : 0 ≤ z ∧ z < 18446744073709551616) : bits .and .u64 z 1 = z % 2 := by
  obtain ⟨n, rfl⟩ := Int.eq_ofNat_of_zero_le h.1
  have h1 := u64_and_nat n 1 (by omega) (by decide)
  rw [show n &&& 1 = n % 2 from Nat.and_two_pow_sub_one_eq_mod n 1] at h1
  simpa using h1
theorem zag_prog {z : Int} (h : 0 ≤ z ∧ z < 18446744073709551616) : bits .xor .i64 (z / 2) (-(z % 2)) = zag z := by
  obtain ⟨n, rfl⟩ := Int.eq_ofNat_of_zero_le h.1
  have e : ((n : Int) / 2) = ((n / 2 : Nat) : Int) := by omega
  have hx : (BitVec.ofInt 64 ((n / 2 : Nat) : Int)).toNat = n / 2 := by
    rw [BitVec.ofInt_natCast, BitVec.toNat_ofNat]; omega
  unfold zag
  by_cases h1 : (n : Int) % 2 = 1
  · rw [if_pos h1, h1, e]
    show IntKind.i64.wrap ((BitVec.ofInt 64 ((n / 2 : Nat) : Int) ^^^ BitVec.ofInt 64 (-1)).toNat : Int) = _
    rw [show BitVec.ofInt 64 (-1) = BitVec.allOnes 64 from by decide, BitVec.xor_allOnes, BitVec.toNat_not, hx, IntKind.wrap_i64]
    omega
  · rw [if_neg h1, show (n : Int) % 2 = 0 by omega, e]
    show IntKind.i64.wrap ((BitVec.ofInt 64 ((n / 2 : Nat) : Int) ^^^ BitVec.ofInt 64 0).toNat : Int) = _
    rw [show BitVec.ofInt 64 0 = 0#64 from rfl, BitVec.xor_zero, hx, IntKind.wrap_i64]
    omega
end
section
open Go.RowKit
set_option maxRecDepth 100000
/-- Where 'b[lo:..]' lies. -/
def cutA (A : Option Addr) (c lo : Nat) : Option Addr := if c = lo then A else A.map (·.add lo)
theorem cutA_block {A : Option Addr} {c lo : Nat} {a : Addr} (h : cutA A c lo = some a) : ∃ b, A = some b ∧ b.block = a.block := by
  unfold cutA at h
  split at h
  · exact ⟨a, h, rfl⟩
  · cases A with
    | none => simp at h
    | some b => simp at h; subst h; exact ⟨b, rfl, by unfold Addr.add; split <;> rfl⟩
theorem rd_off' {w : World} {g off : Nat} {l : List Int} (h : Rd w (some ⟨g, off, none⟩) l) (k : Nat) : Rd w (some ⟨g, off + k, none⟩) (l.drop k) := by
  rcases h with rfl | ⟨b, o, hA, hc⟩
  · exact .inl (by simp)
  · injection hA with hA
    injection hA with e1 e2
    subst e1 e2
    refine .inr ⟨_, _, rfl, fun i hi => ?_⟩
    simp at hi
    have := hc (k + i) (by omega)
    rw [← Nat.add_assoc] at this
    rw [this]
    simp [bt]
theorem rd_take' {w : World} {A : Option Addr} {l : List Int} (h : Rd w A l) (n : Nat) : Rd w A (l.take n) := by
  rcases h with rfl | ⟨b, off, rfl, hc⟩
  · exact .inl (by simp)
  · refine .inr ⟨b, off, rfl, fun i hi => ?_⟩
    have hi' : i < n ∧ i < l.length := by simpa [Nat.lt_min] using hi
    rw [hc i hi'.2]
    simp [bt, hi'.1]
theorem cutA_rd {w : World} {A : Option Addr} {l : List Int} (hA : Rd w A l) (c lo m : Nat) (hc : l.length ≤ c) : Rd w (cutA A c lo) ((l.drop lo).take m) := by
  unfold cutA
  split
  · rename_i h
    rw [List.drop_of_length_le (by omega)]
    exact .inl (by simp)
  · rcases hA with rfl | ⟨b, off, rfl, hcell⟩
    · exact .inl (by simp)
    · have : Rd w (some ⟨b, off, none⟩) l := .inr ⟨b, off, rfl, hcell⟩
      have e : (Option.map (fun x : Addr => x.add lo) (some ⟨b, off, none⟩)) = some ⟨b, off + lo, none⟩ := by simp [Addr.add]
      rw [e]
      exact rd_take' (rd_off' this lo) m
theorem run_cut (A : Option Addr) (n c lo m : Nat) (h : lo + m ≤ c) (w : World) :
    (Instr.slice 29 (.slice A n c) (some (.int .i64 (lo : Int))) (some (.int .i64 ((lo : Int) + (m : Int)))) none).run Try.prog w = .ok (.slice (cutA A c lo) m (c - lo)) w := by
  rw [run_slice_lh w 29 A n c Try.underlying29 .i64 .i64 (lo : Int) ((lo : Int) + (m : Int)) (by omega) (by omega) (by omega)]
  have e : (sizeOf (Try.prog.elem 29)).run Try.prog w = .ok 1 w := by kernel_rfl
  have e2 : ((lo : Int) + (m : Int)).toNat = lo + m := by omega
  rw [e]
  simp only [Result.andThen, sliced, Int.toNat_natCast, e2, cutA, Nat.mul_one]
  rw [show lo + m - lo = m by omega]
/-- 'b[lo:]'. -/
theorem run_cut_from (A : Option Addr) (n c lo : Nat) (h : lo ≤ n) (w : World) :
    (Instr.slice 29 (.slice A n c) (some (.int .i64 (lo : Int))) none none).run Try.prog w = .ok (.slice (cutA A c lo) (n - lo) (c - lo)) w := by
  rw [run_slice_l w 29 A n c Try.underlying29 .i64 (lo : Int) (by omega) (by omega)]
  have e : (sizeOf (Try.prog.elem 29)).run Try.prog w = .ok 1 w := by kernel_rfl
  rw [e]
  simp only [Result.andThen, sliced, Int.toNat_natCast, cutA, Nat.mul_one]
end
section
open Go
section
variable {P : Program} {ops : Array Oper} {Q : Exit → Act → World → Prop} {md : Region.Mode} {S : World → Prop}
def closedZ (md : Region.Mode) (ops : Array Oper) (listed : Array Bool) : Prop :=
  ∀ x o, ops[x]? = some o → listed.getD x false = true → ∀ e ∈ o.after, Region.binds md e = true → listed.getD e.on false = true
def closedB (md : Region.Mode) (ops : Array Oper) (listed : Array Bool) : Bool :=
  (List.range ops.size).all fun x => !listed.getD x false || ((ops[x]?).map (·.after.all fun e => !Region.binds md e || listed.getD e.on false)).getD true
theorem closedB_spec {listed : Array Bool} (h : closedB md ops listed = true) : closedZ md ops listed := by
  intro x o ho hx e he hb
  have hlt : x < ops.size := (Array.getElem?_eq_some_iff.1 ho).1
  have h1 := (List.all_eq_true.1 h) x (List.mem_range.2 hlt)
  simp only [ho, Option.map_some, Option.getD_some, Bool.or_eq_true, Bool.not_eq_true', hx, Bool.true_eq_false, false_or] at h1
  have h2 := Array.all_eq_true_iff_forall_mem.1 h1 e he
  simpa [hb] using h2
def reachB (md : Region.Mode) (ops : Array Oper) : Nat → Nat → Nat → Bool
  | 0, z, i => z == i
  | f + 1, z, i => z == i || ((ops[z]?).map (·.after.any fun e => Region.binds md e && reachB md ops f e.on i)).getD false
theorem reach_listed {listed : Array Bool} (hc : closedZ md ops listed) (i : Nat) : ∀ (f z : Nat), reachB md ops f z i = true → listed.getD z false = true → listed.getD i false = true
  | 0, z, h, hz => by
    have : z = i := by simpa [reachB] using h
    subst this; exact hz
  | f + 1, z, h, hz => by
    rw [reachB, Bool.or_eq_true] at h
    rcases h with h | h
    · have : z = i := by simpa using h
      subst this; exact hz
    · cases ho : ops[z]? with
      | none => simp [ho] at h
      | some o =>
        simp only [ho, Option.map_some, Option.getD_some] at h
        obtain ⟨e, he, hb⟩ := Array.any_eq_true'.1 h
        rw [Bool.and_eq_true] at hb
        exact reach_listed hc i f e.on hb.2 (hc z o ho hz e he hb.1)
theorem getD_setZ {listed : Array Bool} {i z : Nat} {d : Bool} (h : i ≠ z) : (listed.setIfInBounds i true).getD z d = listed.getD z d := getD_set_ne d h
theorem closed_set {listed : Array Bool} {j : Nat} (hc : closedZ md ops listed) (hj : j ∈ Region.ready md ops listed) : closedZ md ops (listed.setIfInBounds j true) := by
  intro x o ho hx e he hb
  obtain ⟨h0, oj, hoj, hall⟩ := mem_ready.1 hj
  by_cases hxj : x = j
  · subst hxj
    rw [ho] at hoj
    injection hoj with hoj
    subst hoj
    exact getD_set_true (hall e he hb)
  · rw [getD_setZ (Ne.symm hxj)] at hx
    exact getD_set_true (hc x o ho hx e he hb)

/-- Whatever order is picked from here on, and S holds behind every operation till z is carried out. -/
def wpAnyZ (P : Program) (md : Region.Mode) (ops : Array Oper) (Q : Exit → Act → World → Prop) (z : Nat) (S : World → Prop) : Nat → Array Bool → Act → World → Prop
  | 0, listed, a, w => Region.ready md ops listed = [] ∧ Q .normal a w
  | fuel + 1, listed, a, w =>
    (Region.ready md ops listed = [] → Q .normal a w) ∧
    ∀ i ∈ Region.ready md ops listed, wpOp P ops Q i (fun a' w' => ((listed.setIfInBounds i true).getD z false = false → S w') ∧ wpAnyZ P md ops Q z S fuel (listed.setIfInBounds i true) a' w') a w
theorem wpAny_of_z {z : Nat} : ∀ (fuel : Nat) (listed : Array Bool) (a : Act) (w : World), wpAnyZ P md ops Q z S fuel listed a w → wpAny P md ops Q fuel listed a w
  | 0, _, _, _, h => h
  | fuel + 1, _, _, _, h => ⟨h.1, fun i hi => wpOp_mono (fun a' w' h' => wpAny_of_z fuel _ a' w' h'.2) (h.2 i hi)⟩
theorem wpAnyZ_first {z i f : Nat} {oi : Oper} {v : Value} (hi : ops[i]? = some oi) (hsel : ∀ (j : Nat) (o : Oper) cs b, ops[j]? = some o → o.op ≠ .select cs b)
    (hQ : ∀ c a w, Q (.panic c) (a.put oi.dst v) w → Q (.panic c) a w) (hiz : i ≠ z) (hreach : reachB md ops f z i = true) :
    ∀ (fuel : Nat) (listed : Array Bool) (a : Act) (w : World),
      (∀ j oj, ops[j]? = some oj → j ≠ i → listed.getD j true = false → (∀ e ∈ oj.after, Region.binds md e = true → e.on ≠ i) → oi.apart ops oj = true) →
      closedZ md ops listed → i ∈ Region.ready md ops listed → YieldsIf P ops S oi v a → S w →
      wpAnyZ P md ops Q z S fuel (listed.setIfInBounds i true) (a.put oi.dst v) w → wpAnyZ P md ops Q z S (fuel + 1) listed a w := by
  intro fuel
  induction fuel with
  | zero =>
    intro listed a w _ _ hr hy hS H
    refine ⟨fun h => (by rw [h] at hr; cases hr), fun j hj => ?_⟩
    by_cases hji : j = i
    · subst hji; exact hy.wpOp hi hS ⟨fun _ => hS, H⟩
    · have := ready_mono hj hji
      rw [H.1] at this
      cases this
  | succ fuel ih =>
    intro listed a w hfree hcl hr hy hS H
    refine ⟨fun h => (by rw [h] at hr; cases hr), fun j hj => ?_⟩
    by_cases hji : j = i
    · subst hji; exact hy.wpOp hi hS ⟨fun _ => hS, H⟩
    · have h1 := H.2 j (ready_mono hj hji)
      obtain ⟨hjun, oj, hoj, hall⟩ := mem_ready.1 hj
      have hisz : i < listed.size := by
        have h0 := (mem_ready.1 hr).1
        rcases Nat.lt_or_ge i listed.size with h' | h'
        · exact h'
        · simp [Array.getElem?_eq_none h'] at h0
      have hiun : listed.getD i false = false := by
        have h0 := (mem_ready.1 hr).1
        simpa [hisz] using h0
      have hnot : ∀ e ∈ oj.after, Region.binds md e = true → e.on ≠ i := fun e he hb heq => by
        have h1 := hall e he hb
        rw [heq, hiun] at h1
        cases h1
      have hcl' := closed_set hcl hj
      have hiun' : (listed.setIfInBounds j true).getD i false = false := by rw [getD_setZ hji]; exact hiun
      have hz' : (listed.setIfInBounds j true).getD z false = false := by
        cases hzz : (listed.setIfInBounds j true).getD z false with
        | false => rfl
        | true =>
          have := reach_listed hcl' i f z hreach hzz
          rw [hiun'] at this
          cases this
      have h2 := wpOp_putIf hoj (hfree j oj hoj hji hjun hnot) (fun cs b => hsel i oi cs b hi) (fun cs b => hsel j oj cs b hoj) hQ hy h1
      have hfree' : ∀ k ok, ops[k]? = some ok → k ≠ i → (listed.setIfInBounds j true).getD k true = false →
          (∀ e ∈ ok.after, Region.binds md e = true → e.on ≠ i) → oi.apart ops ok = true := fun k ok hk hki hun hno => by
        refine hfree k ok hk hki ?_ hno
        by_cases hjk : j = k
        · subst hjk; exact hjun
        · rw [getD_set_ne true hjk] at hun; exact hun
      refine wpOp_mono (fun a' w' h3 => ?_) h2
      have hS' : S w' := h3.2.1 (by rw [Array.setIfInBounds_comm _ _ (Ne.symm hji), getD_setZ hiz]; exact hz')
      refine ⟨fun _ => hS', ih (listed.setIfInBounds j true) a' w' hfree' hcl' (ready_mono hr (Ne.symm hji)) h3.1 hS' ?_⟩
      rw [Array.setIfInBounds_comm _ _ hji]
      exact h3.2.2
theorem wpAnyZ_take {z i : Nat} {oi : Oper} {v : Value} {fuel : Nat} {listed : Array Bool} {a : Act} {w : World} (hi : ops[i]? = some oi)
    (hs : Region.noSelect ops = true) (hf : Region.free md ops listed i = true) (hr : (Region.ready md ops listed).contains i = true) (hz : (i != z && reachB md ops ops.size z i && closedB md ops listed) = true)
    (hQ : ∀ c a w, Q (.panic c) (a.put oi.dst v) w → Q (.panic c) a w) (hy : YieldsIf P ops S oi v a) (hS : S w)
    (h : wpAnyZ P md ops Q z S fuel (listed.setIfInBounds i true) (a.put oi.dst v) w) : wpAnyZ P md ops Q z S (fuel + 1) listed a w := by
  simp only [Bool.and_eq_true, bne_iff_ne, ne_eq] at hz
  exact wpAnyZ_first hi (Region.noSelect_spec hs) hQ hz.1.1 hz.1.2 fuel listed a w (Region.free_spec hi hf) (closedB_spec hz.2) (by simpa using hr) hy hS h
theorem wpAnyZ_done {z : Nat} {listed : Array Bool} {a : Act} {w : World} (hr : Region.ready md ops listed = []) (h : Q .normal a w) :
    ∀ fuel, wpAnyZ P md ops Q z S fuel listed a w
  | 0 => ⟨hr, h⟩
  | _ + 1 => ⟨fun _ => h, by rw [hr]; simp⟩
theorem wp_region_z {z id : Nat} {a : Act} {w : World} (hm : P.follows .mixedOrders = true) (hS : S w.drew)
    (h : S w.drew → wpAnyZ P .any ops Q z S ops.size (Array.replicate ops.size false) a w.drew) : (Code.region id ops true).wp P Q a w :=
  wp_region_any hm (wpAny_of_z _ _ _ _ (h hS))
/-- One operation comes up, and it is not the last. -/
theorem wpAnyZ_one {z i : Nat} {o : Oper} {fuel : Nat} {listed : Array Bool} {a : Act} {w : World} (hr : Region.ready md ops listed = [i]) (ho : ops[i]? = some o)
    (h : ∀ K' : Act → World → Prop, Shut (∀ a w, S w → (S w → wpAnyZ P md ops Q z S fuel (listed.setIfInBounds i true) a w) → K' a w) → if Region.wanted o (yielded ops a.tmps) = true then Oper.wp P o a w K' Q else K' (a.put o.dst undef) w) :
    wpAnyZ P md ops Q z S (fuel + 1) listed a w := by
  refine ⟨fun h0 => (by rw [hr] at h0; cases h0), fun j hj => ?_⟩
  rw [hr] at hj
  obtain rfl : j = i := by simpa using hj
  exact wpOp_step ho (fun K' hK => h K' (fun a w hS hW => hK a w ⟨fun _ => hS, hW hS⟩))
/-- The last one comes up. -/
theorem wpAnyZ_last {z : Nat} {o : Oper} {fuel : Nat} {listed : Array Bool} {a : Act} {w : World} (hr : Region.ready md ops listed = [z]) (ho : ops[z]? = some o) (hr' : Region.ready md ops (listed.setIfInBounds z true) = [])
    (h : ∀ K' : Act → World → Prop, (∀ a w, Q .normal a w → K' a w) → if Region.wanted o (yielded ops a.tmps) = true then Oper.wp P o a w K' Q else K' (a.put o.dst undef) w) :
    wpAnyZ P md ops Q z S (fuel + 1) listed a w := by
  refine ⟨fun h0 => (by rw [hr] at h0; cases h0), fun j hj => ?_⟩
  rw [hr] at hj
  obtain rfl : j = z := by simpa using hj
  refine wpOp_step ho (fun K' hK => h K' (fun a w hq => hK a w ⟨fun h0 => ?_, wpAnyZ_done hr' hq _⟩))
  exfalso
  have hjs : j < listed.size := by
    have h1 : j ∈ Region.ready md ops listed := by rw [hr]; simp
    have h2 := (mem_ready.1 h1).1
    rcases Nat.lt_or_ge j listed.size with h' | h'
    · exact h'
    · simp [Array.getElem?_eq_none h'] at h2
  simp [hjs] at h0
end
end
end Go.Proofs.Ytoeaffmlolapnaa
