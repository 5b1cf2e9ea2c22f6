/- Several texts of this proof as one: Base, Mem, Frame, NumP, NumA, Grow, NumB, Sli. Laid by merge.py. -/
import Derived.ArgAppend
import Derived.BigQuiet
import Derived.ChangeOld
import Derived.Deep.DeepCutAuto
import Derived.Deep.Matrix
import Derived.Deep.QuietTactic
import Derived.Handy
import Derived.Lib.AppendStr
import Derived.Lib.Hide
import Derived.Maps.AppendAt
import Derived.OpenShut
import Derived.ProofKit
import Derived.ShutString
import Derived.Test.YtlehpgokjppccaaProg
import Derived.WalkKit
import Derived.WalkSpells
namespace Go.Proofs.Ytlehpgokjppccaa
section
open Go.RowKit
/-- The byte at a place (0 behind the end). -/
def bt (l : List Int) (i : Nat) : Int := l.getD i 0
/-- The row at a place. -/
def rw_ (l : List (List Int)) (i : Nat) : List Int := l.getD i []

theorem bt_lt {l : List Int} {i : Nat} (h : i < l.length) : bt l i = l[i] := by simp [bt, h]
theorem bt_ge {l : List Int} {i : Nat} (h : l.length ≤ i) : bt l i = 0 := by simp [bt, List.getElem?_eq_none h]
theorem rw_lt {l : List (List Int)} {i : Nat} (h : i < l.length) : rw_ l i = l[i] := by simp [rw_, h]

/-- All are bytes. -/
def IsB (l : List Int) : Prop := ∀ x ∈ l, 0 ≤ x ∧ x ≤ 255
theorem IsB.bt {l : List Int} (h : IsB l) (i : Nat) : 0 ≤ bt l i ∧ bt l i ≤ 255 := by
  by_cases hi : i < l.length
  · rw [bt_lt hi]; exact h _ (List.getElem_mem hi)
  · rw [bt_ge (by omega)]; omega

/-- A slice's address reads as these bytes. -/
def Rd (w : World) (A : Option Addr) (l : List Int) : Prop :=
  l = [] ∨ ∃ b off, A = some ⟨b, off, none⟩ ∧ ∀ i, i < l.length → w.cell? ⟨b, off + i, none⟩ = some (.int .u8 (bt l i))

theorem Rd.at {w : World} {A : Option Addr} {l : List Int} (h : Rd w A l) (hl : 0 < l.length) :
    ∃ b off, A = some ⟨b, off, none⟩ ∧ b < w.heap.size ∧ ∀ i, i < l.length → w.cell? ⟨b, off + i, none⟩ = some (.int .u8 (bt l i)) := by
  rcases h with rfl | ⟨b, off, rfl, hc⟩
  · simp at hl
  · exact ⟨b, off, rfl, World.block_lt_of_cell? w _ (hc 0 hl), hc⟩

theorem Rd.below {w w' : World} {A : Option Addr} {l : List Int} {B : Nat} (h : Rd w A l) (hb : Below B w w') (hB : ∀ a, A = some a → a.block < B) : Rd w' A l := by
  rcases h with rfl | ⟨b, off, rfl, hc⟩
  · exact .inl rfl
  · exact .inr ⟨b, off, rfl, fun i hi => (hb.cell (p := ⟨b, off + i, none⟩) (show b < B from hB ⟨b, off, none⟩ rfl)).trans (hc i hi)⟩

theorem Rd.keep {w w' : World} {A : Option Addr} {l : List Int} (h : Rd w A l) (hb : Below w.heap.size w w') : Rd w' A l := by
  rcases h with rfl | ⟨b, off, rfl, hc⟩
  · exact .inl rfl
  · exact .inr ⟨b, off, rfl, fun i hi => (hb.cell (p := ⟨b, off + i, none⟩) (World.block_lt_of_cell? w _ (hc i hi))).trans (hc i hi)⟩

/-- Rows of bytes. -/
def RdRows (w : World) (A : Option Addr) (L : List (List Int)) : Prop :=
  L = [] ∨ ∃ b off, A = some ⟨b, off, none⟩ ∧ ∀ i, i < L.length → ∃ A' c, w.cell? ⟨b, off + i, none⟩ = some (.slice A' (rw_ L i).length c) ∧ (rw_ L i).length ≤ c ∧ c ≤ maxLen ∧ Rd w A' (rw_ L i)

theorem RdRows.keep {w w' : World} {A : Option Addr} {L : List (List Int)} (h : RdRows w A L) (hb : Below w.heap.size w w') : RdRows w' A L := by
  rcases h with rfl | ⟨b, off, rfl, hc⟩
  · exact .inl rfl
  · refine .inr ⟨b, off, rfl, fun i hi => ?_⟩
    obtain ⟨A', c, h1, h2, h3, h4⟩ := hc i hi
    exact ⟨A', c, (hb.cell (p := ⟨b, off + i, none⟩) (World.block_lt_of_cell? w _ h1)).trans h1, h2, h3, h4.keep hb⟩

theorem RdRows.at {w : World} {A : Option Addr} {L : List (List Int)} (h : RdRows w A L) (hl : 0 < L.length) :
    ∃ b off, A = some ⟨b, off, none⟩ ∧ b < w.heap.size ∧ ∀ i, i < L.length → ∃ A' c, w.cell? ⟨b, off + i, none⟩ = some (.slice A' (rw_ L i).length c) ∧ (rw_ L i).length ≤ c ∧ c ≤ maxLen ∧ Rd w A' (rw_ L i) := by
  rcases h with rfl | ⟨b, off, rfl, hc⟩
  · simp at hl
  · obtain ⟨A', c, h1, _⟩ := hc 0 hl
    exact ⟨b, off, rfl, World.block_lt_of_cell? w _ h1, hc⟩

theorem take_succ_bt {l : List Int} {k : Nat} (h : k < l.length) : l.take (k + 1) = l.take k ++ [bt l k] := by
  rw [bt_lt h, List.take_succ_eq_append_getElem h]
theorem take_succ_rw {l : List (List Int)} {k : Nat} (h : k < l.length) : l.take (k + 1) = l.take k ++ [rw_ l k] := by
  rw [rw_lt h, List.take_succ_eq_append_getElem h]

/-- Are two lists the same? Behind a name that the walk does not open. -/
def beqL (l k : List Int) : Bool := decide (l = k)
theorem beqL_iff (l k : List Int) : beqL l k = true ↔ l = k := by simp [beqL]
theorem beqL_no (l k : List Int) : beqL l k = false ↔ l ≠ k := by simp [beqL]
theorem beqL_self (l : List Int) : beqL l l = true := by simp [beqL]

theorem ret_int {k : IntKind} {a b : Int} (h : a = b) : Ending.returned (.int k a) = .returned (.int k b) := by rw [h]
end
section
open Go.RowKit
set_option maxRecDepth 100000
theorem info_u8 : (Try.prog.info? 5).map (fun i => (i.zero, i.size, i.bytes)) = some (some (.int .u8 0), 1, 1) := by kernel_rfl

/-- The bytes as values. -/
def vb (l : List Int) : List Value := l.map (Value.int .u8)
theorem vb_length (l : List Int) : (vb l).length = l.length := by simp [vb]
theorem vb_append (l m : List Int) : vb (l ++ m) = vb l ++ vb m := by simp [vb]
theorem vb_get {l : List Int} {j : Nat} {u : Value} (h : (vb l)[j]? = some u) : j < l.length ∧ u = .int .u8 (bt l j) := by
  have hj : j < l.length := by simpa [vb] using (List.getElem?_eq_some_iff.1 h).1
  refine ⟨hj, ?_⟩
  simp [vb, hj] at h
  rw [bt_lt hj, h]
theorem vb_one (l : List Int) : ∀ u ∈ vb l, u.oneCell' = true := ints_oneCell .u8 l

/-- A slice of bytes among the blocks from 'base' on, that the call owns. -/
def OwnB (w : World) (base : Nat) (A : Option Addr) (n c : Nat) (l : List Int) : Prop := w.ownsRow base 5 1 (.slice A n c) n (vb l)

theorem OwnB.len {w : World} {base : Nat} {A : Option Addr} {n c : Nat} {l : List Int} (h : OwnB w base A n c l) : l.length = n := by
  have := h.1
  rw [vb_length] at this
  omega
theorem OwnB.form {w : World} {base : Nat} {A : Option Addr} {n c : Nat} {l : List Int} (h : OwnB w base A n c l) :
    (A = none ∧ n = 0 ∧ c = 0) ∨ ∃ g cur, A = some ⟨g, 0, none⟩ ∧ base ≤ g ∧ w.heap[g]? = some (.cells cur 5 (0, 0)) ∧ n ≤ c ∧ c ≤ maxLen ∧ cur.size = c ∧ cur.toList.take n = vb l := by
  rcases h.2 with ⟨hv, hn⟩ | ⟨g, cap, cur, hv, hb, hg, h1, h2, h3, h4⟩
  · injection hv with h1 h2 h3
    exact .inl ⟨h1, hn, h3⟩
  · injection hv with e1 e2 e3
    subst e3
    exact .inr ⟨g, cur, e1, hb, hg, h1, h2, by omega, by simpa using h4⟩
theorem OwnB.cap {w : World} {base : Nat} {A : Option Addr} {n c : Nat} {l : List Int} (h : OwnB w base A n c l) : n ≤ c ∧ c ≤ maxLen := by
  rcases h.form with ⟨_, rfl, rfl⟩ | ⟨_, _, _, _, _, h1, h2, _⟩
  · exact ⟨Nat.le_refl _, by unfold maxLen; omega⟩
  · exact ⟨h1, h2⟩
theorem OwnB.rd {w : World} {base : Nat} {A : Option Addr} {n c : Nat} {l : List Int} (h : OwnB w base A n c l) : Rd w A l := by
  rcases h.form with ⟨rfl, rfl, rfl⟩ | ⟨g, cur, rfl, _, _, _, _, _, _⟩
  · have := h.len
    exact .inl (List.eq_nil_of_length_eq_zero this)
  · refine .inr ⟨g, 0, rfl, fun i hi => ?_⟩
    have hc := World.ownsRow.cells h (g := g) rfl i (.int .u8 (bt l i)) (by rw [bt_lt hi]; simp [vb, hi])
    simpa [Addr.add_lit] using hc
theorem OwnB.blk {w : World} {base : Nat} {n c g : Nat} {l : List Int} (h : OwnB w base (some ⟨g, 0, none⟩) n c l) : base ≤ g ∧ g < w.heap.size := World.ownsRow.lt h g rfl
theorem OwnB.nil (w : World) (base : Nat) : OwnB w base none 0 0 [] := World.ownsRow_nil w base _ _
theorem OwnB.keep {w w' : World} {base : Nat} {A : Option Addr} {n c : Nat} {l : List Int} (h : OwnB w base A n c l) (hb : Below w.heap.size w w') : OwnB w' base A n c l := by
  refine ⟨h.1, ?_⟩
  rcases h.2 with hv | ⟨g, cap, cur, hv, hbg, hg, rest⟩
  · exact .inl hv
  · exact .inr ⟨g, cap, cur, hv, hbg, (hb.block g (Array.getElem?_eq_some_iff.1 hg).1).trans hg, rest⟩
theorem OwnB.mono {w : World} {base base' : Nat} {A : Option Addr} {n c : Nat} {l : List Int} (h : OwnB w base A n c l) (hb : base' ≤ base) : OwnB w base' A n c l := by
  refine ⟨h.1, ?_⟩
  rcases h.2 with hv | ⟨g, cap, cur, hv, hbg, rest⟩
  · exact .inl hv
  · exact .inr ⟨g, cap, cur, hv, by omega, rest⟩
theorem OwnB.alloc {w : World} {base : Nat} {A : Option Addr} {n c : Nat} {l : List Int} (h : OwnB w base A n c l) (o : Obj) : OwnB (w.alloc o) base A n c l := World.ownsRow.alloc h o
theorem OwnB.drew {w : World} {base : Nat} {A : Option Addr} {n c : Nat} {l : List Int} (h : OwnB w base A n c l) : OwnB w.drew base A n c l := h

/-- '[]byte{}' and '[]byte{x, ..}': a new block of these bytes. -/
theorem OwnB.lit (w : World) (cs : Array Value) (l : List Int) (base n : Nat) (hcs : cs.toList = vb l) (hn : n = l.length) (hb : base ≤ w.heap.size) (hm : n ≤ maxLen) :
    OwnB (w.alloc (.cells cs 5)) base (some ⟨w.heap.size, 0, none⟩) n n l := by
  subst hn
  have hsz : cs.size = l.length := by rw [← Array.length_toList, hcs, vb_length]
  refine ⟨by rw [vb_length, Nat.mul_one], .inr ⟨w.heap.size, l.length, cs, rfl, hb, heap_alloc_new w _, Nat.le_refl _, hm, by omega, ?_⟩⟩
  rw [hcs, Nat.mul_one, ← vb_length, List.take_length]

theorem run_append_bytes (w : World) (base : Nat) (A : Option Addr) (n c : Nat) (l : List Int) (hown : OwnB w base A n c l) (B : Option Addr) (m d : Nat) (k : List Int) (hk : k.length = m) (hr : Rd w B k)
    (hbytes : n + m ≤ 140737488355328) (hbase : base ≤ w.heap.size) (ty : TypeId) :
    ∃ A' c' w', (Builtin.append_ #[24, 24] ty #[.slice A n c, .slice B m d]).run Try.prog w = .ok (.slice A' (n + m) c') w' ∧ OwnB w' base A' (n + m) c' (l ++ k) ∧ w.grownBy w' (Value.ownBlock (.slice A n c)) ∧
      (Value.ownBlock (.slice A' (n + m) c') = Value.ownBlock (.slice A n c) ∨ Value.ownBlock (.slice A' (n + m) c') = some w.heap.size) := by
  obtain ⟨i, hi, hz, hsz, hby⟩ := info_parts info_u8
  rcases B with _ | b
  · have hm : k = [] := by
      rcases hr with h | ⟨_, _, h, _⟩
      · exact h
      · cases h
    subst hm
    obtain rfl : m = 0 := by simpa using hk.symm
    refine ⟨A, c, w, ?_, ?_, ⟨rfl, rfl, rfl, Nat.le_refl _, fun _ _ _ => rfl⟩, .inl rfl⟩
    · rcases hown.2 with ⟨hv, hn⟩ | ⟨g, cap, cur, hv, _, _, hnc, _⟩
      · injection hv with e1 e2 e3
        subst e1; subst e2; subst e3
        simp [Builtin.append_, run_underlying Try.underlying24, sizeOf, typeInfo, hi, Builtin.lenOf, Builtin.firstCells]
      · injection hv with e1 e2 e3
        subst e1; subst e3
        simp [Builtin.append_, run_underlying Try.underlying24, sizeOf, typeInfo, hi, Builtin.lenOf, Builtin.firstCells, hnc, storeCells]
    · simpa using hown
  · have hcells : ∀ j u, (vb k)[j]? = some u → w.cell? (b.add j) = some u := by
      intro j u hu
      obtain ⟨hj, rfl⟩ := vb_get hu
      rcases hr with rfl | ⟨g, off, hB, hc⟩
      · simp at hj
      · injection hB with hB
        subst hB
        simpa [Addr.add_lit] using hc j hj
    obtain ⟨v', w', hrun, h2, h3, h4, h5⟩ := run_append_own_at (P := Try.prog) w base 24 ty 5 i (.int .u8 0) 1 1 Try.underlying24 hi hz hsz hby rfl (by decide) (.slice A n c) n (vb l) hown b m d (vb k)
      (by rw [vb_length, hk, Nat.mul_one]) hcells (vb_one k) (by unfold maxLen; omega) (by omega) hbase
    have hform : ∃ A' c', v' = .slice A' (n + m) c' := by
      rcases h2.2 with ⟨hv, hn⟩ | ⟨g, cap, cur, hv, _⟩
      · exact ⟨none, 0, by rw [hv, hn]⟩
      · exact ⟨_, _, hv⟩
    obtain ⟨A', c', rfl⟩ := hform
    rw [← vb_append] at h2
    exact ⟨A', c', w', hrun, h2, h3, h5⟩

/-- 'append(out, xs...)' on bytes: out is the call's own; xs whatever. -/
theorem wp_append {ops : Array Oper} {rest : List Oper} {o : Oper} {a : Act} {w : World} {Q : Exit → Act → World → Prop} (hgd : o.guard = none) (s x : Operand)
    (ho : o.op = .call { callee := .builtin .append, args := #[s, x], argTypes := #[24, 24] })
    (base : Nat) (A : Option Addr) (n c : Nat) (l : List Int) (hs : a.eval s = .slice A n c) (hown : OwnB w base A n c l) (B : Option Addr) (m d : Nat) (k : List Int) (hx : a.eval x = .slice B m d) (hk : k.length = m) (hr : Rd w B k)
    (hbytes : n + m ≤ 140737488355328) (hbase : base ≤ w.heap.size)
    (h : ∀ A' c' w', OwnB w' base A' (n + m) c' (l ++ k) → w.grownBy w' (Value.ownBlock (.slice A n c)) → Below base w w' → wpList Try.prog ops Q rest (a.put o.dst (.slice A' (n + m) c')) w') : wpList Try.prog ops Q (o :: rest) a w := by
  obtain ⟨A', c', w', hrun, h2, h3, _⟩ := run_append_bytes w base A n c l hown B m d k hk hr hbytes hbase o.type
  have hb : Below base w w' := (Below.refl _ _).grown h3 hbase (fun k hk => (World.ownsRow.lt hown k hk).1)
  refine wpList_plain hgd fun K hK => ?_
  unfold Oper.wp execOp
  simp only [ho, resolve, invoke, builtin, Sem.run_bind, Sem.run_pure, Result.andThen_ok, List.map_toArray, List.map_cons, List.map_nil, hs, hx, hrun]
  exact hK _ _ (h A' c' w' h2 h3 hb)

/-- The same inside a region that draws its order. -/
theorem step_append {ops : Array Oper} {o : Oper} {a : Act} {w : World} {K : Act → World → Prop} {Q : Exit → Act → World → Prop} {E : Prop} (hgd : o.guard = none) (s x : Operand)
    (ho : o.op = .call { callee := .builtin .append, args := #[s, x], argTypes := #[24, 24] })
    (base : Nat) (A : Option Addr) (n c : Nat) (l : List Int) (hs : a.eval s = .slice A n c) (hown : OwnB w base A n c l) (B : Option Addr) (m d : Nat) (k : List Int) (hx : a.eval x = .slice B m d) (hk : k.length = m) (hr : Rd w B k)
    (hbytes : n + m ≤ 140737488355328) (hbase : base ≤ w.heap.size)
    (h : ∀ A' c' w', OwnB w' base A' (n + m) c' (l ++ k) → w.grownBy w' (Value.ownBlock (.slice A n c)) → Below base w w' → K (a.put o.dst (.slice A' (n + m) c')) w') :
    if Region.wanted o (yielded ops a.tmps) = true then Oper.wp Try.prog o a w K Q else E := by
  obtain ⟨A', c', w', hrun, h2, h3, _⟩ := run_append_bytes w base A n c l hown B m d k hk hr hbytes hbase o.type
  have hb : Below base w w' := (Below.refl _ _).grown h3 hbase (fun k hk => (World.ownsRow.lt hown k hk).1)
  have hw : Region.wanted o (yielded ops a.tmps) = true := by simp [Region.wanted, hgd]
  rw [if_pos hw]
  unfold Oper.wp execOp
  simp only [ho, resolve, invoke, builtin, Sem.run_bind, Sem.run_pure, Result.andThen_ok, List.map_toArray, List.map_cons, List.map_nil, hs, hx, hrun]
  exact h A' c' w' h2 h3 hb

theorem OwnB.cellAt {w : World} {base g n c : Nat} {l : List Int} (h : OwnB w base (some ⟨g, 0, none⟩) n c l) (j : Nat) (hj : j < n) : w.cell? ⟨g, j, none⟩ = some (.int .u8 (bt l j)) := by
  have hl := h.len
  have := World.ownsRow.cellAt h j (by omega)
  rw [this, bt_lt (by omega)]
  simp [vb, show j < l.length by omega]
theorem OwnB.frozenAt {w : World} {base g n c : Nat} {l : List Int} (h : OwnB w base (some ⟨g, 0, none⟩) n c l) (j : Nat) : w.frozen? ⟨g, j, none⟩ = false := World.ownsRow.frozenAt h j
theorem OwnB.stored {w : World} {base g n c : Nat} {l : List Int} (h : OwnB w base (some ⟨g, 0, none⟩) n c l) (j : Nat) (x : Int) : OwnB (w.setCell ⟨g, j, none⟩ (.int .u8 x)) base (some ⟨g, 0, none⟩) n c (l.set j x) := by
  have := World.ownsRow.stored h j (.int .u8 x)
  unfold OwnB
  rw [show vb (l.set j x) = (vb l).set j (.int .u8 x) from by simp [vb, List.map_set]]
  exact this.1
/-- A slice of at least one byte that the call owns lies at a row's head. -/
theorem OwnB.at {w : World} {base : Nat} {A : Option Addr} {n c : Nat} {l : List Int} (h : OwnB w base A n c l) (hn : 0 < n) : ∃ g, A = some ⟨g, 0, none⟩ ∧ base ≤ g ∧ g < w.heap.size := by
  rcases h.form with ⟨_, h0, _⟩ | ⟨g, cur, hA, hb, _⟩
  · omega
  · subst hA
    exact ⟨g, rfl, h.blk.1, h.blk.2⟩

/-- A row of zeros. -/
def zrs (n : Nat) : Array Value := madeCells (Value.cells (.int .u8 0)) n
/-- 'make([]byte, a, n)'. -/
theorem run_mk (a n : Nat) (ha : a ≤ n) (hn : n ≤ 281474976710656) (w : World) :
    (Instr.makeSlice 24 (.int .i64 (a : Int)) (.int .i64 (n : Int))).run Try.prog w = .ok (.slice (some ⟨w.heap.size, 0, none⟩) a n) (w.alloc (.cells (zrs n) 5)) := by
  obtain ⟨i, hi, hz, hsz, hby⟩ := info_parts info_u8
  have h := run_make (P := Try.prog) w 24 5 i (.int .u8 0) Try.underlying24 hi hz .i64 .i64 a n (by omega) (by omega) (by rw [hby]; omega) (by omega)
  simpa [hsz, zrs] using h
theorem zrs_size (n : Nat) : (zrs n).size = n := by simp [zrs, madeCells, Value.cells]
theorem zrs_get {n i : Nat} (h : i < n) : (zrs n)[i]? = some (.int .u8 0) := by
  simp [zrs, madeCells, Value.cells, h, Nat.mod_one]
theorem OwnB.made (w : World) (base n : Nat) (hb : base ≤ w.heap.size) (hm : n ≤ maxLen) : OwnB (w.alloc (.cells (zrs n) 5)) base (some ⟨w.heap.size, 0, none⟩) 0 n [] :=
  World.ownsRow_made w (zrs n) n hb hm (by rw [zrs_size, Nat.mul_one])

theorem OwnB.zeros (w : World) (base n : Nat) (hb : base ≤ w.heap.size) (hm : n ≤ maxLen) : OwnB (w.alloc (.cells (zrs n) 5)) base (some ⟨w.heap.size, 0, none⟩) n n (List.replicate n 0) := by
  refine ⟨by rw [vb_length]; simp, .inr ⟨w.heap.size, n, zrs n, rfl, hb, heap_alloc_new w _, Nat.le_refl _, hm, by rw [zrs_size, Nat.mul_one], ?_⟩⟩
  rw [Nat.mul_one]
  apply List.ext_getElem?
  intro i
  by_cases h : i < n
  · rw [List.getElem?_take_of_lt h, Array.getElem?_toList, zrs_get h]
    simp [vb, h]
  · rw [List.getElem?_eq_none (by simp; omega), List.getElem?_eq_none (by rw [vb_length]; simp; omega)]
/-- What comes back: bytes of the call's own. -/
def BytesBack (w : World) (l : List Int) (e : Ending) (w' : World) : Prop := ∃ A n c, e = .returned (.slice A n c) ∧ OwnB w' w.heap.size A n c l ∧ Below w.heap.size w w'

/-- 'string(b)'. -/
theorem run_str (w : World) (A : Option Addr) (n c : Nat) (l : List Int) (hn : l.length = n) (h : Rd w A l) :
    (convert 24 9 (.slice A n c)).run Try.prog w = .ok (.string (strOfNums l)) w := by
  rcases h with rfl | ⟨b, off, rfl, hc⟩
  · subst hn
    rw [run_convert_bytes_string w 24 9 5 A _ c Try.underlying24 Try.underlying5 Try.underlying9]
    cases A with
    | none => simp [Conv.bytesToString]; rfl
    | some a =>
      show (Conv.bytesToString (.slice (some a) 0 c)).run Try.prog w = _
      rw [run_bytesToString w a 0 c [] (by simpa using run_loadCells_list (P := Try.prog) w a [] (fun j v hj => by simp at hj))]
      rfl
  · exact run_convert_bytes_arg w 24 5 Try.underlying24 Try.underlying5 b off n c l hn (fun i hi => by rw [hc i (by omega)]; rfl) 9 Try.underlying9

theorem str_eq {l m : List Int} (hl : IsB l) (hm : IsB m) : (strOfNums l).toList = (strOfNums m).toList ↔ l = m := by
  rw [ByteArray.toList_eq, ByteArray.toList_eq, strOfNums_data, strOfNums_data]
  constructor
  · intro h
    have h2 := congrArg (List.map fun b : UInt8 => (b.toNat : Int)) h
    simp only [List.map_map] at h2
    have hid : ∀ k : List Int, IsB k → k.map ((fun b : UInt8 => (b.toNat : Int)) ∘ fun n => UInt8.ofNat n.toNat) = k := by
      intro k hk
      conv => rhs; rw [← List.map_id k]
      apply List.map_congr_left
      intro x hx
      have := hk x hx
      simp [UInt8.toNat_ofNat']
      omega
    rwa [hid l hl, hid m hm] at h2
  · rintro rfl; rfl
theorem str_beq {l m : List Int} (hl : IsB l) (hm : IsB m) : ((strOfNums l).toList == (strOfNums m).toList) = beqL l m := by
  rw [Bool.eq_iff_iff, beqL_iff]
  simp [str_eq hl hm]

end
section
open Go.ChangeShapes Go.WideShapes Go.ChangeAt Go.RowKit
set_option maxRecDepth 100000
theorem own : ownKnob Try.prog.godebug = none := by kernel_rfl
theorem laidOut : laidOutB Try.prog = true := by kernel_rfl

theorem wf_byte {n : Int} (h : (Lit.int .u8 n).wf = true) : 0 ≤ n ∧ n ≤ 255 := by
  simp [Lit.wf, IntKind.min, IntKind.max, IntKind.signed, IntKind.bits] at h
  omega
theorem wf_i64b {n : Int} (h : (Lit.int .i64 n).wf = true) : -9223372036854775808 ≤ n ∧ n ≤ 9223372036854775807 := by
  simp [Lit.wf, IntKind.min, IntKind.max, IntKind.signed, IntKind.bits] at h
  omega
theorem wf_u64b {n : Int} (h : (Lit.int .u64 n).wf = true) : 0 ≤ n ∧ n ≤ 18446744073709551615 := by
  simp [Lit.wf, IntKind.min, IntKind.max, IntKind.signed, IntKind.bits] at h
  omega
theorem wf_u32b {n : Int} (h : (Lit.int .u32 n).wf = true) : 0 ≤ n ∧ n ≤ 4294967295 := by
  simp [Lit.wf, IntKind.min, IntKind.max, IntKind.signed, IntKind.bits] at h
  omega

theorem rd_of_cells {w : World} {a : Addr} {n : Nat} {zs : List Int} (hn : n ≤ zs.length) (h : ∀ i, i < zs.length → w.cell? (a.add i) = some (.int .u8 (zs.getD i 0))) : Rd w (some a) (zs.take n) := by
  by_cases h0 : n = 0
  · subst h0; exact .inl (by simp)
  · obtain ⟨b, off, spot⟩ := a
    have hc := h 0 (by omega)
    have hs : spot = none := by simpa [Addr.add] using World.cell?_spot hc
    subst hs
    refine .inr ⟨b, off, rfl, fun i hi => ?_⟩
    have hi' : i < n := by simp at hi; omega
    have := h i (by omega)
    rw [Addr.add_lit] at this
    rw [this]
    simp [bt, hi']

section
variable {H : Type} {enc : TypeId × Value → H} {P : Program} {W : World} {base : Nat}
theorem open_bytes {T E : TypeId} {r : Reach} {b0 : Nat} {v : Value} {d : DataW H} {p : List MemPlace} (hT : P.underlying T = some (.slice E)) (hE : P.underlying E = some (.int .u8)) (cE : P.cellsOf E = 1)
    (hv : Value.okWide P W r b0 T v) (h : DataW.Trod enc P W base (fun _ => true) true T v d p) :
    ∃ A n c l, v = .slice A n c ∧ l.length = n ∧ n ≤ c ∧ c ≤ maxLen ∧ Rd W A l ∧ IsB l := by
  obtain ⟨A, n, c, rfl⟩ := okWide_slice hT hv
  obtain ⟨fuel, hf⟩ := h
  rcases open_ints hT hE cE hf with ⟨hcs, _⟩ | ⟨x, l, c', zs, hcs, _, hl, hm, hz, _, hcell, hwz⟩
  · simp [Value.cells] at hcs
    obtain ⟨rfl, rfl, rfl⟩ := hcs
    exact ⟨none, 0, 0, [], rfl, rfl, Nat.le_refl _, by unfold maxLen; omega, .inl rfl, by simp [IsB]⟩
  · simp [Value.cells] at hcs
    obtain ⟨rfl, rfl, rfl⟩ := hcs
    have hz' : zs.length = c := by simpa using hz
    refine ⟨_, _, _, zs.take n, rfl, by simp; omega, hl, hm, rd_of_cells (by omega) hcell, fun y hy => wf_byte (hwz y (List.mem_of_mem_take hy))⟩

theorem open_rows {T E Q : TypeId} {r : Reach} {b0 : Nat} {v : Value} {d : DataW H} {p : List MemPlace} (hT : P.underlying T = some (.slice E)) (hE : P.underlying E = some (.slice Q)) (hQ : P.underlying Q = some (.int .u8)) (cE : P.cellsOf E = 1) (cQ : P.cellsOf Q = 1)
    (hv : Value.okWide P W r b0 T v) (h : DataW.Trod enc P W base (fun _ => true) true T v d p) :
    ∃ A n c L, v = .slice A n c ∧ L.length = n ∧ n ≤ c ∧ c ≤ maxLen ∧ RdRows W A L ∧ ∀ l ∈ L, IsB l := by
  obtain ⟨A, n, c, rfl⟩ := okWide_slice hT hv
  obtain ⟨fuel, hf⟩ := h
  rcases Deep.open_int_rows hT hE hQ cE cQ hf with ⟨hcs, _⟩ | ⟨a, len, cap, A', L, C, Z, hcs, _, hl, hm, _, hrow⟩
  · simp [Value.cells] at hcs
    obtain ⟨rfl, rfl, rfl⟩ := hcs
    exact ⟨none, 0, 0, [], rfl, rfl, Nat.le_refl _, by unfold maxLen; omega, .inl rfl, by simp⟩
  · simp [Value.cells] at hcs
    obtain ⟨rfl, rfl, rfl⟩ := hcs
    refine ⟨_, _, _, (List.range n).map fun i => (Z i).take (L i), rfl, by simp, hl, hm, ?_, ?_⟩
    · by_cases h0 : n = 0
      · subst h0; exact .inl (by simp)
      · obtain ⟨b, off, spot⟩ := a
        have hc := (hrow 0 (by omega)).1
        have hs : spot = none := by simpa [Addr.add] using World.cell?_spot hc
        subst hs
        refine .inr ⟨b, off, rfl, fun i hi => ?_⟩
        have hi' : i < n := by simpa using hi
        obtain ⟨h1, h2, h3, h4, h5, h6, h7⟩ := hrow i (by omega)
        rw [Addr.add_lit] at h1
        have e : rw_ ((List.range n).map fun i => (Z i).take (L i)) i = (Z i).take (L i) := by simp [rw_, hi']
        rw [e]
        refine ⟨A' i, C i, by rw [h1]; simp; omega, by simp; omega, h3, ?_⟩
        cases hA : A' i with
        | none =>
          have := h6 hA
          exact .inl (by rw [show L i = 0 by omega]; simp)
        | some a' => exact rd_of_cells (by omega) (fun j hj => (h7 a' hA).2 j (by omega))
    · intro l hl'
      obtain ⟨i, hi, rfl⟩ := List.mem_map.1 hl'
      have hi' : i < n := by simpa using hi
      exact fun y hy => wf_byte ((hrow i (by omega)).2.2.2.2.1 y (List.mem_of_mem_take hy))
end
end
section
open Go.RowKit
/-- The k lowest bytes of a number, the highest one first. -/
def fxL (n : Int) : Nat → List Int
  | 0 => []
  | k + 1 => (n / 256 ^ k % 256) :: fxL n k
theorem fxL_length (n : Int) (k : Nat) : (fxL n k).length = k := by induction k with | zero => rfl | succ k ih => simp [fxL, ih]
theorem fxL_isB (n : Int) (k : Nat) : IsB (fxL n k) := by
  induction k with
  | zero => simp [fxL, IsB]
  | succ k ih =>
    intro x hx
    simp only [fxL, List.mem_cons] at hx
    rcases hx with rfl | hx
    · omega
    · exact ih x hx
/-- What Fixed gives. -/
def fixedL (n size : Int) : List Int := if size < 1 ∨ 8 < size then [] else fxL n size.toNat

/-- The number of bytes, the highest one first. -/
def beI (l : List Int) : Int := l.foldl (fun a x => a * 256 + x) 0
theorem beI_snoc (l : List Int) (x : Int) : beI (l ++ [x]) = beI l * 256 + x := by simp [beI, List.foldl_append]
theorem beI_from {l : List Int} (h : IsB l) (a : Int) (ha : 0 ≤ a) (A : Nat) (hA : a < 256 ^ A) : 0 ≤ l.foldl (fun a x => a * 256 + x) a ∧ l.foldl (fun a x => a * 256 + x) a < 256 ^ (A + l.length) := by
  induction l generalizing a A with
  | nil => exact ⟨ha, hA⟩
  | cons x l ih =>
    have hx := h x (List.mem_cons_self ..)
    have := ih (fun y hy => h y (List.mem_cons_of_mem _ hy)) (a * 256 + x) (by omega) (A + 1) (by rw [Int.pow_succ]; omega)
    rw [List.length_cons, ← Nat.add_assoc, Nat.add_right_comm]
    exact this
theorem beI_bd {l : List Int} (h : IsB l) : 0 ≤ beI l ∧ beI l < 256 ^ l.length := by
  have := beI_from h 0 (Int.le_refl _) 0 (by decide)
  simpa [beI] using this
theorem pow256_le {j k : Nat} (h : j ≤ k) : (256 : Int) ^ j ≤ 256 ^ k := by
  have h2 : ((256 ^ j : Nat) : Int) ≤ ((256 ^ k : Nat) : Int) := Int.ofNat_le.2 (Nat.pow_le_pow_right (by decide) h)
  simpa only [Int.natCast_pow, Int.cast_ofNat_Int] using h2
theorem beI_lt {l : List Int} (h : IsB l) (k : Nat) (hk : l.length ≤ k) : 0 ≤ beI l ∧ beI l < 256 ^ k := by
  have := beI_bd h
  have h2 := pow256_le hk
  omega

end
section
open Go.RowKit
set_option maxRecDepth 100000
theorem below_drewN {B : Nat} {a w : World} (h : Below B a w) (n : Nat) : Below B a (w.drewN n) := ⟨h.os, h.tape, h.output, h.size, h.block⟩
theorem fixed_nil (n size : Int) (h : size < 1 ∨ 8 < size) : fixedL n size = [] := by rw [fixedL, if_pos h]
theorem fixed_nat (n : Int) (k : Nat) (h1 : 1 ≤ k) (h8 : k ≤ 8) : fixedL n k = fxL n k := by rw [fixedL, if_neg (by omega), Int.toNat_natCast]
theorem zeros_set (k j : Nat) (hj : j < k) (s : List Int) (x : Int) : (List.replicate (k - j) 0 ++ s).set (k - 1 - j) x = List.replicate (k - (j + 1)) 0 ++ x :: s := by
  have e : k - j = (k - 1 - j) + 1 := by omega
  rw [e, List.replicate_succ', List.append_assoc, show k - (j + 1) = k - 1 - j by omega]
  rw [List.set_append_right _ _ (by simp)]
  simp

theorem pow_256 (j : Nat) : (2 : Int) ^ (8 * j) = 256 ^ j := by rw [Int.pow_mul]; rfl

def FixRel (w : World) (n : Int) (k : Nat) (i : Value) (wr : World) : Prop :=
  ∃ j : Nat, j ≤ k ∧ i = .int .i64 j ∧ OwnB wr w.heap.size (some ⟨w.heap.size, 0, none⟩) k k (List.replicate (k - j) 0 ++ fxL n j) ∧ Below w.heap.size w wr

set_option maxHeartbeats 2000000 in
theorem fixed_any (w : World) (n size : Int) (_hn0 : 0 ≤ n) (_hn1 : n ≤ 18446744073709551615) :
    Calls Try.prog 50 #[.int .u64 n, .int .i64 size] w (BytesBack w (fixedL n size)) := by
  by_cases hs : size < 1 ∨ 8 < size
  · rw [fixed_nil n size hs]
    rcases hs with hs | hs
    · go_enter Try.func50, Try.ntmps50
      go_wp2_with fail
      go_ret
      exact ⟨none, 0, 0, rfl, OwnB.nil _ _, Below.refl _ _⟩
    · have hs' : ¬ size < 1 := by omega
      go_enter Try.func50, Try.ntmps50
      go_wp2_with fail
      go_ret
      exact ⟨none, 0, 0, rfl, OwnB.nil _ _, Below.refl _ _⟩
  · obtain ⟨k, rfl⟩ := Int.eq_ofNat_of_zero_le (show 0 ≤ size by omega)
    have h1 : 1 ≤ k := by omega
    have h8 : k ≤ 8 := by omega
    clear hs
    rw [fixed_nat n k h1 h8]
    have hmk := fun W => run_mk k k (Nat.le_refl _) (by omega) W
    go_enter Try.func50, Try.ntmps50
    go_wp2_with fail
    go_loopw [16] (fun i wr => FixRel w n k i wr) (fun i _ => k - (intOf i).toNat)
    case atStart => exact ⟨0, Nat.zero_le _, rfl, by simpa [fxL] using OwnB.zeros w w.heap.size k (Nat.le_refl _) (by unfold maxLen; omega), (Below.refl _ _).alloc (Nat.le_refl _) _⟩
    case round =>
      clear hmk
      obtain ⟨j, hj, rfl, hown, hb⟩ := hrel
      by_cases hlt : j < k
      · have hc := hown.cellAt (k - 1 - j) (by omega)
        have hf := hown.frozenAt (k - 1 - j)
        have HO := Lib.hid hown; clear hown
        have ht : ((k : Int) - 1 - (j : Int)).toNat = k - 1 - j := by omega
        go_wp2_with fail
        go_roundw
        case rel =>
          refine ⟨j + 1, by omega, by go_num, ?_, hb.setCell (Nat.le_refl _) _⟩
          rw [fxL, ← zeros_set k j hlt, ← pow_256]
          exact HO.out.stored _ _
        case measure => simp [intOf]; omega
      · obtain rfl : j = k := by omega
        have HO := Lib.hid hown; clear hown
        go_wp2_with fail
        go_ret
        exact ⟨_, _, _, rfl, by simpa using HO.out, hb⟩

end
section
open Go.RowKit
set_option maxRecDepth 100000
def zstr (m : Nat) : ByteArray := ⟨Array.replicate m 0⟩
theorem zstr_size (m : Nat) : (zstr m).size = m := by simp [zstr, ByteArray.size]

theorem zcells (m : Nat) : Builtin.zeroCells (Value.int .u8 0).cells m = ((zstr m).extract 0 m).data.map fun b => Value.int .u8 b.toNat := by
  apply Array.ext
  · simp [Builtin.zeroCells, Value.cells, zstr]
  · intro j h1 h2
    simp [Builtin.zeroCells, Value.cells, zstr, Nat.mod_one]

theorem run_append_make_eq (w : World) (A : Option Addr) (n c m : Nat) (ty : TypeId) (h0 : m ≠ 0) (hnm : n + m ≤ 70368744177664) :
    (Builtin.append_ #[24, 3] ty #[.slice A n c, .int .i64 (m : Int)]).run Try.prog w = (Builtin.append_ #[24, 9] ty #[.slice A n c, .string (zstr m)]).run Try.prog w := by
  obtain ⟨i, hi, hz, hsz, hby⟩ := info_parts info_u8
  have hw : IntKind.i64.wrap (m : Int) = m := IntWalk.i64_in _ (by omega)
  have h1 : ¬ ((m : Int) < 0) := by omega
  have h2 : ¬ (281474976710656 < (m : Int)) := by omega
  have ha : ∀ w, (asInt (.int .i64 (m : Int))).run Try.prog w = .ok (m : Int) w := fun _ => rfl
  have hf : ∀ w, (Builtin.firstCells 1 m (.string (zstr m))).run Try.prog w = .ok (Builtin.zeroCells (Value.int .u8 0).cells m) w := fun w => by rw [zcells]; rfl
  have h3 : ¬ (9223372036854775807 < (n : Int) + (m : Int)) := by omega
  by_cases hr : n + m ≤ c
  · simp [Builtin.append_, run_underlying Try.underlying24, run_underlying Try.underlying3, run_underlying Try.underlying9, sizeOf, typeInfo, hi, hz, hsz, hby, hw, h1, h2, Builtin.lenOf, zstr_size, ha, hf, h0, hr, zeroValue]
  · have h4 : ¬ (281474976710656 < Builtin.nextslicecap (n + m) c) := by
      have := growslice_fits (bytes := 1) (show c < n + m by omega) (by omega)
      omega
    simp [Builtin.append_, run_underlying Try.underlying24, run_underlying Try.underlying3, run_underlying Try.underlying9, sizeOf, typeInfo, hi, hz, hsz, hby, hw, h1, h2, Builtin.lenOf, zstr_size, ha, hf, h3, h0, hr, h4, zeroValue]

theorem strCells_zstr (m : Nat) : Lib.strCells (zstr m) = vb (List.replicate m 0) := by
  simp [Lib.strCells, zstr, vb]

/-- 'append(out, make([]byte, m)...)': out is the call's own. -/
theorem run_append_make (w : World) (base : Nat) (A : Option Addr) (n c : Nat) (l : List Int) (hown : OwnB w base A n c l) (m : Nat) (h0 : m ≠ 0) (hnm : n + m ≤ 70368744177664) (hbase : base ≤ w.heap.size) (ty : TypeId) :
    ∃ A' c' w', (Builtin.append_ #[24, 3] ty #[.slice A n c, .int .i64 (m : Int)]).run Try.prog w = .ok (.slice A' (n + m) c') w' ∧ OwnB w' base A' (n + m) c' (l ++ List.replicate m 0) ∧ Below base w w' := by
  obtain ⟨i, hi, hz, hsz, hby⟩ := info_parts info_u8
  obtain ⟨v', w', hrun, h2, h3, _⟩ := Lib.run_append_own_string (P := Try.prog) w base 24 9 ty 5 i Try.underlying24 Try.underlying9 hi hz hsz hby (.slice A n c) n (vb l) hown (zstr m) (by rw [zstr_size]; unfold maxLen; omega) (by rw [zstr_size]; omega) hbase
  rw [zstr_size] at h2
  have hform : ∃ A' c', v' = .slice A' (n + m) c' := by
    rcases h2.2 with ⟨hv, hn⟩ | ⟨g, cap, cur, hv, _⟩
    · exact ⟨none, 0, by rw [hv, hn]⟩
    · exact ⟨_, _, hv⟩
  obtain ⟨A', c', rfl⟩ := hform
  rw [strCells_zstr, ← vb_append] at h2
  exact ⟨A', c', w', by rw [run_append_make_eq w A n c m ty h0 hnm]; exact hrun, h2, (Below.refl _ _).grown h3 hbase (fun k hk => (World.ownsRow.lt hown k hk).1)⟩

theorem wp_append_make {ops : Array Oper} {rest : List Oper} {o : Oper} {a : Act} {w : World} {Q : Exit → Act → World → Prop} (hgd : o.guard = none) (s x : Operand)
    (ho : o.op = .call { callee := .builtin .append, args := #[s, x], argTypes := #[24, 3] })
    (base : Nat) (A : Option Addr) (n c : Nat) (l : List Int) (hs : a.eval s = .slice A n c) (hown : OwnB w base A n c l) (m : Nat) (hx : a.eval x = .int .i64 (m : Int)) (h0 : m ≠ 0) (hnm : n + m ≤ 70368744177664) (hbase : base ≤ w.heap.size)
    (h : ∀ A' c' w', OwnB w' base A' (n + m) c' (l ++ List.replicate m 0) → Below base w w' → wpList Try.prog ops Q rest (a.put o.dst (.slice A' (n + m) c')) w') : wpList Try.prog ops Q (o :: rest) a w := by
  obtain ⟨A', c', w', hrun, h2, hb⟩ := run_append_make w base A n c l hown m h0 hnm hbase o.type
  refine wpList_plain hgd fun K hK => ?_
  unfold Oper.wp execOp
  simp only [ho, resolve, invoke, builtin, Sem.run_bind, Sem.run_pure, Result.andThen_ok, List.map_toArray, List.map_cons, List.map_nil, hs, hx, hrun]
  exact hK _ _ (h A' c' w' h2 hb)

/-- append onto a slice without room, whatever it is: a new row. -/
theorem run_append_full (w : World) (A : Option Addr) (n c : Nat) (l : List Int) (hl : l.length = n) (hn : 1 ≤ n) (hnc : n ≤ c) (hA : Rd w A l) (B : Option Addr) (m d : Nat) (k : List Int) (hk : k.length = m) (hr : Rd w B k) (hcm : c < n + m) (hbytes : n + m ≤ 140737488355328) (ty : TypeId) :
    ∃ A' c' w', (Builtin.append_ #[24, 24] ty #[.slice A n c, .slice B m d]).run Try.prog w = .ok (.slice A' (n + m) c') w' ∧ OwnB w' w.heap.size A' (n + m) c' (l ++ k) ∧ Below w.heap.size w w' := by
  obtain ⟨i, hi, hz, hsz, hby⟩ := info_parts info_u8
  obtain ⟨b, off, rfl, _, hc⟩ := hA.at (by omega)
  obtain ⟨b2, off2, rfl, _, hc2⟩ := hr.at (by omega)
  have hcells : ∀ (x : List Int) (b off : Nat), (∀ i, i < x.length → w.cell? ⟨b, off + i, none⟩ = some (.int .u8 (bt x i))) → ∀ j u, (vb x)[j]? = some u → w.cell? ((⟨b, off, none⟩ : Addr).add j) = some u := by
    intro x b off hx j u hu
    obtain ⟨hj, rfl⟩ := vb_get hu
    rw [Addr.add_lit]
    exact hx j hj
  obtain ⟨v', w', hrun, h2, h3⟩ := run_append_arg_grows (P := Try.prog) w 24 ty 5 i (.int .u8 0) 1 1 Try.underlying24 hi hz hsz hby rfl (by decide) ⟨b, off, none⟩ n c (vb l) (by rw [vb_length, hl, Nat.mul_one]) (hcells l b off hc) ⟨b2, off2, none⟩ m d (vb k) (by rw [vb_length, hk, Nat.mul_one]) (hcells k b2 off2 hc2) hcm (by unfold maxLen; omega) (by omega)
  have hform : ∃ A' c', v' = .slice A' (n + m) c' := by
    rcases h2.2 with ⟨hv, hn⟩ | ⟨g, cap, cur, hv, _⟩
    · exact ⟨none, 0, by rw [hv, hn]⟩
    · exact ⟨_, _, hv⟩
  obtain ⟨A', c', rfl⟩ := hform
  rw [← vb_append] at h2
  exact ⟨A', c', w', hrun, h2, (Below.refl _ _).grown h3 (Nat.le_refl _) (fun k hk => by cases hk)⟩

theorem wp_append_full {ops : Array Oper} {rest : List Oper} {o : Oper} {a : Act} {w : World} {Q : Exit → Act → World → Prop} (hgd : o.guard = none) (s x : Operand)
    (ho : o.op = .call { callee := .builtin .append, args := #[s, x], argTypes := #[24, 24] })
    (A : Option Addr) (n c : Nat) (l : List Int) (hs : a.eval s = .slice A n c) (hl : l.length = n) (hn : 1 ≤ n) (hnc : n ≤ c) (hA : Rd w A l) (B : Option Addr) (m d : Nat) (k : List Int) (hx : a.eval x = .slice B m d) (hk : k.length = m) (hr : Rd w B k) (hcm : c < n + m) (hbytes : n + m ≤ 140737488355328)
    (h : ∀ A' c' w', OwnB w' w.heap.size A' (n + m) c' (l ++ k) → Below w.heap.size w w' → wpList Try.prog ops Q rest (a.put o.dst (.slice A' (n + m) c')) w') : wpList Try.prog ops Q (o :: rest) a w := by
  obtain ⟨A', c', w', hrun, h2, hb⟩ := run_append_full w A n c l hl hn hnc hA B m d k hk hr hcm hbytes o.type
  refine wpList_plain hgd fun K hK => ?_
  unfold Oper.wp execOp
  simp only [ho, resolve, invoke, builtin, Sem.run_bind, Sem.run_pure, Result.andThen_ok, List.map_toArray, List.map_cons, List.map_nil, hs, hx, hrun]
  exact hK _ _ (h A' c' w' h2 hb)

/-- What can be appended to: the call's own row, or a full one, whosever. -/
def Ext (w : World) (base : Nat) (A : Option Addr) (n c : Nat) (l : List Int) : Prop := OwnB w base A n c l ∨ (n = c ∧ 1 ≤ n ∧ n ≤ maxLen ∧ l.length = n ∧ Rd w A l)
theorem Ext.len {w : World} {base : Nat} {A : Option Addr} {n c : Nat} {l : List Int} (h : Ext w base A n c l) : l.length = n := by
  rcases h with h | h
  · exact h.len
  · exact h.2.2.2.1
theorem Ext.keep {w w' : World} {base : Nat} {A : Option Addr} {n c : Nat} {l : List Int} (h : Ext w base A n c l) (hb : Below w.heap.size w w') : Ext w' base A n c l := by
  rcases h with h | ⟨h1, h2, h3, h4, h5⟩
  · exact .inl (h.keep hb)
  · exact .inr ⟨h1, h2, h3, h4, h5.keep hb⟩
theorem wp_append_ext {ops : Array Oper} {rest : List Oper} {o : Oper} {a : Act} {w : World} {Q : Exit → Act → World → Prop} (hgd : o.guard = none) (s x : Operand)
    (ho : o.op = .call { callee := .builtin .append, args := #[s, x], argTypes := #[24, 24] })
    (base : Nat) (A : Option Addr) (n c : Nat) (l : List Int) (hs : a.eval s = .slice A n c) (hext : Ext w base A n c l) (B : Option Addr) (m d : Nat) (k : List Int) (hx : a.eval x = .slice B m d) (hk : k.length = m) (hm : 1 ≤ m) (hr : Rd w B k) (hbytes : n + m ≤ 140737488355328) (hbase : base ≤ w.heap.size)
    (h : ∀ A' c' w', OwnB w' base A' (n + m) c' (l ++ k) → Below base w w' → wpList Try.prog ops Q rest (a.put o.dst (.slice A' (n + m) c')) w') : wpList Try.prog ops Q (o :: rest) a w := by
  rcases hext with hown | ⟨rfl, h1, _, h4, h5⟩
  · exact wp_append hgd s x ho base A n c l hs hown B m d k hx hk hr hbytes hbase (fun A' c' w' q1 _ q3 => h A' c' w' q1 q3)
  · exact wp_append_full hgd s x ho A n n l hs h4 h1 (Nat.le_refl _) h5 B m d k hx hk hr (by omega) hbytes (fun A' c' w' q1 q3 => h A' c' w' (q1.mono hbase) (q3.mono hbase))
end
section
open Go.RowKit
set_option maxRecDepth 100000
/-- What Read gives: the number, and the error. -/
def readL (l : List Int) (at_ size : Int) : Int × Int :=
  if size < 1 ∨ 8 < size ∨ at_ < 0 then (0, 1) else if (l.length : Int) < at_ ∨ (l.length : Int) - at_ < size then (0, 6) else (beI ((l.drop at_.toNat).take size.toNat), 0)
theorem readL_arg {l : List Int} {at_ size : Int} (h : size < 1 ∨ 8 < size ∨ at_ < 0) : readL l at_ size = (0, 1) := by rw [readL, if_pos h]
theorem readL_short {l : List Int} {at_ size : Int} (h : ¬ (size < 1 ∨ 8 < size ∨ at_ < 0)) (h2 : (l.length : Int) < at_ ∨ (l.length : Int) - at_ < size) : readL l at_ size = (0, 6) := by rw [readL, if_neg h, if_pos h2]
theorem readL_ok {l : List Int} {p k : Nat} (h1 : 1 ≤ k) (h8 : k ≤ 8) (h : p + k ≤ l.length) : readL l p k = (beI ((l.drop p).take k), 0) := by
  rw [readL, if_neg (by omega), if_neg (by omega), Int.toNat_natCast, Int.toNat_natCast]
theorem bt_drop (l : List Int) (p i : Nat) : bt (l.drop p) i = bt l (p + i) := by simp [bt]
theorem be_step {l : List Int} {p j : Nat} (h : p + j < l.length) : beI ((l.drop p).take (j + 1)) = beI ((l.drop p).take j) * 256 + bt l (p + j) := by
  rw [take_succ_bt (by simp; omega), beI_snoc, bt_drop]
theorem be_bd {l : List Int} (hB : IsB l) (p j : Nat) (hj : j < 8) : 0 ≤ beI ((l.drop p).take j) ∧ beI ((l.drop p).take j) < 72057594037927936 := by
  have h := beI_lt (l := (l.drop p).take j) (fun x hx => hB x (List.mem_of_mem_drop (List.mem_of_mem_take hx))) 7 (by simp; omega)
  exact h
theorem or256 {a x : Int} (h0 : 0 ≤ a) (h1 : a < 72057594037927936) (x0 : 0 ≤ x) (x1 : x ≤ 255) : bits .or .u64 (a * 256) x = a * 256 + x := by
  obtain ⟨a, rfl⟩ := Int.eq_ofNat_of_zero_le h0
  obtain ⟨x, rfl⟩ := Int.eq_ofNat_of_zero_le x0
  have h := u64_or_nat (a * 256) x (by omega) (by omega)
  rw [nat_join 8 (a * 256) x (by omega) (by omega)] at h
  simpa using h

set_option maxRecDepth 100000 in
set_option maxHeartbeats 4000000 in
theorem read_any (w : World) (A : Option Addr) (n c : Nat) (l : List Int) (at_ size : Int) (hn : l.length = n) (hnc : n ≤ c) (hcm : c ≤ maxLen) (hA : Rd w A l) (hB : IsB l) (ha : -9223372036854775808 ≤ at_ ∧ at_ ≤ 9223372036854775807) :
    Calls Try.prog 44 #[.slice A n c, .int .i64 at_, .int .i64 size] w fun e w' => e = .returned (.tuple #[.int .u64 (readL l at_ size).1, .int .i64 (readL l at_ size).2]) ∧ w = w' := by
  unfold maxLen at hcm
  have HN := Lib.hid hn; clear hn
  have HA := Lib.hid hA; clear hA
  have HB := Lib.hid hB; clear hB
  by_cases h1 : size < 1 ∨ 8 < size ∨ at_ < 0
  · rw [readL_arg h1]
    rcases (show size < 1 ∨ (1 ≤ size ∧ 8 < size) ∨ (1 ≤ size ∧ size ≤ 8 ∧ at_ < 0) by omega) with h | ⟨h, h'⟩ | ⟨h, h', h''⟩
    all_goals
      clear h1
      go_enter Try.func44, Try.ntmps44
      go_wp2_with fail
      go_ret2
      exact ⟨rfl, rfl⟩
  by_cases h2 : (l.length : Int) < at_ ∨ (l.length : Int) - at_ < size
  · rw [readL_short h1 h2]
    rw [HN.out] at h2
    have g1 : 1 ≤ size := by omega
    have g2 : size ≤ 8 := by omega
    have g3 : 0 ≤ at_ := by omega
    clear h1
    rcases (show (n : Int) < at_ ∨ (at_ ≤ (n : Int) ∧ (n : Int) - at_ < size) by omega) with h | ⟨h, h'⟩
    all_goals
      clear h2
      go_enter Try.func44, Try.ntmps44
      go_wp2_with fail
      go_ret2
      exact ⟨rfl, rfl⟩
  · obtain ⟨k, rfl⟩ := Int.eq_ofNat_of_zero_le (show 0 ≤ size by omega)
    obtain ⟨p, rfl⟩ := Int.eq_ofNat_of_zero_le (show 0 ≤ at_ by omega)
    have k1 : 1 ≤ k := by omega
    have k8 : k ≤ 8 := by omega
    have hpk : p + k ≤ n := by have := HN.out; omega
    clear h1 h2
    rw [readL_ok k1 k8 (by rw [HN.out]; exact hpk)]
    obtain ⟨b, off, hA', _, hcell⟩ := Rd.at HA.out (by rw [HN.out]; omega)
    subst hA'
    have HC := Lib.hid hcell; clear hcell
    have hcp : ¬ c = p := by omega
    go_enter Try.func44, Try.ntmps44
    go_wp2_with fail
    go_loop [8, 42] (fun z i => ∃ j : Nat, j ≤ k ∧ i = .int .i64 j ∧ z = .int .u64 (beI ((l.drop p).take j))) (fun _ i => k - (intOf i).toNat)
    case atStart => exact ⟨0, Nat.zero_le _, rfl, by simp [beI]⟩
    case round =>
      obtain ⟨j, hj, rfl, rfl⟩ := hrel
      by_cases hlt : j < k
      · obtain ⟨b0, b1⟩ := be_bd HB.out p j (by omega)
        have hstep := be_step (l := l) (p := p) (j := j) (by rw [HN.out]; omega)
        have hx := HC.out (p + j) (by rw [HN.out]; omega)
        obtain ⟨x0, x1⟩ := IsB.bt HB.out (p + j)
        have hor := or256 b0 b1 x0 x1
        obtain ⟨a, ha'⟩ : ∃ x, x = beI ((l.drop p).take j) := ⟨_, rfl⟩
        rw [← ha'] at b0 b1 hstep hor ⊢
        have HS := Lib.hid hstep; clear hstep ha'
        rw [← Nat.add_assoc] at hx
        go_wp2_with fail
        go_round
        case rel => exact ⟨j + 1, by omega, by go_num, by rw [HS.out]⟩
        case measure => simp [intOf]; omega
      · obtain rfl : j = k := by omega
        go_wp2_with fail
        go_ret2
        exact ⟨rfl, rfl⟩

end
section
open Go.RowKit
set_option maxRecDepth 100000
/-- Where 'b[lo:..]' lies. -/
def cutA (A : Option Addr) (c lo : Nat) : Option Addr := if c = lo then A else A.map (·.add lo)
theorem rd_off' {w : World} {g off : Nat} {l : List Int} (h : Rd w (some ⟨g, off, none⟩) l) (k : Nat) : Rd w (some ⟨g, off + k, none⟩) (l.drop k) := by
  rcases h with rfl | ⟨b, o, hA, hc⟩
  · exact .inl (by simp)
  · injection hA with hA
    injection hA with e1 e2
    subst e1 e2
    refine .inr ⟨_, _, rfl, fun i hi => ?_⟩
    simp at hi
    have := hc (k + i) (by omega)
    rw [← Nat.add_assoc] at this
    rw [this]
    simp [bt]
theorem rd_take' {w : World} {A : Option Addr} {l : List Int} (h : Rd w A l) (n : Nat) : Rd w A (l.take n) := by
  rcases h with rfl | ⟨b, off, rfl, hc⟩
  · exact .inl (by simp)
  · refine .inr ⟨b, off, rfl, fun i hi => ?_⟩
    have hi' : i < n ∧ i < l.length := by simpa [Nat.lt_min] using hi
    rw [hc i hi'.2]
    simp [bt, hi'.1]
theorem cutA_rd {w : World} {A : Option Addr} {l : List Int} (hA : Rd w A l) (c lo m : Nat) (hc : l.length ≤ c) : Rd w (cutA A c lo) ((l.drop lo).take m) := by
  unfold cutA
  split
  · rename_i h
    rw [List.drop_of_length_le (by omega)]
    exact .inl (by simp)
  · rcases hA with rfl | ⟨b, off, rfl, hcell⟩
    · exact .inl (by simp)
    · have : Rd w (some ⟨b, off, none⟩) l := .inr ⟨b, off, rfl, hcell⟩
      have e : (Option.map (fun x : Addr => x.add lo) (some ⟨b, off, none⟩)) = some ⟨b, off + lo, none⟩ := by simp [Addr.add]
      rw [e]
      exact rd_take' (rd_off' this lo) m
theorem run_cut (A : Option Addr) (n c lo m : Nat) (h : lo + m ≤ c) (w : World) :
    (Instr.slice 24 (.slice A n c) (some (.int .i64 (lo : Int))) (some (.int .i64 ((lo : Int) + (m : Int)))) none).run Try.prog w = .ok (.slice (cutA A c lo) m (c - lo)) w := by
  rw [run_slice_lh w 24 A n c Try.underlying24 .i64 .i64 (lo : Int) ((lo : Int) + (m : Int)) (by omega) (by omega) (by omega)]
  have e : (sizeOf (Try.prog.elem 24)).run Try.prog w = .ok 1 w := by kernel_rfl
  have e2 : ((lo : Int) + (m : Int)).toNat = lo + m := by omega
  rw [e]
  simp only [Result.andThen, sliced, Int.toNat_natCast, e2, cutA, Nat.mul_one]
  rw [show lo + m - lo = m by omega]
end
end Go.Proofs.Ytlehpgokjppccaa
