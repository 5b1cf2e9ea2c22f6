/- Laws on byte slices for the walks of this seat: a slice of bytes that the call owns, append onto it, string of bytes. -/
import Derived.Test.YtbbdglikdogmhaaProg
import Derived.Test.YtbbdglikdogmhaaBase
import Derived.Maps.AppendAt
import Derived.Deep.DeepCutAuto
namespace Go.Proofs.Ytbbdglikdogmhaa
open Go.RowKit
set_option maxRecDepth 100000

theorem info_u8 : (Try.prog.info? 5).map (fun i => (i.zero, i.size, i.bytes)) = some (some (.int .u8 0), 1, 1) := by kernel_rfl

/-- The bytes as values. -/
def vb (l : List Int) : List Value := l.map (Value.int .u8)
theorem vb_length (l : List Int) : (vb l).length = l.length := by simp [vb]
theorem vb_append (l m : List Int) : vb (l ++ m) = vb l ++ vb m := by simp [vb]
theorem vb_get {l : List Int} {j : Nat} {u : Value} (h : (vb l)[j]? = some u) : j < l.length ∧ u = .int .u8 (bt l j) := by
  have hj : j < l.length := by simpa [vb] using (List.getElem?_eq_some_iff.1 h).1
  refine ⟨hj, ?_⟩
  simp [vb, hj] at h
  rw [bt_lt hj, h]
theorem vb_one (l : List Int) : ∀ u ∈ vb l, u.oneCell' = true := ints_oneCell .u8 l

/-- A slice of bytes among the blocks from 'base' on, that the call owns. -/
def OwnB (w : World) (base : Nat) (A : Option Addr) (n c : Nat) (l : List Int) : Prop := w.ownsRow base 5 1 (.slice A n c) n (vb l)

theorem OwnB.len {w : World} {base : Nat} {A : Option Addr} {n c : Nat} {l : List Int} (h : OwnB w base A n c l) : l.length = n := by
  have := h.1
  rw [vb_length] at this
  omega
theorem OwnB.form {w : World} {base : Nat} {A : Option Addr} {n c : Nat} {l : List Int} (h : OwnB w base A n c l) :
    (A = none ∧ n = 0 ∧ c = 0) ∨ ∃ g cur, A = some ⟨g, 0, none⟩ ∧ base ≤ g ∧ w.heap[g]? = some (.cells cur 5 (0, 0)) ∧ n ≤ c ∧ c ≤ maxLen ∧ cur.size = c ∧ cur.toList.take n = vb l := by
  rcases h.2 with ⟨hv, hn⟩ | ⟨g, cap, cur, hv, hb, hg, h1, h2, h3, h4⟩
  · injection hv with h1 h2 h3
    exact .inl ⟨h1, hn, h3⟩
  · injection hv with e1 e2 e3
    subst e3
    exact .inr ⟨g, cur, e1, hb, hg, h1, h2, by omega, by simpa using h4⟩
theorem OwnB.cap {w : World} {base : Nat} {A : Option Addr} {n c : Nat} {l : List Int} (h : OwnB w base A n c l) : n ≤ c ∧ c ≤ maxLen := by
  rcases h.form with ⟨_, rfl, rfl⟩ | ⟨_, _, _, _, _, h1, h2, _⟩
  · exact ⟨Nat.le_refl _, by unfold maxLen; omega⟩
  · exact ⟨h1, h2⟩
theorem OwnB.rd {w : World} {base : Nat} {A : Option Addr} {n c : Nat} {l : List Int} (h : OwnB w base A n c l) : Rd w A l := by
  rcases h.form with ⟨rfl, rfl, rfl⟩ | ⟨g, cur, rfl, _, _, _, _, _, _⟩
  · have := h.len
    exact .inl (List.eq_nil_of_length_eq_zero this)
  · refine .inr ⟨g, 0, rfl, fun i hi => ?_⟩
    have hc := World.ownsRow.cells h (g := g) rfl i (.int .u8 (bt l i)) (by rw [bt_lt hi]; simp [vb, hi])
    simpa [Addr.add_lit] using hc
theorem OwnB.blk {w : World} {base : Nat} {n c g : Nat} {l : List Int} (h : OwnB w base (some ⟨g, 0, none⟩) n c l) : base ≤ g ∧ g < w.heap.size := World.ownsRow.lt h g rfl
theorem OwnB.nil (w : World) (base : Nat) : OwnB w base none 0 0 [] := World.ownsRow_nil w base _ _
theorem OwnB.keep {w w' : World} {base : Nat} {A : Option Addr} {n c : Nat} {l : List Int} (h : OwnB w base A n c l) (hb : Below w.heap.size w w') : OwnB w' base A n c l := by
  refine ⟨h.1, ?_⟩
  rcases h.2 with hv | ⟨g, cap, cur, hv, hbg, hg, rest⟩
  · exact .inl hv
  · exact .inr ⟨g, cap, cur, hv, hbg, (hb.block g (Array.getElem?_eq_some_iff.1 hg).1).trans hg, rest⟩
theorem OwnB.mono {w : World} {base base' : Nat} {A : Option Addr} {n c : Nat} {l : List Int} (h : OwnB w base A n c l) (hb : base' ≤ base) : OwnB w base' A n c l := by
  refine ⟨h.1, ?_⟩
  rcases h.2 with hv | ⟨g, cap, cur, hv, hbg, rest⟩
  · exact .inl hv
  · exact .inr ⟨g, cap, cur, hv, by omega, rest⟩
theorem OwnB.alloc {w : World} {base : Nat} {A : Option Addr} {n c : Nat} {l : List Int} (h : OwnB w base A n c l) (o : Obj) : OwnB (w.alloc o) base A n c l := World.ownsRow.alloc h o
theorem OwnB.drew {w : World} {base : Nat} {A : Option Addr} {n c : Nat} {l : List Int} (h : OwnB w base A n c l) : OwnB w.drew base A n c l := h

/-- '[]byte{}' and '[]byte{x, ..}': a new block of these bytes. -/
theorem OwnB.lit (w : World) (cs : Array Value) (l : List Int) (base n : Nat) (hcs : cs.toList = vb l) (hn : n = l.length) (hb : base ≤ w.heap.size) (hm : n ≤ maxLen) :
    OwnB (w.alloc (.cells cs 5)) base (some ⟨w.heap.size, 0, none⟩) n n l := by
  subst hn
  have hsz : cs.size = l.length := by rw [← Array.length_toList, hcs, vb_length]
  refine ⟨by rw [vb_length, Nat.mul_one], .inr ⟨w.heap.size, l.length, cs, rfl, hb, heap_alloc_new w _, Nat.le_refl _, hm, by omega, ?_⟩⟩
  rw [hcs, Nat.mul_one, ← vb_length, List.take_length]

theorem run_append_bytes (w : World) (base : Nat) (A : Option Addr) (n c : Nat) (l : List Int) (hown : OwnB w base A n c l) (B : Option Addr) (m d : Nat) (k : List Int) (hk : k.length = m) (hr : Rd w B k)
    (hbytes : n + m ≤ 140737488355328) (hbase : base ≤ w.heap.size) (ty : TypeId) :
    ∃ A' c' w', (Builtin.append_ #[25, 25] ty #[.slice A n c, .slice B m d]).run Try.prog w = .ok (.slice A' (n + m) c') w' ∧ OwnB w' base A' (n + m) c' (l ++ k) ∧ w.grownBy w' (Value.ownBlock (.slice A n c)) ∧
      (Value.ownBlock (.slice A' (n + m) c') = Value.ownBlock (.slice A n c) ∨ Value.ownBlock (.slice A' (n + m) c') = some w.heap.size) := by
  obtain ⟨i, hi, hz, hsz, hby⟩ := info_parts info_u8
  rcases B with _ | b
  · have hm : k = [] := by
      rcases hr with h | ⟨_, _, h, _⟩
      · exact h
      · cases h
    subst hm
    obtain rfl : m = 0 := by simpa using hk.symm
    refine ⟨A, c, w, ?_, ?_, ⟨rfl, rfl, rfl, Nat.le_refl _, fun _ _ _ => rfl⟩, .inl rfl⟩
    · rcases hown.2 with ⟨hv, hn⟩ | ⟨g, cap, cur, hv, _, _, hnc, _⟩
      · injection hv with e1 e2 e3
        subst e1; subst e2; subst e3
        simp [Builtin.append_, run_underlying Try.underlying25, sizeOf, typeInfo, hi, Builtin.lenOf, Builtin.firstCells]
      · injection hv with e1 e2 e3
        subst e1; subst e3
        simp [Builtin.append_, run_underlying Try.underlying25, sizeOf, typeInfo, hi, Builtin.lenOf, Builtin.firstCells, hnc, storeCells]
    · simpa using hown
  · have hcells : ∀ j u, (vb k)[j]? = some u → w.cell? (b.add j) = some u := by
      intro j u hu
      obtain ⟨hj, rfl⟩ := vb_get hu
      rcases hr with rfl | ⟨g, off, hB, hc⟩
      · simp at hj
      · injection hB with hB
        subst hB
        simpa [Addr.add_lit] using hc j hj
    obtain ⟨v', w', hrun, h2, h3, h4, h5⟩ := run_append_own_at (P := Try.prog) w base 25 ty 5 i (.int .u8 0) 1 1 Try.underlying25 hi hz hsz hby rfl (by decide) (.slice A n c) n (vb l) hown b m d (vb k)
      (by rw [vb_length, hk, Nat.mul_one]) hcells (vb_one k) (by unfold maxLen; omega) (by omega) hbase
    have hform : ∃ A' c', v' = .slice A' (n + m) c' := by
      rcases h2.2 with ⟨hv, hn⟩ | ⟨g, cap, cur, hv, _⟩
      · exact ⟨none, 0, by rw [hv, hn]⟩
      · exact ⟨_, _, hv⟩
    obtain ⟨A', c', rfl⟩ := hform
    rw [← vb_append] at h2
    exact ⟨A', c', w', hrun, h2, h3, h5⟩

/-- 'append(out, xs...)' on bytes: out is the call's own; xs whatever. -/
theorem wp_append {ops : Array Oper} {rest : List Oper} {o : Oper} {a : Act} {w : World} {Q : Exit → Act → World → Prop} (hgd : o.guard = none) (s x : Operand)
    (ho : o.op = .call { callee := .builtin .append, args := #[s, x], argTypes := #[25, 25] })
    (base : Nat) (A : Option Addr) (n c : Nat) (l : List Int) (hs : a.eval s = .slice A n c) (hown : OwnB w base A n c l) (B : Option Addr) (m d : Nat) (k : List Int) (hx : a.eval x = .slice B m d) (hk : k.length = m) (hr : Rd w B k)
    (hbytes : n + m ≤ 140737488355328) (hbase : base ≤ w.heap.size)
    (h : ∀ A' c' w', OwnB w' base A' (n + m) c' (l ++ k) → w.grownBy w' (Value.ownBlock (.slice A n c)) → Below base w w' → wpList Try.prog ops Q rest (a.put o.dst (.slice A' (n + m) c')) w') : wpList Try.prog ops Q (o :: rest) a w := by
  obtain ⟨A', c', w', hrun, h2, h3, _⟩ := run_append_bytes w base A n c l hown B m d k hk hr hbytes hbase o.type
  have hb : Below base w w' := (Below.refl _ _).grown h3 hbase (fun k hk => (World.ownsRow.lt hown k hk).1)
  refine wpList_plain hgd fun K hK => ?_
  unfold Oper.wp execOp
  simp only [ho, resolve, invoke, builtin, Sem.run_bind, Sem.run_pure, Result.andThen_ok, List.map_toArray, List.map_cons, List.map_nil, hs, hx, hrun]
  exact hK _ _ (h A' c' w' h2 h3 hb)

/-- The same inside a region that draws its order. -/
theorem step_append {ops : Array Oper} {o : Oper} {a : Act} {w : World} {K : Act → World → Prop} {Q : Exit → Act → World → Prop} {E : Prop} (hgd : o.guard = none) (s x : Operand)
    (ho : o.op = .call { callee := .builtin .append, args := #[s, x], argTypes := #[25, 25] })
    (base : Nat) (A : Option Addr) (n c : Nat) (l : List Int) (hs : a.eval s = .slice A n c) (hown : OwnB w base A n c l) (B : Option Addr) (m d : Nat) (k : List Int) (hx : a.eval x = .slice B m d) (hk : k.length = m) (hr : Rd w B k)
    (hbytes : n + m ≤ 140737488355328) (hbase : base ≤ w.heap.size)
    (h : ∀ A' c' w', OwnB w' base A' (n + m) c' (l ++ k) → w.grownBy w' (Value.ownBlock (.slice A n c)) → Below base w w' → K (a.put o.dst (.slice A' (n + m) c')) w') :
    if Region.wanted o (yielded ops a.tmps) = true then Oper.wp Try.prog o a w K Q else E := by
  obtain ⟨A', c', w', hrun, h2, h3, _⟩ := run_append_bytes w base A n c l hown B m d k hk hr hbytes hbase o.type
  have hb : Below base w w' := (Below.refl _ _).grown h3 hbase (fun k hk => (World.ownsRow.lt hown k hk).1)
  have hw : Region.wanted o (yielded ops a.tmps) = true := by simp [Region.wanted, hgd]
  rw [if_pos hw]
  unfold Oper.wp execOp
  simp only [ho, resolve, invoke, builtin, Sem.run_bind, Sem.run_pure, Result.andThen_ok, List.map_toArray, List.map_cons, List.map_nil, hs, hx, hrun]
  exact h A' c' w' h2 h3 hb

theorem OwnB.cellAt {w : World} {base g n c : Nat} {l : List Int} (h : OwnB w base (some ⟨g, 0, none⟩) n c l) (j : Nat) (hj : j < n) : w.cell? ⟨g, j, none⟩ = some (.int .u8 (bt l j)) := by
  have hl := h.len
  have := World.ownsRow.cellAt h j (by omega)
  rw [this, bt_lt (by omega)]
  simp [vb, show j < l.length by omega]
theorem OwnB.frozenAt {w : World} {base g n c : Nat} {l : List Int} (h : OwnB w base (some ⟨g, 0, none⟩) n c l) (j : Nat) : w.frozen? ⟨g, j, none⟩ = false := World.ownsRow.frozenAt h j
theorem OwnB.stored {w : World} {base g n c : Nat} {l : List Int} (h : OwnB w base (some ⟨g, 0, none⟩) n c l) (j : Nat) (x : Int) : OwnB (w.setCell ⟨g, j, none⟩ (.int .u8 x)) base (some ⟨g, 0, none⟩) n c (l.set j x) := by
  have := World.ownsRow.stored h j (.int .u8 x)
  unfold OwnB
  rw [show vb (l.set j x) = (vb l).set j (.int .u8 x) from by simp [vb, List.map_set]]
  exact this.1
/-- A slice of at least one byte that the call owns lies at a row's head. -/
theorem OwnB.at {w : World} {base : Nat} {A : Option Addr} {n c : Nat} {l : List Int} (h : OwnB w base A n c l) (hn : 0 < n) : ∃ g, A = some ⟨g, 0, none⟩ ∧ base ≤ g ∧ g < w.heap.size := by
  rcases h.form with ⟨_, h0, _⟩ | ⟨g, cur, hA, hb, _⟩
  · omega
  · subst hA
    exact ⟨g, rfl, h.blk.1, h.blk.2⟩

/-- A row of zeros. -/
def zrs (n : Nat) : Array Value := madeCells (Value.cells (.int .u8 0)) n
/-- 'make([]byte, a, n)'. -/
theorem run_mk (a n : Nat) (ha : a ≤ n) (hn : n ≤ 281474976710656) (w : World) :
    (Instr.makeSlice 25 (.int .i64 (a : Int)) (.int .i64 (n : Int))).run Try.prog w = .ok (.slice (some ⟨w.heap.size, 0, none⟩) a n) (w.alloc (.cells (zrs n) 5)) := by
  obtain ⟨i, hi, hz, hsz, hby⟩ := info_parts info_u8
  have h := run_make (P := Try.prog) w 25 5 i (.int .u8 0) Try.underlying25 hi hz .i64 .i64 a n (by omega) (by omega) (by rw [hby]; omega) (by omega)
  simpa [hsz, zrs] using h
theorem zrs_size (n : Nat) : (zrs n).size = n := by simp [zrs, madeCells, Value.cells]
theorem zrs_get {n i : Nat} (h : i < n) : (zrs n)[i]? = some (.int .u8 0) := by
  simp [zrs, madeCells, Value.cells, h, Nat.mod_one]
theorem OwnB.made (w : World) (base n : Nat) (hb : base ≤ w.heap.size) (hm : n ≤ maxLen) : OwnB (w.alloc (.cells (zrs n) 5)) base (some ⟨w.heap.size, 0, none⟩) 0 n [] :=
  World.ownsRow_made w (zrs n) n hb hm (by rw [zrs_size, Nat.mul_one])

theorem OwnB.zeros (w : World) (base n : Nat) (hb : base ≤ w.heap.size) (hm : n ≤ maxLen) : OwnB (w.alloc (.cells (zrs n) 5)) base (some ⟨w.heap.size, 0, none⟩) n n (List.replicate n 0) := by
  refine ⟨by rw [vb_length]; simp, .inr ⟨w.heap.size, n, zrs n, rfl, hb, heap_alloc_new w _, Nat.le_refl _, hm, by rw [zrs_size, Nat.mul_one], ?_⟩⟩
  rw [Nat.mul_one]
  apply List.ext_getElem?
  intro i
  by_cases h : i < n
  · rw [List.getElem?_take_of_lt h, Array.getElem?_toList, zrs_get h]
    simp [vb, h]
  · rw [List.getElem?_eq_none (by simp; omega), List.getElem?_eq_none (by rw [vb_length]; simp; omega)]
/-- What comes back: bytes of the call's own. -/
def BytesBack (w : World) (l : List Int) (e : Ending) (w' : World) : Prop := ∃ A n c, e = .returned (.slice A n c) ∧ OwnB w' w.heap.size A n c l ∧ Below w.heap.size w w'

/-- 'string(b)'. -/
theorem run_str (w : World) (A : Option Addr) (n c : Nat) (l : List Int) (hn : l.length = n) (h : Rd w A l) :
    (convert 25 9 (.slice A n c)).run Try.prog w = .ok (.string (strOfNums l)) w := by
  rcases h with rfl | ⟨b, off, rfl, hc⟩
  · subst hn
    rw [run_convert_bytes_string w 25 9 5 A _ c Try.underlying25 Try.underlying5 Try.underlying9]
    cases A with
    | none => simp [Conv.bytesToString]; rfl
    | some a =>
      show (Conv.bytesToString (.slice (some a) 0 c)).run Try.prog w = _
      rw [run_bytesToString w a 0 c [] (by simpa using run_loadCells_list (P := Try.prog) w a [] (fun j v hj => by simp at hj))]
      rfl
  · exact run_convert_bytes_arg w 25 5 Try.underlying25 Try.underlying5 b off n c l hn (fun i hi => by rw [hc i (by omega)]; rfl) 9 Try.underlying9

theorem str_eq {l m : List Int} (hl : IsB l) (hm : IsB m) : (strOfNums l).toList = (strOfNums m).toList ↔ l = m := by
  rw [ByteArray.toList_eq, ByteArray.toList_eq, strOfNums_data, strOfNums_data]
  constructor
  · intro h
    have h2 := congrArg (List.map fun b : UInt8 => (b.toNat : Int)) h
    simp only [List.map_map] at h2
    have hid : ∀ k : List Int, IsB k → k.map ((fun b : UInt8 => (b.toNat : Int)) ∘ fun n => UInt8.ofNat n.toNat) = k := by
      intro k hk
      conv => rhs; rw [← List.map_id k]
      apply List.map_congr_left
      intro x hx
      have := hk x hx
      simp [UInt8.toNat_ofNat']
      omega
    rwa [hid l hl, hid m hm] at h2
  · rintro rfl; rfl
theorem str_beq {l m : List Int} (hl : IsB l) (hm : IsB m) : ((strOfNums l).toList == (strOfNums m).toList) = beqL l m := by
  rw [Bool.eq_iff_iff, beqL_iff]
  simp [str_eq hl hm]

end Go.Proofs.Ytbbdglikdogmhaa
