/- Rows of one-cell things: read, owned, appended to. (The general part of the text SlX.) -/
import Derived.Test.YtbbdglikdogmhaaMem
import Derived.Test.YtbbdglikdogmhaaSli
import Derived.Deep.MidRow
import Derived.Laws.ResultCell
import Derived.Maps.AppendAt
namespace Go.Proofs.Ytbbdglikdogmhaa
open Go.RowKit
set_option maxRecDepth 100000
set_option linter.unusedVariables false
set_option linter.unusedSimpArgs false
set_option linter.unnecessarySimpa false

/-- A slice's address reads as these cells; its block is none of the bad ones. -/
def RdG (w : World) (bad : List Nat) (A : Option Addr) (vs : List Value) : Prop :=
  vs = [] ∨ ∃ b off, A = some ⟨b, off, none⟩ ∧ b ∉ bad ∧ ∀ i u, vs[i]? = some u → w.cell? ⟨b, off + i, none⟩ = some u
theorem RdG.nil (w : World) (bad : List Nat) (A : Option Addr) : RdG w bad A [] := .inl rfl
theorem RdG.keep {w w' : World} {bad : List Nat} {A : Option Addr} {vs : List Value} (h : RdG w bad A vs) (hb : Below w.heap.size w w') : RdG w' bad A vs := by
  rcases h with h | ⟨b, off, rfl, hn, h⟩
  · exact .inl h
  · exact .inr ⟨b, off, rfl, hn, fun i u hu => (hb.cell (p := ⟨b, off + i, none⟩) (World.block_lt_of_cell? w _ (h i u hu))).trans (h i u hu)⟩
theorem RdG.more {w : World} {bad : List Nat} {A : Option Addr} {vs : List Value} (h : RdG w bad A vs) {g : Nat} (hg : w.heap.size ≤ g) : RdG w (g :: bad) A vs := by
  rcases h with h | ⟨b, off, rfl, hn, h⟩
  · exact .inl h
  · by_cases h0 : vs = []
    · exact .inl h0
    · refine .inr ⟨b, off, rfl, ?_, h⟩
      have hpos : 0 < vs.length := List.length_pos_iff.2 h0
      have := World.block_lt_of_cell? w ⟨b, off + 0, none⟩ (h 0 _ (List.getElem?_eq_getElem hpos))
      intro hm
      rcases List.mem_cons.1 hm with e | e
      · subst e; simp only at this; omega
      · exact hn e
theorem RdG.less {w : World} {bad : List Nat} {A : Option Addr} {vs : List Value} (h : RdG w bad A vs) : RdG w [] A vs := by
  rcases h with h | ⟨b, off, rfl, hn, h⟩
  · exact .inl h
  · exact .inr ⟨b, off, rfl, by simp, h⟩
theorem RdG.take {w : World} {bad : List Nat} {A : Option Addr} {vs : List Value} (h : RdG w bad A vs) (k : Nat) : RdG w bad A (vs.take k) := by
  rcases h with rfl | ⟨b, off, rfl, hn, h⟩
  · exact .inl (by simp)
  · refine .inr ⟨b, off, rfl, hn, fun i u hu => h i u ?_⟩
    rw [List.getElem?_take] at hu
    split at hu
    · exact hu
    · cases hu
theorem RdG.cut {w : World} {bad : List Nat} {A : Option Addr} {vs : List Value} (h : RdG w bad A vs) (c lo : Nat) (hc : vs.length ≤ c) : RdG w bad (cutA A c lo) (vs.drop lo) := by
  unfold cutA
  split
  · rename_i e
    exact .inl (List.drop_of_length_le (by omega))
  · rcases h with rfl | ⟨b, off, rfl, hn, h⟩
    · exact .inl (by simp)
    · refine .inr ⟨b, off + lo, by simp [Addr.add], hn, fun i u hu => ?_⟩
      rw [List.getElem?_drop] at hu
      rw [Nat.add_assoc]
      exact h (lo + i) u hu
theorem RdG.rd {w : World} {bad : List Nat} {A : Option Addr} {l : List Int} (h : RdG w bad A (vb l)) : Rd w A l := by
  rcases h with h | ⟨b, off, rfl, hn, h⟩
  · exact .inl (by simpa [vb] using h)
  · exact .inr ⟨b, off, rfl, fun i hi => h i _ (by rw [bt_lt hi]; simp [vb, hi])⟩
theorem RdG.at {w : World} {bad : List Nat} {A : Option Addr} {vs : List Value} (h : RdG w bad A vs) (hl : 0 < vs.length) : ∃ b off, A = some ⟨b, off, none⟩ ∧ ∀ i u, vs[i]? = some u → w.cell? ⟨b, off + i, none⟩ = some u := by
  rcases h with rfl | ⟨b, off, rfl, hn, h⟩
  · simp at hl
  · exact ⟨b, off, rfl, h⟩
/-- A row of one-cell things that the call owns. -/
def OwnG (E : TypeId) (w : World) (base : Nat) (A : Option Addr) (n c : Nat) (vs : List Value) : Prop := vs.length = n ∧ w.ownsRow base E 1 (.slice A n c) n vs
theorem ownG_keep {w w' : World} {base s : Nat} {E : TypeId} {v : Value} {n : Nat} {cs : List Value} (h : w.ownsRow base E s v n cs) (hb : Below w.heap.size w w') : w'.ownsRow base E s v n cs := by
  refine ⟨h.1, ?_⟩
  rcases h.2 with hv | ⟨g, cap, cur, hv, hbg, hg, rest⟩
  · exact .inl hv
  · exact .inr ⟨g, cap, cur, hv, hbg, (hb.block g (Array.getElem?_eq_some_iff.1 hg).1).trans hg, rest⟩
theorem OwnG.keep {E : TypeId} {w w' : World} {base : Nat} {A : Option Addr} {n c : Nat} {vs : List Value} (h : OwnG E w base A n c vs) (hb : Below w.heap.size w w') : OwnG E w' base A n c vs := ⟨h.1, ownG_keep h.2 hb⟩
theorem OwnG.mono {E : TypeId} {w : World} {base base' : Nat} {A : Option Addr} {n c : Nat} {vs : List Value} (h : OwnG E w base A n c vs) (hb : base' ≤ base) : OwnG E w base' A n c vs := by
  refine ⟨h.1, h.2.1, ?_⟩
  rcases h.2.2 with hv | ⟨g, cap, cur, hv, hbg, rest⟩
  · exact .inl hv
  · exact .inr ⟨g, cap, cur, hv, by omega, rest⟩
theorem OwnG.alloc {E : TypeId} {w : World} {base : Nat} {A : Option Addr} {n c : Nat} {vs : List Value} (h : OwnG E w base A n c vs) (o : Obj) : OwnG E (w.alloc o) base A n c vs := ⟨h.1, World.ownsRow.alloc h.2 o⟩
theorem OwnG.nil (E : TypeId) (w : World) (base : Nat) : OwnG E w base none 0 0 [] := ⟨rfl, World.ownsRow_nil w base _ _⟩
theorem OwnG.lit (E : TypeId) (w : World) (base : Nat) (hb : base ≤ w.heap.size) : OwnG E (w.alloc (.cells #[] E)) base (some ⟨w.heap.size, 0, none⟩) 0 0 [] := by
  refine ⟨rfl, by simp, .inr ⟨w.heap.size, 0, #[], rfl, hb, heap_alloc_new w _, Nat.le_refl _, by unfold maxLen; omega, by simp, by simp⟩⟩
theorem OwnG.cap {E : TypeId} {w : World} {base : Nat} {A : Option Addr} {n c : Nat} {vs : List Value} (h : OwnG E w base A n c vs) : n ≤ c ∧ c ≤ maxLen := by
  rcases h.2.2 with ⟨hv, hn⟩ | ⟨g, cap, cur, hv, _, _, h1, h2, _⟩
  · injection hv with e1 e2 e3
    subst e3
    exact ⟨by omega, by unfold maxLen; omega⟩
  · injection hv with e1 e2 e3
    subst e3
    exact ⟨h1, h2⟩
theorem OwnG.rd {E : TypeId} {w : World} {base : Nat} {A : Option Addr} {n c : Nat} {vs : List Value} (h : OwnG E w base A n c vs) {bad : List Nat} (hb : ∀ g ∈ bad, g < base) : RdG w bad A vs := by
  obtain ⟨h1, hown⟩ := h
  rcases hown.2 with ⟨hv, hn⟩ | ⟨g, cap, cur, hv, hbg, _⟩
  · subst hn
    exact .inl (List.eq_nil_of_length_eq_zero h1)
  · injection hv with e1 e2 e3
    subst e1
    refine .inr ⟨g, 0, rfl, fun hm => by have := hb g hm; omega, fun i u hu => ?_⟩
    have q := World.ownsRow.cells hown (g := g) rfl i u hu
    simpa [Addr.add_lit] using q
theorem OwnB.rdG {w : World} {base : Nat} {A : Option Addr} {n c : Nat} {l : List Int} (h : OwnB w base A n c l) {bad : List Nat} (hb : ∀ g ∈ bad, g < base) : RdG w bad A (vb l) := OwnG.rd (E := 5) ⟨by rw [vb_length]; exact h.len, h⟩ hb

/-- An append writes the row it appends to, and no other block of old; where the row lies then. -/
def Kept (w : World) (A : Option Addr) (w' : World) (A' : Option Addr) : Prop :=
  (∀ k, k < w.heap.size → (∀ a, A = some a → a.block ≠ k) → w'.heap[k]? = w.heap[k]?) ∧ (∀ a', A' = some a' → (∃ a, A = some a ∧ a.block = a'.block) ∨ a'.block = w.heap.size)
theorem run_append_g (w : World) (T E : TypeId) (ty : TypeId) (z : Value) (k : Nat) (hT : Try.prog.underlying T = some (.slice E)) (hE : (Try.prog.info? E).map (fun i => (i.zero, i.size, i.bytes)) = some (some z, 1, k)) (hz : z.cells.size = 1) (hk : k ≤ 32)
    (base : Nat) (A : Option Addr) (n c : Nat) (vs : List Value) (hown : OwnG E w base A n c vs) (B : Option Addr) (m d : Nat) (us : List Value) (hu : us.length = m) (hr : RdG w [] B us) (h1 : ∀ u ∈ us, u.oneCell' = true) (hn : n + m ≤ 1000000000) (hbase : base ≤ w.heap.size) :
    ∃ A' c' w', (Builtin.append_ #[T, T] ty #[.slice A n c, .slice B m d]).run Try.prog w = .ok (.slice A' (n + m) c') w' ∧ OwnG E w' base A' (n + m) c' (vs ++ us) ∧ Below base w w' ∧ Kept w A w' A' := by
  obtain ⟨i, hi, hzz, hsz, hby⟩ := info_parts hE
  rcases B with _ | b
  · have hm : us = [] := by
      rcases hr with h | ⟨_, _, h, _⟩
      · exact h
      · cases h
    subst hm
    obtain rfl : m = 0 := by simpa using hu.symm
    refine ⟨A, c, w, ?_, by simpa using hown, Below.refl _ _, fun _ _ _ => rfl, fun a' h => .inl ⟨a', h, rfl⟩⟩
    rcases hown.2.2 with ⟨hv, hn⟩ | ⟨g, cap, cur, hv, _, _, hnc, _⟩
    · injection hv with e1 e2 e3
      subst e1; subst e2; subst e3
      simp [Builtin.append_, run_underlying hT, sizeOf, typeInfo, hi, Builtin.lenOf, Builtin.firstCells]
    · injection hv with e1 e2 e3
      subst e1; subst e3
      simp [Builtin.append_, run_underlying hT, sizeOf, typeInfo, hi, Builtin.lenOf, Builtin.firstCells, hnc, storeCells]
  · have hcells : ∀ j u, us[j]? = some u → w.cell? (b.add j) = some u := by
      intro j u hu'
      rcases hr with rfl | ⟨g, off, hB, _, hc⟩
      · simp at hu'
      · injection hB with hB
        subst hB
        simpa [Addr.add_lit] using hc j u hu'
    have hkb : (n + m) * k ≤ 140737488355328 := by
      have : (n + m) * k ≤ (n + m) * 32 := Nat.mul_le_mul_left _ hk
      omega
    obtain ⟨v', w', hrun, h2, h3, h4, h5⟩ := run_append_own_at (P := Try.prog) w base T ty E i z 1 k hT hi hzz hsz hby hz (by decide) (.slice A n c) n vs hown.2 b m d us
      (by rw [hu, Nat.mul_one]) hcells h1 (by unfold maxLen; omega) hkb hbase
    have hform : ∃ A' c', v' = .slice A' (n + m) c' := by
      rcases h2.2 with ⟨hv, hn⟩ | ⟨g, cap, cur, hv, _⟩
      · exact ⟨none, 0, by rw [hv, hn]⟩
      · exact ⟨_, _, hv⟩
    obtain ⟨A', c', rfl⟩ := hform
    refine ⟨A', c', w', hrun, ⟨by rw [List.length_append, hown.1, hu], h2⟩, (Below.refl _ _).grown h3 hbase (fun k hk => (World.ownsRow.lt hown.2 k hk).1), fun k hk hne => h3.block k hk (fun e => ?_), fun a' ha => ?_⟩
    · cases A with
      | none => simp [Value.ownBlock] at e
      | some a => exact hne a rfl (by simpa [Value.ownBlock] using e.symm)
    · subst ha
      rcases h5 with h | h
      · cases A with
        | none => simp [Value.ownBlock] at h
        | some a => exact .inl ⟨a, rfl, by simpa [Value.ownBlock] using h.symm⟩
      · exact .inr (by simpa [Value.ownBlock] using h)
theorem wp_append_g {ops : Array Oper} {rest : List Oper} {o : Oper} {a : Act} {w : World} {Q : Exit → Act → World → Prop} (T E : TypeId) (z : Value) (k : Nat) (hT : Try.prog.underlying T = some (.slice E)) (hE : (Try.prog.info? E).map (fun i => (i.zero, i.size, i.bytes)) = some (some z, 1, k)) (hz : z.cells.size = 1) (hk : k ≤ 32) (hgd : o.guard = none) (s x : Operand)
    (ho : o.op = .call { callee := .builtin .append, args := #[s, x], argTypes := #[T, T] })
    (base : Nat) (A : Option Addr) (n c : Nat) (vs : List Value) (hs : a.eval s = .slice A n c) (hown : OwnG E w base A n c vs) (B : Option Addr) (m d : Nat) (us : List Value) (hx : a.eval x = .slice B m d) (hu : us.length = m) (hr : RdG w [] B us) (h1 : ∀ u ∈ us, u.oneCell' = true) (hn : n + m ≤ 1000000000) (hbase : base ≤ w.heap.size)
    (h : ∀ A' c' w', OwnG E w' base A' (n + m) c' (vs ++ us) → Below base w w' → Kept w A w' A' → wpList Try.prog ops Q rest (a.put o.dst (.slice A' (n + m) c')) w') : wpList Try.prog ops Q (o :: rest) a w := by
  obtain ⟨A', c', w', hrun, h2, h3, h4⟩ := run_append_g w T E o.type z k hT hE hz hk base A n c vs hown B m d us hu hr h1 hn hbase
  refine wpList_plain hgd fun K hK => ?_
  unfold Oper.wp execOp
  simp only [ho, resolve, invoke, builtin, Sem.run_bind, Sem.run_pure, Result.andThen_ok, List.map_toArray, List.map_cons, List.map_nil, hs, hx, hrun]
  exact hK _ _ (h A' c' w' h2 h3 h4)
theorem step_append_g {ops : Array Oper} {o : Oper} {a : Act} {w : World} {K : Act → World → Prop} {Q : Exit → Act → World → Prop} {Z : Prop} (T E : TypeId) (z : Value) (k : Nat) (hT : Try.prog.underlying T = some (.slice E)) (hE : (Try.prog.info? E).map (fun i => (i.zero, i.size, i.bytes)) = some (some z, 1, k)) (hz : z.cells.size = 1) (hk : k ≤ 32) (hgd : o.guard = none) (s x : Operand)
    (ho : o.op = .call { callee := .builtin .append, args := #[s, x], argTypes := #[T, T] })
    (base : Nat) (A : Option Addr) (n c : Nat) (vs : List Value) (hs : a.eval s = .slice A n c) (hown : OwnG E w base A n c vs) (B : Option Addr) (m d : Nat) (us : List Value) (hx : a.eval x = .slice B m d) (hu : us.length = m) (hr : RdG w [] B us) (h1 : ∀ u ∈ us, u.oneCell' = true) (hn : n + m ≤ 1000000000) (hbase : base ≤ w.heap.size)
    (h : ∀ A' c' w', OwnG E w' base A' (n + m) c' (vs ++ us) → Below base w w' → Kept w A w' A' → K (a.put o.dst (.slice A' (n + m) c')) w') :
    if Region.wanted o (yielded ops a.tmps) = true then Oper.wp Try.prog o a w K Q else Z := by
  have hw : Region.wanted o (yielded ops a.tmps) = true := by simp [Region.wanted, hgd]
  rw [if_pos hw]
  obtain ⟨A', c', w', hrun, h2, h3, h4⟩ := run_append_g w T E o.type z k hT hE hz hk base A n c vs hown B m d us hu hr h1 hn hbase
  unfold Oper.wp execOp
  simp only [ho, resolve, invoke, builtin, Sem.run_bind, Sem.run_pure, Result.andThen_ok, List.map_toArray, List.map_cons, List.map_nil, hs, hx, hrun]
  exact h A' c' w' h2 h3 h4
end Go.Proofs.Ytbbdglikdogmhaa
