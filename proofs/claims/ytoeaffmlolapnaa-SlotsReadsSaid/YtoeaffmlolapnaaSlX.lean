/- The document's page in memory. -/
import Derived.Test.YtoeaffmlolapnaaSlM
import Derived.Deep.MidRow
import Derived.Laws.ResultCell
namespace Go.Proofs.Ytoeaffmlolapnaa
open Go.RowKit
set_option maxRecDepth 100000
set_option linter.unusedVariables false
set_option linter.unusedSimpArgs false
set_option linter.unnecessarySimpa false

/-- A slice's address reads as these cells; its block is none of the bad ones. -/
def RdG (w : World) (bad : List Nat) (A : Option Addr) (vs : List Value) : Prop :=
  vs = [] ∨ ∃ b off, A = some ⟨b, off, none⟩ ∧ b ∉ bad ∧ ∀ i u, vs[i]? = some u → w.cell? ⟨b, off + i, none⟩ = some u
theorem RdG.nil (w : World) (bad : List Nat) (A : Option Addr) : RdG w bad A [] := .inl rfl
theorem RdG.keep {w w' : World} {bad : List Nat} {A : Option Addr} {vs : List Value} (h : RdG w bad A vs) (hb : Below w.heap.size w w') : RdG w' bad A vs := by
  rcases h with h | ⟨b, off, rfl, hn, h⟩
  · exact .inl h
  · exact .inr ⟨b, off, rfl, hn, fun i u hu => (hb.cell (p := ⟨b, off + i, none⟩) (World.block_lt_of_cell? w _ (h i u hu))).trans (h i u hu)⟩
theorem RdG.mut {w w' : World} {bad : List Nat} {A : Option Addr} {vs : List Value} {gb : Nat} (h : RdG w bad A vs) (hm : Mut w gb w') (hg : gb ∈ bad) : RdG w' bad A vs := by
  rcases h with h | ⟨b, off, rfl, hn, h⟩
  · exact .inl h
  · refine .inr ⟨b, off, rfl, hn, fun i u hu => ?_⟩
    have h1 := h i u hu
    have hne : b ≠ gb := fun e => hn (e ▸ hg)
    have h2 := hm.block b (World.block_lt_of_cell? w ⟨b, off + i, none⟩ h1) hne
    rw [← h1]
    simp [World.cell?, h2]
theorem RdG.more {w : World} {bad : List Nat} {A : Option Addr} {vs : List Value} (h : RdG w bad A vs) {g : Nat} (hg : w.heap.size ≤ g) : RdG w (g :: bad) A vs := by
  rcases h with h | ⟨b, off, rfl, hn, h⟩
  · exact .inl h
  · by_cases h0 : vs = []
    · exact .inl h0
    · refine .inr ⟨b, off, rfl, ?_, h⟩
      have hpos : 0 < vs.length := List.length_pos_iff.2 h0
      have := World.block_lt_of_cell? w ⟨b, off + 0, none⟩ (h 0 _ (List.getElem?_eq_getElem hpos))
      intro hm
      rcases List.mem_cons.1 hm with e | e
      · subst e; simp only at this; omega
      · exact hn e
theorem RdG.less {w : World} {bad : List Nat} {A : Option Addr} {vs : List Value} (h : RdG w bad A vs) : RdG w [] A vs := by
  rcases h with h | ⟨b, off, rfl, hn, h⟩
  · exact .inl h
  · exact .inr ⟨b, off, rfl, by simp, h⟩
theorem RdG.take {w : World} {bad : List Nat} {A : Option Addr} {vs : List Value} (h : RdG w bad A vs) (k : Nat) : RdG w bad A (vs.take k) := by
  rcases h with rfl | ⟨b, off, rfl, hn, h⟩
  · exact .inl (by simp)
  · refine .inr ⟨b, off, rfl, hn, fun i u hu => h i u ?_⟩
    rw [List.getElem?_take] at hu
    split at hu
    · exact hu
    · cases hu
theorem RdG.cut {w : World} {bad : List Nat} {A : Option Addr} {vs : List Value} (h : RdG w bad A vs) (c lo : Nat) (hc : vs.length ≤ c) : RdG w bad (cutA A c lo) (vs.drop lo) := by
  unfold cutA
  split
  · rename_i e
    exact .inl (List.drop_of_length_le (by omega))
  · rcases h with rfl | ⟨b, off, rfl, hn, h⟩
    · exact .inl (by simp)
    · refine .inr ⟨b, off + lo, by simp [Addr.add], hn, fun i u hu => ?_⟩
      rw [List.getElem?_drop] at hu
      rw [Nat.add_assoc]
      exact h (lo + i) u hu
theorem RdG.rd {w : World} {bad : List Nat} {A : Option Addr} {l : List Int} (h : RdG w bad A (vb l)) : Rd w A l := by
  rcases h with h | ⟨b, off, rfl, hn, h⟩
  · exact .inl (by simpa [vb] using h)
  · exact .inr ⟨b, off, rfl, fun i hi => h i _ (by rw [bt_lt hi]; simp [vb, hi])⟩
theorem RdG.at {w : World} {bad : List Nat} {A : Option Addr} {vs : List Value} (h : RdG w bad A vs) (hl : 0 < vs.length) : ∃ b off, A = some ⟨b, off, none⟩ ∧ ∀ i u, vs[i]? = some u → w.cell? ⟨b, off + i, none⟩ = some u := by
  rcases h with rfl | ⟨b, off, rfl, hn, h⟩
  · simp at hl
  · exact ⟨b, off, rfl, h⟩
/-- A row of one-cell things that the call owns. -/
def OwnG (E : TypeId) (w : World) (base : Nat) (A : Option Addr) (n c : Nat) (vs : List Value) : Prop := vs.length = n ∧ w.ownsRow base E 1 (.slice A n c) n vs
theorem ownG_keep {w w' : World} {base s : Nat} {E : TypeId} {v : Value} {n : Nat} {cs : List Value} (h : w.ownsRow base E s v n cs) (hb : Below w.heap.size w w') : w'.ownsRow base E s v n cs := by
  refine ⟨h.1, ?_⟩
  rcases h.2 with hv | ⟨g, cap, cur, hv, hbg, hg, rest⟩
  · exact .inl hv
  · exact .inr ⟨g, cap, cur, hv, hbg, (hb.block g (Array.getElem?_eq_some_iff.1 hg).1).trans hg, rest⟩
theorem OwnG.keep {E : TypeId} {w w' : World} {base : Nat} {A : Option Addr} {n c : Nat} {vs : List Value} (h : OwnG E w base A n c vs) (hb : Below w.heap.size w w') : OwnG E w' base A n c vs := ⟨h.1, ownG_keep h.2 hb⟩
theorem OwnG.mono {E : TypeId} {w : World} {base base' : Nat} {A : Option Addr} {n c : Nat} {vs : List Value} (h : OwnG E w base A n c vs) (hb : base' ≤ base) : OwnG E w base' A n c vs := by
  refine ⟨h.1, h.2.1, ?_⟩
  rcases h.2.2 with hv | ⟨g, cap, cur, hv, hbg, rest⟩
  · exact .inl hv
  · exact .inr ⟨g, cap, cur, hv, by omega, rest⟩
theorem OwnG.alloc {E : TypeId} {w : World} {base : Nat} {A : Option Addr} {n c : Nat} {vs : List Value} (h : OwnG E w base A n c vs) (o : Obj) : OwnG E (w.alloc o) base A n c vs := ⟨h.1, World.ownsRow.alloc h.2 o⟩
theorem OwnG.nil (E : TypeId) (w : World) (base : Nat) : OwnG E w base none 0 0 [] := ⟨rfl, World.ownsRow_nil w base _ _⟩
theorem OwnG.lit (E : TypeId) (w : World) (base : Nat) (hb : base ≤ w.heap.size) : OwnG E (w.alloc (.cells #[] E)) base (some ⟨w.heap.size, 0, none⟩) 0 0 [] := by
  refine ⟨rfl, by simp, .inr ⟨w.heap.size, 0, #[], rfl, hb, heap_alloc_new w _, Nat.le_refl _, by unfold maxLen; omega, by simp, by simp⟩⟩
theorem OwnG.cap {E : TypeId} {w : World} {base : Nat} {A : Option Addr} {n c : Nat} {vs : List Value} (h : OwnG E w base A n c vs) : n ≤ c ∧ c ≤ maxLen := by
  rcases h.2.2 with ⟨hv, hn⟩ | ⟨g, cap, cur, hv, _, _, h1, h2, _⟩
  · injection hv with e1 e2 e3
    subst e3
    exact ⟨by omega, by unfold maxLen; omega⟩
  · injection hv with e1 e2 e3
    subst e3
    exact ⟨h1, h2⟩
theorem OwnG.rd {E : TypeId} {w : World} {base : Nat} {A : Option Addr} {n c : Nat} {vs : List Value} (h : OwnG E w base A n c vs) {bad : List Nat} (hb : ∀ g ∈ bad, g < base) : RdG w bad A vs := by
  obtain ⟨h1, hown⟩ := h
  rcases hown.2 with ⟨hv, hn⟩ | ⟨g, cap, cur, hv, hbg, _⟩
  · subst hn
    exact .inl (List.eq_nil_of_length_eq_zero h1)
  · injection hv with e1 e2 e3
    subst e1
    refine .inr ⟨g, 0, rfl, fun hm => by have := hb g hm; omega, fun i u hu => ?_⟩
    have q := World.ownsRow.cells hown (g := g) rfl i u hu
    simpa [Addr.add_lit] using q
theorem OwnB.rdG {w : World} {base : Nat} {A : Option Addr} {n c : Nat} {l : List Int} (h : OwnB w base A n c l) {bad : List Nat} (hb : ∀ g ∈ bad, g < base) : RdG w bad A (vb l) := OwnG.rd (E := 5) ⟨by rw [vb_length]; exact h.len, h⟩ hb

/-- An append writes the row it appends to, and no other block of old; where the row lies then. -/
def Kept (w : World) (A : Option Addr) (w' : World) (A' : Option Addr) : Prop :=
  (∀ k, k < w.heap.size → (∀ a, A = some a → a.block ≠ k) → w'.heap[k]? = w.heap[k]?) ∧ (∀ a', A' = some a' → (∃ a, A = some a ∧ a.block = a'.block) ∨ a'.block = w.heap.size)
theorem run_append_g (w : World) (T E : TypeId) (ty : TypeId) (z : Value) (k : Nat) (hT : Try.prog.underlying T = some (.slice E)) (hE : (Try.prog.info? E).map (fun i => (i.zero, i.size, i.bytes)) = some (some z, 1, k)) (hz : z.cells.size = 1) (hk : k ≤ 32)
    (base : Nat) (A : Option Addr) (n c : Nat) (vs : List Value) (hown : OwnG E w base A n c vs) (B : Option Addr) (m d : Nat) (us : List Value) (hu : us.length = m) (hr : RdG w [] B us) (h1 : ∀ u ∈ us, u.oneCell' = true) (hn : n + m ≤ 1000000000) (hbase : base ≤ w.heap.size) :
    ∃ A' c' w', (Builtin.append_ #[T, T] ty #[.slice A n c, .slice B m d]).run Try.prog w = .ok (.slice A' (n + m) c') w' ∧ OwnG E w' base A' (n + m) c' (vs ++ us) ∧ Below base w w' ∧ Kept w A w' A' := by
  obtain ⟨i, hi, hzz, hsz, hby⟩ := info_parts hE
  rcases B with _ | b
  · have hm : us = [] := by
      rcases hr with h | ⟨_, _, h, _⟩
      · exact h
      · cases h
    subst hm
    obtain rfl : m = 0 := by simpa using hu.symm
    refine ⟨A, c, w, ?_, by simpa using hown, Below.refl _ _, fun _ _ _ => rfl, fun a' h => .inl ⟨a', h, rfl⟩⟩
    rcases hown.2.2 with ⟨hv, hn⟩ | ⟨g, cap, cur, hv, _, _, hnc, _⟩
    · injection hv with e1 e2 e3
      subst e1; subst e2; subst e3
      simp [Builtin.append_, run_underlying hT, sizeOf, typeInfo, hi, Builtin.lenOf, Builtin.firstCells]
    · injection hv with e1 e2 e3
      subst e1; subst e3
      simp [Builtin.append_, run_underlying hT, sizeOf, typeInfo, hi, Builtin.lenOf, Builtin.firstCells, hnc, storeCells]
  · have hcells : ∀ j u, us[j]? = some u → w.cell? (b.add j) = some u := by
      intro j u hu'
      rcases hr with rfl | ⟨g, off, hB, _, hc⟩
      · simp at hu'
      · injection hB with hB
        subst hB
        simpa [Addr.add_lit] using hc j u hu'
    have hkb : (n + m) * k ≤ 140737488355328 := by
      have : (n + m) * k ≤ (n + m) * 32 := Nat.mul_le_mul_left _ hk
      omega
    obtain ⟨v', w', hrun, h2, h3, h4, h5⟩ := run_append_own_at (P := Try.prog) w base T ty E i z 1 k hT hi hzz hsz hby hz (by decide) (.slice A n c) n vs hown.2 b m d us
      (by rw [hu, Nat.mul_one]) hcells h1 (by unfold maxLen; omega) hkb hbase
    have hform : ∃ A' c', v' = .slice A' (n + m) c' := by
      rcases h2.2 with ⟨hv, hn⟩ | ⟨g, cap, cur, hv, _⟩
      · exact ⟨none, 0, by rw [hv, hn]⟩
      · exact ⟨_, _, hv⟩
    obtain ⟨A', c', rfl⟩ := hform
    refine ⟨A', c', w', hrun, ⟨by rw [List.length_append, hown.1, hu], h2⟩, (Below.refl _ _).grown h3 hbase (fun k hk => (World.ownsRow.lt hown.2 k hk).1), fun k hk hne => h3.block k hk (fun e => ?_), fun a' ha => ?_⟩
    · cases A with
      | none => simp [Value.ownBlock] at e
      | some a => exact hne a rfl (by simpa [Value.ownBlock] using e.symm)
    · subst ha
      rcases h5 with h | h
      · cases A with
        | none => simp [Value.ownBlock] at h
        | some a => exact .inl ⟨a, rfl, by simpa [Value.ownBlock] using h.symm⟩
      · exact .inr (by simpa [Value.ownBlock] using h)
theorem wp_append_g {ops : Array Oper} {rest : List Oper} {o : Oper} {a : Act} {w : World} {Q : Exit → Act → World → Prop} (T E : TypeId) (z : Value) (k : Nat) (hT : Try.prog.underlying T = some (.slice E)) (hE : (Try.prog.info? E).map (fun i => (i.zero, i.size, i.bytes)) = some (some z, 1, k)) (hz : z.cells.size = 1) (hk : k ≤ 32) (hgd : o.guard = none) (s x : Operand)
    (ho : o.op = .call { callee := .builtin .append, args := #[s, x], argTypes := #[T, T] })
    (base : Nat) (A : Option Addr) (n c : Nat) (vs : List Value) (hs : a.eval s = .slice A n c) (hown : OwnG E w base A n c vs) (B : Option Addr) (m d : Nat) (us : List Value) (hx : a.eval x = .slice B m d) (hu : us.length = m) (hr : RdG w [] B us) (h1 : ∀ u ∈ us, u.oneCell' = true) (hn : n + m ≤ 1000000000) (hbase : base ≤ w.heap.size)
    (h : ∀ A' c' w', OwnG E w' base A' (n + m) c' (vs ++ us) → Below base w w' → Kept w A w' A' → wpList Try.prog ops Q rest (a.put o.dst (.slice A' (n + m) c')) w') : wpList Try.prog ops Q (o :: rest) a w := by
  obtain ⟨A', c', w', hrun, h2, h3, h4⟩ := run_append_g w T E o.type z k hT hE hz hk base A n c vs hown B m d us hu hr h1 hn hbase
  refine wpList_plain hgd fun K hK => ?_
  unfold Oper.wp execOp
  simp only [ho, resolve, invoke, builtin, Sem.run_bind, Sem.run_pure, Result.andThen_ok, List.map_toArray, List.map_cons, List.map_nil, hs, hx, hrun]
  exact hK _ _ (h A' c' w' h2 h3 h4)
theorem step_append_g {ops : Array Oper} {o : Oper} {a : Act} {w : World} {K : Act → World → Prop} {Q : Exit → Act → World → Prop} {Z : Prop} (T E : TypeId) (z : Value) (k : Nat) (hT : Try.prog.underlying T = some (.slice E)) (hE : (Try.prog.info? E).map (fun i => (i.zero, i.size, i.bytes)) = some (some z, 1, k)) (hz : z.cells.size = 1) (hk : k ≤ 32) (hgd : o.guard = none) (s x : Operand)
    (ho : o.op = .call { callee := .builtin .append, args := #[s, x], argTypes := #[T, T] })
    (base : Nat) (A : Option Addr) (n c : Nat) (vs : List Value) (hs : a.eval s = .slice A n c) (hown : OwnG E w base A n c vs) (B : Option Addr) (m d : Nat) (us : List Value) (hx : a.eval x = .slice B m d) (hu : us.length = m) (hr : RdG w [] B us) (h1 : ∀ u ∈ us, u.oneCell' = true) (hn : n + m ≤ 1000000000) (hbase : base ≤ w.heap.size)
    (h : ∀ A' c' w', OwnG E w' base A' (n + m) c' (vs ++ us) → Below base w w' → Kept w A w' A' → K (a.put o.dst (.slice A' (n + m) c')) w') :
    if Region.wanted o (yielded ops a.tmps) = true then Oper.wp Try.prog o a w K Q else Z := by
  have hw : Region.wanted o (yielded ops a.tmps) = true := by simp [Region.wanted, hgd]
  rw [if_pos hw]
  obtain ⟨A', c', w', hrun, h2, h3, h4⟩ := run_append_g w T E o.type z k hT hE hz hk base A n c vs hown B m d us hu hr h1 hn hbase
  unfold Oper.wp execOp
  simp only [ho, resolve, invoke, builtin, Sem.run_bind, Sem.run_pure, Result.andThen_ok, List.map_toArray, List.map_cons, List.map_nil, hs, hx, hrun]
  exact h A' c' w' h2 h3 h4
theorem info_sl : (Try.prog.info? 29).map (fun i => (i.zero, i.size, i.bytes)) = some (some (.slice none 0 0), 1, 24) := by kernel_rfl
theorem info_in : (Try.prog.info? 3).map (fun i => (i.zero, i.size, i.bytes)) = some (some (.int .i64 0), 1, 8) := by kernel_rfl

/-! ### the page -/
structure Sl where
  (A : Option Addr) (n c : Nat)
def rowC (S : List Sl) : List Value := S.map fun s => .slice s.A s.n s.c
def natC (P : List Nat) : List Value := P.map fun (p : Nat) => Value.int .i64 (p : Int)
theorem rowC_one (S : List Sl) : ∀ u ∈ rowC S, u.oneCell' = true := by
  intro u hu
  obtain ⟨s, _, rfl⟩ := List.mem_map.1 hu
  rfl
theorem natC_one (P : List Nat) : ∀ u ∈ natC P, u.oneCell' = true := by
  intro u hu
  obtain ⟨s, _, rfl⟩ := List.mem_map.1 hu
  rfl
def SlIs (w : World) (bad : List Nat) (s : Sl) (c : List Int) : Prop := s.n = c.length ∧ s.n ≤ s.c ∧ s.c ≤ maxLen ∧ RdG w bad s.A (vb c)
/-- Rows of bytes, one by one. -/
def Rows2 (w : World) (bad : List Nat) : List Sl → List (List Int) → Prop
  | [], [] => True
  | s :: S, c :: C => SlIs w bad s c ∧ Rows2 w bad S C
  | _, _ => False
theorem SlIs.map {w w' : World} {bad bad' : List Nat} {s : Sl} {c : List Int} (h : SlIs w bad s c) (f : ∀ A vs, RdG w bad A vs → RdG w' bad' A vs) : SlIs w' bad' s c := ⟨h.1, h.2.1, h.2.2.1, f _ _ h.2.2.2⟩
theorem Rows2.map {w w' : World} {bad bad' : List Nat} (f : ∀ A vs, RdG w bad A vs → RdG w' bad' A vs) : ∀ {S : List Sl} {C : List (List Int)}, Rows2 w bad S C → Rows2 w' bad' S C
  | [], [], _ => trivial
  | _ :: _, _ :: _, h => ⟨h.1.map f, Rows2.map f h.2⟩
  | [], _ :: _, h => h.elim
  | _ :: _, [], h => h.elim
theorem Rows2.len {w : World} {bad : List Nat} : ∀ {S : List Sl} {C : List (List Int)}, Rows2 w bad S C → S.length = C.length
  | [], [], _ => rfl
  | _ :: _, _ :: _, h => by simp [Rows2.len h.2]
  | [], _ :: _, h => h.elim
  | _ :: _, [], h => h.elim
theorem Rows2.app {w : World} {bad : List Nat} : ∀ {S : List Sl} {C : List (List Int)} {S' : List Sl} {C' : List (List Int)}, Rows2 w bad S C → Rows2 w bad S' C' → Rows2 w bad (S ++ S') (C ++ C')
  | [], [], _, _, _, h' => h'
  | _ :: _, _ :: _, _, _, h, h' => ⟨h.1, Rows2.app h.2 h'⟩
  | [], _ :: _, _, _, h, _ => h.elim
  | _ :: _, [], _, _, h, _ => h.elim
theorem Rows2.take {w : World} {bad : List Nat} : ∀ {S : List Sl} {C : List (List Int)} (k : Nat), Rows2 w bad S C → Rows2 w bad (S.take k) (C.take k)
  | [], [], k, _ => by simp [Rows2]
  | _ :: _, _ :: _, 0, _ => trivial
  | _ :: _, _ :: _, k + 1, h => ⟨h.1, Rows2.take k h.2⟩
  | [], _ :: _, _, h => h.elim
  | _ :: _, [], _, h => h.elim
theorem Rows2.drop {w : World} {bad : List Nat} : ∀ {S : List Sl} {C : List (List Int)} (k : Nat), Rows2 w bad S C → Rows2 w bad (S.drop k) (C.drop k)
  | [], [], k, _ => by simp [Rows2]
  | _ :: _, _ :: _, 0, h => h
  | _ :: _, _ :: _, k + 1, h => Rows2.drop k h.2
  | [], _ :: _, _, h => h.elim
  | _ :: _, [], _, h => h.elim
theorem Rows2.get {w : World} {bad : List Nat} : ∀ {S : List Sl} {C : List (List Int)} {j : Nat}, Rows2 w bad S C → j < C.length → ∃ s, S[j]? = some s ∧ SlIs w bad s (C.getD j [])
  | [], [], j, _, hj => by simp at hj
  | s :: _, c :: _, 0, h, _ => ⟨s, rfl, by simpa using h.1⟩
  | _ :: _, _ :: _, j + 1, h, hj => by
    obtain ⟨s, h1, h2⟩ := Rows2.get (j := j) h.2 (by simpa using hj)
    exact ⟨s, by simpa using h1, by simpa using h2⟩
  | [], _ :: _, _, h, _ => h.elim
  | _ :: _, [], _, h, _ => h.elim
structure RV where
  (FA : Option Addr) (fc : Nat) (CA : Option Addr) (cc : Nat) (PA : Option Addr) (pc : Nat) (S : List Sl)
/-- The document's page M, as it lies in memory. -/
structure RefV (w : World) (bad : List Nat) (M : Mdl) (r : RV) : Prop where
  front : RdG w bad r.FA (vb M.F)
  fcap : M.h ≤ r.fc ∧ r.fc ≤ maxLen
  cells : RdG w bad r.CA (rowC r.S)
  rows : Rows2 w bad r.S M.C
  ccap : M.k ≤ r.cc ∧ r.cc ≤ maxLen
  places : RdG w bad r.PA (natC M.P)
  pcap : M.P.length ≤ r.pc ∧ r.pc ≤ maxLen
def RV.val (r : RV) (M : Mdl) : Value := .agg #[.int .i64 (M.n : Int), .slice r.FA M.h r.fc, .slice r.CA M.k r.cc, .slice r.PA M.P.length r.pc]
theorem RefV.map {w w' : World} {bad bad' : List Nat} {M : Mdl} {r : RV} (h : RefV w bad M r) (f : ∀ A vs, RdG w bad A vs → RdG w' bad' A vs) : RefV w' bad' M r :=
  ⟨f _ _ h.front, h.fcap, f _ _ h.cells, h.rows.map f, h.ccap, f _ _ h.places, h.pcap⟩
theorem RefV.keep {w w' : World} {bad : List Nat} {M : Mdl} {r : RV} (h : RefV w bad M r) (hb : Below w.heap.size w w') : RefV w' bad M r := h.map fun _ _ q => q.keep hb
theorem RefV.mut {w w' : World} {bad : List Nat} {M : Mdl} {r : RV} {gb : Nat} (h : RefV w bad M r) (hm : Mut w gb w') (hg : gb ∈ bad) : RefV w' bad M r := h.map fun _ _ q => q.mut hm hg
theorem RefV.more {w : World} {bad : List Nat} {M : Mdl} {r : RV} (h : RefV w bad M r) {g : Nat} (hg : w.heap.size ≤ g) : RefV w (g :: bad) M r := h.map fun _ _ q => q.more hg

/-! ### its four cells -/
def rpC (r : RV) (M : Mdl) : List Value := [.int .i64 (M.n : Int), .slice r.FA M.h r.fc, .slice r.CA M.k r.cc, .slice r.PA M.P.length r.pc]
def RpAt (w : World) (g : Nat) (r : RV) (M : Mdl) : Prop := ∀ i u, (rpC r M)[i]? = some u → w.cell? ⟨g, i, none⟩ = some u
theorem RpAt.range {w : World} {g : Nat} {r : RV} {M : Mdl} (h : RpAt w g r M) : w.rangeAt g 0 (rpC r M) := fun j v hv => by
  rw [Nat.zero_add]; exact h j v hv
theorem RpAt.of {w : World} {g : Nat} {r : RV} {M : Mdl} (h : w.rangeAt g 0 (rpC r M)) : RpAt w g r M := fun j v hv => by
  have := h j v hv
  rwa [Nat.zero_add] at this
theorem RpAt.stored {w : World} {g : Nat} (h : w.there g 0 4) (r : RV) (M : Mdl) : RpAt (w.setCells g 0 (rpC r M)) g r M := RpAt.of (World.rangeAt_setCells_same w g 0 _ h)
theorem RpAt.lt {w : World} {g : Nat} {r : RV} {M : Mdl} (h : RpAt w g r M) : g < w.heap.size := World.block_lt_of_cell? w ⟨g, 0, none⟩ (h 0 _ rfl)
theorem RpAt.keep {w w' : World} {g : Nat} {r : RV} {M : Mdl} (h : RpAt w g r M) (hb : Below w.heap.size w w') : RpAt w' g r M := fun i u hu => (hb.cell (p := ⟨g, i, none⟩) h.lt).trans (h i u hu)
theorem RpAt.keepB {w w' : World} {g B : Nat} {r : RV} {M : Mdl} (h : RpAt w g r M) (hb : Below B w w') (hg : g < B) : RpAt w' g r M := fun i u hu => (hb.cell (p := ⟨g, i, none⟩) hg).trans (h i u hu)
theorem RpAt.mut {w w' : World} {g gb : Nat} {r : RV} {M : Mdl} (h : RpAt w g r M) (hm : Mut w gb w') (hg : g ≠ gb) : RpAt w' g r M := fun i u hu => by
  rw [← h i u hu]
  simp [World.cell?, hm.block g h.lt hg]
theorem RpAt.made (w : World) (r : RV) (M : Mdl) (t : TypeId) : RpAt (w.alloc (.cells #[.int .i64 (M.n : Int), .slice r.FA M.h r.fc, .slice r.CA M.k r.cc, .slice r.PA M.P.length r.pc] t)) w.heap.size r M := fun i u hu => by
  rw [heap_cell (heap_alloc_new w _)]
  simpa [rpC] using hu
theorem RpAt.all {w : World} {g : Nat} {r : RV} {M : Mdl} (h : RpAt w g r M) : w.cell? ⟨g, 0, none⟩ = some (.int .i64 (M.n : Int)) ∧ w.cell? ⟨g, 1, none⟩ = some (.slice r.FA M.h r.fc) ∧ w.cell? ⟨g, 2, none⟩ = some (.slice r.CA M.k r.cc) ∧ w.cell? ⟨g, 3, none⟩ = some (.slice r.PA M.P.length r.pc) := ⟨h 0 _ rfl, h 1 _ rfl, h 2 _ rfl, h 3 _ rfl⟩
theorem size_rp : (Try.prog.info? 33).map (·.size) = some 4 := by kernel_rfl
theorem one_rp (r : RV) (M : Mdl) : (rpC r M).toArray.all (·.oneCell') = true := all_oneCell_toArray (by intro u hu; simp [rpC] at hu; rcases hu with rfl | rfl | rfl | rfl <;> rfl)
theorem wp_store_rp {ops : Array Oper} {rest : List Oper} {op : Oper} {a : Act} {w : World} {Q : Exit → Act → World → Prop} (hgd : op.guard = none) (x y : Operand) (ho : op.op = .store 33 x y) (g : Nat) (r : RV) (M : Mdl)
    (hx : a.eval x = .pointer (some ⟨g, 0, none⟩)) (hy : a.eval y = r.val M) (ht : w.there g 0 4) (h : wpList Try.prog ops Q rest (a.put op.dst undef) (w.setCells g 0 (rpC r M))) : wpList Try.prog ops Q (op :: rest) a w :=
  wpList_store_mid hgd 33 x y ho g 0 (rpC r M).toArray hx hy ht size_rp (one_rp r M) h
theorem wp_load_rp {ops : Array Oper} {rest : List Oper} {op : Oper} {a : Act} {w : World} {Q : Exit → Act → World → Prop} (hgd : op.guard = none) (x : Operand) (ho : op.op = .load 33 x) (g : Nat) (r : RV) (M : Mdl)
    (hx : a.eval x = .pointer (some ⟨g, 0, none⟩)) (hc : RpAt w g r M) (h : wpList Try.prog ops Q rest (a.put op.dst (r.val M)) w) : wpList Try.prog ops Q (op :: rest) a w :=
  wpList_load_mid hgd 33 x ho g 0 hx (rpC r M) _ hc.range Try.underlying33 rfl size_rp h
theorem run_loadRp (w : World) (g : Nat) (r : RV) (M : Mdl) (hc : RpAt w g r M) : (loadVar 33 ⟨g, 0, none⟩).run Try.prog w = .ok (r.val M) w := by
  obtain ⟨k0, k1, k2, k3⟩ := hc.all
  simp [go_sem, loadVar, k0, k1, k2, k3, RV.val]
theorem resultsOne {fn : Func} {p : Tmp} {ty : TypeId} (h : fn.results = #[.cell p ty]) (tmps : Array Value) (P : Program) (w : World) :
    (results fn tmps).run P w = ((asAddr (tmps.getD p undef)).run P w).andThen fun a w₁ => (loadVar ty a).run P w₁ := by
  simp only [results, h]
  simp [Sem.run_bind, Result.andThen]
theorem ret_rp1 {fn : Func} {R : Ending → World → Prop} {a : Act} {w : World} {q : Tmp} {g : Nat} {r : RV} {M : Mdl} (hres : fn.results = #[.cell q 33]) (hp : a.tmps.getD q undef = .pointer (some ⟨g, 0, none⟩)) (hc : RpAt w g r M) (hd : a.defers = [])
    (hR : R (.returned (r.val M)) w) : bodyPost Try.prog fn R .ret a w := by
  refine bodyPost_ret (v := r.val M) ?_ hd hR
  rw [resultsOne hres, hp]
  show ((loadVar 33 ⟨g, 0, none⟩).run Try.prog w) = _
  rw [run_loadRp w g r M hc]
theorem ret_rp {fn : Func} {R : Ending → World → Prop} {a : Act} {w : World} {q u : Tmp} {g : Nat} {r : RV} {M : Mdl} (hres : fn.results = #[.cell q 33, .tmp u]) (hp : a.tmps.getD q undef = .pointer (some ⟨g, 0, none⟩)) (hc : RpAt w g r M) (hd : a.defers = [])
    (hR : R (.returned (.tuple #[r.val M, a.tmps.getD u undef])) w) : bodyPost Try.prog fn R .ret a w := by
  refine bodyPost_ret (v := .tuple #[r.val M, a.tmps.getD u undef]) ?_ hd hR
  rw [results_cell_tmp hres, hp]
  show ((loadVar 33 ⟨g, 0, none⟩).run Try.prog w).andThen _ = _
  rw [run_loadRp w g r M hc]
  rfl
theorem there_new4 (w : World) (a b c d : Value) (t : TypeId) : (w.alloc (.cells #[a, b, c, d] t)).there w.heap.size 0 4 := by
  intro j hj
  rcases (by omega : j = 0 ∨ j = 1 ∨ j = 2 ∨ j = 3) with rfl | rfl | rfl | rfl <;> simp [go_sem]
theorem there_keepR {w w' : World} {B g n : Nat} (h : w.there g 0 n) (hb : Below B w w') (hg : g < B) : w'.there g 0 n := fun j hj =>
  ⟨by rw [hb.cell (p := ⟨g, 0 + j, none⟩) hg]; exact (h j hj).1, by rw [hb.frozen (p := ⟨g, 0 + j, none⟩) hg]; exact (h j hj).2⟩
theorem below_setCellsR {B : Nat} {w w' : World} (h : Below B w w') {b : Nat} (hb : B ≤ b) : ∀ (o : Nat) (vs : List Value), Below B w (w'.setCells b o vs)
  | _, [] => h
  | o, _ :: r => below_setCellsR (h.setCell hb _) hb (o + 1) r
theorem heap_setCells_ne (b : Nat) : ∀ (vs : List Value) (o : Nat) (w : World) {i : Nat}, i ≠ b → (w.setCells b o vs).heap[i]? = w.heap[i]?
  | [], _, _, _, _ => rfl
  | v :: r, o, w, i, h => by
    show ((w.setCell ⟨b, o, none⟩ v).setCells b (o + 1) r).heap[i]? = _
    rw [heap_setCells_ne b r (o + 1) _ h]
    simp [World.setCell, Array.getElem?_modify, Ne.symm h]
end Go.Proofs.Ytoeaffmlolapnaa
