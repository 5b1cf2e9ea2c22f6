/- Rows of ints and of values that the call owns; append onto them. -/
import Derived.Test.YtbbdglikdogmhaaRcE
namespace Go.Proofs.Ytbbdglikdogmhaa
open Go.RowKit
set_option maxRecDepth 100000
set_option linter.unusedVariables false
set_option linter.unusedSimpArgs false
set_option linter.unnecessarySimpa false

def intC (l : List Int) : List Value := l.map (Value.int .i64)
def RdI (w : World) (A : Option Addr) (l : List Int) : Prop := l = [] ∨ ∃ b off, A = some ⟨b, off, none⟩ ∧ ∀ i, i < l.length → w.cell? ⟨b, off + i, none⟩ = some (.int .i64 (l.getD i 0))
theorem RdI.keep {w w' : World} {A : Option Addr} {l : List Int} (h : RdI w A l) (hb : Below w.heap.size w w') : RdI w' A l := by
  rcases h with h | ⟨b, off, rfl, h⟩
  · exact .inl h
  · exact .inr ⟨b, off, rfl, fun i hi => (hb.cell (World.block_lt_of_cell? _ _ (h i hi))).trans (h i hi)⟩
theorem RdI.take {w : World} {A : Option Addr} {l : List Int} (h : RdI w A l) (k : Nat) : RdI w A (l.take k) := by
  rcases h with rfl | ⟨b, off, rfl, h⟩
  · exact .inl (by simp)
  · refine .inr ⟨b, off, rfl, fun i hi => ?_⟩
    have hk : i < k ∧ i < l.length := by simpa [Nat.lt_min] using hi
    have e : (l.take k).getD i 0 = l.getD i 0 := by simp [hk.1]
    rw [e]
    exact h i hk.2
theorem RdI.at {w : World} {A : Option Addr} {l : List Int} (h : RdI w A l) (hl : 0 < l.length) : ∃ b off, A = some ⟨b, off, none⟩ ∧ ∀ i, i < l.length → w.cell? ⟨b, off + i, none⟩ = some (.int .i64 (l.getD i 0)) := by
  rcases h with rfl | h
  · simp at hl
  · exact h
def OwnI (E : TypeId) (w : World) (base : Nat) (A : Option Addr) (n c : Nat) (l : List Int) : Prop := l.length = n ∧ w.ownsRow base E 1 (.slice A n c) n (intC l)
theorem OwnI.nil (E : TypeId) (w : World) (base : Nat) : OwnI E w base none 0 0 [] := ⟨rfl, World.ownsRow_nil w base _ _⟩
theorem own_keep {w w' : World} {base s : Nat} {E : TypeId} {v : Value} {n : Nat} {cs : List Value} (h : w.ownsRow base E s v n cs) (hb : Below w.heap.size w w') : w'.ownsRow base E s v n cs := by
  refine ⟨h.1, ?_⟩
  rcases h.2 with hv | ⟨g, cap, cur, hv, hbg, hg, rest⟩
  · exact .inl hv
  · exact .inr ⟨g, cap, cur, hv, hbg, (hb.block g (Array.getElem?_eq_some_iff.1 hg).1).trans hg, rest⟩
theorem own_cap {w : World} {base s : Nat} {E : TypeId} {A : Option Addr} {n c : Nat} {cs : List Value} (h : w.ownsRow base E s (.slice A n c) n cs) : n ≤ c ∧ c ≤ maxLen := by
  rcases h.2 with ⟨hv, hn⟩ | ⟨g, cap, cur, hv, _, _, h1, h2, _⟩
  · injection hv with e1 e2 e3
    subst e3
    exact ⟨by omega, by unfold maxLen; omega⟩
  · injection hv with e1 e2 e3
    subst e3
    exact ⟨h1, h2⟩
theorem OwnI.keep {E : TypeId} {w w' : World} {base : Nat} {A : Option Addr} {n c : Nat} {l : List Int} (h : OwnI E w base A n c l) (hb : Below w.heap.size w w') : OwnI E w' base A n c l := ⟨h.1, own_keep h.2 hb⟩
theorem OwnI.cap {E : TypeId} {w : World} {base : Nat} {A : Option Addr} {n c : Nat} {l : List Int} (h : OwnI E w base A n c l) : n ≤ c ∧ c ≤ maxLen := own_cap h.2
theorem OwnI.rd {E : TypeId} {w : World} {base : Nat} {A : Option Addr} {n c : Nat} {l : List Int} (h : OwnI E w base A n c l) : RdI w A l := by
  obtain ⟨h1, hown⟩ := h
  rcases hown.2 with ⟨hv, hn⟩ | ⟨g, cap, cur, hv, _⟩
  · subst hn
    exact .inl (List.eq_nil_of_length_eq_zero h1)
  · injection hv with e1 e2 e3
    subst e1
    refine .inr ⟨g, 0, rfl, fun i hi => ?_⟩
    have q := World.ownsRow.cells hown (g := g) rfl i (.int .i64 (l.getD i 0)) (by simp [intC, hi])
    simpa [Addr.add_lit] using q
theorem own_lt {w : World} {base s : Nat} {E : TypeId} {A : Option Addr} {n c : Nat} {cs : List Value} (h : w.ownsRow base E s (.slice A n c) n cs) : ∀ x, A = some x → base ≤ x.block ∧ x.block < w.heap.size := by
  intro x hx
  subst hx
  rcases h.2 with ⟨hv, hn⟩ | ⟨g, cap, cur, hv, hbg, hg, _⟩
  · injection hv with e1 e2 e3; cases e1
  · injection hv with e1 e2 e3
    injection e1 with e1
    subst e1
    exact ⟨hbg, (Array.getElem?_eq_some_iff.1 hg).1⟩

theorem wp_append_i {ops : Array Oper} {rest : List Oper} {o : Oper} {a : Act} {w : World} {Q : Exit → Act → World → Prop} (T E : TypeId) (hT : Try.prog.underlying T = some (.slice E)) (hE : (Try.prog.info? E).map (fun i => (i.zero, i.size, i.bytes)) = some (some (.int .i64 0), 1, 8)) (hgd : o.guard = none) (s x : Operand)
    (ho : o.op = .call { callee := .builtin .append, args := #[s, x], argTypes := #[T, T] })
    (base : Nat) (A : Option Addr) (m c : Nat) (l : List Int) (hs : a.eval s = .slice A m c) (hown : OwnI E w base A m c l) (g d : Nat) (k : Int) (hx : a.eval x = .slice (some ⟨g, 0, none⟩) 1 d)
    (k0 : w.cell? ⟨g, 0, none⟩ = some (.int .i64 k)) (hm : m ≤ 1000000000000) (hbase : base ≤ w.heap.size)
    (h : ∀ A' c' w', OwnI E w' base A' (m + 1) c' (l ++ [k]) → Below base w w' → wpList Try.prog ops Q rest (a.put o.dst (.slice A' (m + 1) c')) w') : wpList Try.prog ops Q (o :: rest) a w := by
  obtain ⟨i, hi, hz, hsz, hby⟩ := info_parts hE
  obtain ⟨h1, hrow⟩ := hown
  obtain ⟨v', w', hrun, h2, h3, h4, h5⟩ := run_append_own_at (P := Try.prog) w base T o.type E i (.int .i64 0) 1 8 hT hi hz hsz hby rfl (by decide) (.slice A m c) m (intC l) hrow ⟨g, 0, none⟩ 1 d
    [.int .i64 k] rfl (by
      intro j u hu
      have hj : j < 1 := (List.getElem?_eq_some_iff.1 hu).1
      rw [Addr.add_lit, Nat.zero_add]
      obtain rfl : j = 0 := by omega
      rw [k0]; exact hu) (by
      intro u hu
      simp at hu
      subst hu; rfl) (by unfold maxLen; omega) (by omega) hbase
  have hform : ∃ A' c', v' = .slice A' (m + 1) c' := by
    rcases h2.2 with ⟨hv, hn⟩ | ⟨g', cap, cur, hv, _⟩
    · omega
    · exact ⟨_, _, hv⟩
  obtain ⟨A', c', rfl⟩ := hform
  have hb : Below base w w' := (Below.refl _ _).grown h3 hbase (fun k hk => (World.ownsRow.lt hrow k hk).1)
  refine wpList_plain hgd fun K hK => ?_
  unfold Oper.wp execOp
  simp only [ho, resolve, invoke, builtin, Sem.run_bind, Sem.run_pure, Result.andThen_ok, List.map_toArray, List.map_cons, List.map_nil, hs, hx, hrun]
  refine hK _ _ (h A' c' w' ⟨by simp [h1], ?_⟩ hb)
  have e : intC (l ++ [k]) = intC l ++ [.int .i64 k] := by simp [intC]
  rw [e]
  exact h2

/-! ### values -/
def valsC (F : List Vl) : List Value := (F.map vlC).flatten
theorem valsC_length (F : List Vl) : (valsC F).length = F.length * 3 := by
  induction F with
  | nil => rfl
  | cons v l ih =>
    have e : valsC (v :: l) = vlC v ++ valsC l := by simp [valsC]
    rw [e, List.length_append, ih, List.length_cons]
    simp [vlC]; omega
theorem valsC_app (F G : List Vl) : valsC (F ++ G) = valsC F ++ valsC G := by simp [valsC]
theorem valsC_get : ∀ (F : List Vl) (i k : Nat), i < F.length → k < 3 → (valsC F)[i * 3 + k]? = (vlC (vl_ F i))[k]? := by
  intro F
  induction F with
  | nil => intro i k h; simp at h
  | cons v l ih =>
    intro i k h hk
    have e : valsC (v :: l) = vlC v ++ valsC l := by simp [valsC]
    have h3 : (vlC v).length = 3 := rfl
    rw [e]
    cases i with
    | zero =>
      rw [Nat.zero_mul, Nat.zero_add, List.getElem?_append_left (by omega)]
      rfl
    | succ i =>
      rw [List.getElem?_append_right (by omega), h3, show (i + 1) * 3 + k - 3 = i * 3 + k by omega, ih i k (by simpa using h) hk]
      rfl
def OwnV (w : World) (base : Nat) (A : Option Addr) (m c : Nat) (F : List Vl) : Prop := F.length = m ∧ w.ownsRow base 49 3 (.slice A m c) m (valsC F)
theorem OwnV.nil (w : World) (base : Nat) : OwnV w base none 0 0 [] := ⟨rfl, World.ownsRow_nil w base _ _⟩
theorem OwnV.keep {w w' : World} {base : Nat} {A : Option Addr} {m c : Nat} {F : List Vl} (h : OwnV w base A m c F) (hb : Below w.heap.size w w') : OwnV w' base A m c F := ⟨h.1, own_keep h.2 hb⟩
theorem OwnV.cap {w : World} {base : Nat} {A : Option Addr} {m c : Nat} {F : List Vl} (h : OwnV w base A m c F) : m ≤ c ∧ c ≤ maxLen := own_cap h.2
theorem OwnV.rd {w : World} {base : Nat} {A : Option Addr} {m c : Nat} {F : List Vl} (h : OwnV w base A m c F) : RdVl w A F := by
  obtain ⟨h1, hown⟩ := h
  rcases hown.2 with ⟨hv, hn⟩ | ⟨g, cap, cur, hv, _⟩
  · subst hn
    exact .inl (List.eq_nil_of_length_eq_zero h1)
  · injection hv with e1 e2 e3
    subst e1
    refine .inr ⟨g, 0, rfl, fun i hi k v hv => ?_⟩
    have hk : k < 3 := (List.getElem?_eq_some_iff.1 hv).1
    have q := World.ownsRow.cells hown (g := g) rfl (i * 3 + k) v (by rw [valsC_get F i k hi hk]; exact hv)
    simpa [Addr.add_lit, Nat.add_assoc] using q
theorem info_vl : (Try.prog.info? 49).map (fun i => (i.zero, i.size, i.bytes)) = some (some (.agg #[.int .i64 0, .int .i64 0, .string ⟨#[]⟩]), 3, 32) := by kernel_rfl
theorem wp_append_v {ops : Array Oper} {rest : List Oper} {o : Oper} {a : Act} {w : World} {Q : Exit → Act → World → Prop} (hgd : o.guard = none) (s x : Operand)
    (ho : o.op = .call { callee := .builtin .append, args := #[s, x], argTypes := #[22, 22] })
    (base : Nat) (A : Option Addr) (m c : Nat) (F : List Vl) (hs : a.eval s = .slice A m c) (hown : OwnV w base A m c F) (g d : Nat) (v : Vl) (hx : a.eval x = .slice (some ⟨g, 0, none⟩) 1 d)
    (k0 : VlAt w g v) (hm : m ≤ 1000000000000) (hbase : base ≤ w.heap.size)
    (h : ∀ A' c' w', OwnV w' base A' (m + 1) c' (F ++ [v]) → Below base w w' → wpList Try.prog ops Q rest (a.put o.dst (.slice A' (m + 1) c')) w') : wpList Try.prog ops Q (o :: rest) a w := by
  obtain ⟨i, hi, hz, hsz, hby⟩ := info_parts info_vl
  obtain ⟨h1, hrow⟩ := hown
  obtain ⟨v', w', hrun, h2, h3, h4, h5⟩ := run_append_own_at (P := Try.prog) w base 22 o.type 49 i (.agg #[.int .i64 0, .int .i64 0, .string ⟨#[]⟩]) 3 32 Try.underlying22 hi hz hsz hby rfl (by decide) (.slice A m c) m (valsC F) hrow ⟨g, 0, none⟩ 1 d
    (vlC v) rfl (by
      intro j u hu
      have := k0.range j u hu
      rw [Addr.add_lit]
      simpa using this) (by
      intro u hu
      simp [vlC] at hu
      rcases hu with rfl | rfl | rfl <;> rfl) (by unfold maxLen; omega) (by omega) hbase
  have hform : ∃ A' c', v' = .slice A' (m + 1) c' := by
    rcases h2.2 with ⟨hv, hn⟩ | ⟨g', cap, cur, hv, _⟩
    · omega
    · exact ⟨_, _, hv⟩
  obtain ⟨A', c', rfl⟩ := hform
  have hb : Below base w w' := (Below.refl _ _).grown h3 hbase (fun k hk => (World.ownsRow.lt hrow k hk).1)
  refine wpList_plain hgd fun K hK => ?_
  unfold Oper.wp execOp
  simp only [ho, resolve, invoke, builtin, Sem.run_bind, Sem.run_pure, Result.andThen_ok, List.map_toArray, List.map_cons, List.map_nil, hs, hx, hrun]
  refine hK _ _ (h A' c' w' ⟨by simp [h1], ?_⟩ hb)
  have e : valsC (F ++ [v]) = valsC F ++ vlC v := by rw [valsC_app]; simp [valsC]
  rw [e]
  exact h2
end Go.Proofs.Ytbbdglikdogmhaa
