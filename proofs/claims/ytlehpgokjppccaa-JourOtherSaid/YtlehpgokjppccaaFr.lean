/- Frames in memory: a list of them read; a list of them that the call owns, and append onto it. -/
import Derived.Test.YtlehpgokjppccaaHdZ
import Derived.Test.YtlehpgokjppccaaNumA
namespace Go.Proofs.Ytlehpgokjppccaa
open Go.RowKit
set_option maxRecDepth 100000

structure Fr where
  (pg cm : Int)
  b : List Int
deriving DecidableEq
def fr_ (F : List Fr) (i : Nat) : Fr := F.getD i ⟨0, 0, []⟩
theorem fr_lt {F : List Fr} {i : Nat} (h : i < F.length) : fr_ F i = F[i] := by simp [fr_, h]
def FrCell (w : World) (b o : Nat) (f : Fr) : Prop :=
  ∃ A c, w.cell? ⟨b, o, none⟩ = some (.int .i64 f.pg) ∧ w.cell? ⟨b, o + 1, none⟩ = some (.int .i64 f.cm) ∧ w.cell? ⟨b, o + 2, none⟩ = some (.slice A f.b.length c) ∧ f.b.length ≤ c ∧ c ≤ maxLen ∧ Rd w A f.b
theorem FrCell.keep {w w' : World} {b o : Nat} {f : Fr} (h : FrCell w b o f) (hb : Below w.heap.size w w') : FrCell w' b o f := by
  obtain ⟨A, c, h1, h2, h3, h4, h5, h6⟩ := h
  exact ⟨A, c, (hb.cell (World.block_lt_of_cell? _ _ h1)).trans h1, (hb.cell (World.block_lt_of_cell? _ _ h2)).trans h2, (hb.cell (World.block_lt_of_cell? _ _ h3)).trans h3, h4, h5, h6.keep hb⟩
def RdFr (w : World) (A : Option Addr) (F : List Fr) : Prop := F = [] ∨ ∃ b off, A = some ⟨b, off, none⟩ ∧ ∀ i, i < F.length → FrCell w b (off + i * 3) (fr_ F i)
theorem RdFr.keep {w w' : World} {A : Option Addr} {F : List Fr} (h : RdFr w A F) (hb : Below w.heap.size w w') : RdFr w' A F := by
  rcases h with h | ⟨b, off, rfl, h⟩
  · exact .inl h
  · exact .inr ⟨b, off, rfl, fun i hi => (h i hi).keep hb⟩
theorem RdFr.at {w : World} {A : Option Addr} {F : List Fr} (h : RdFr w A F) (hl : 0 < F.length) : ∃ b off, A = some ⟨b, off, none⟩ ∧ ∀ i, i < F.length → FrCell w b (off + i * 3) (fr_ F i) := by
  rcases h with rfl | h
  · simp at hl
  · exact h
theorem RdFr.take {w : World} {A : Option Addr} {F : List Fr} (h : RdFr w A F) (k : Nat) : RdFr w A (F.take k) := by
  rcases h with rfl | ⟨b, off, rfl, h⟩
  · exact .inl (by simp)
  · refine .inr ⟨b, off, rfl, fun i hi => ?_⟩
    have hk : i < k ∧ i < F.length := by simpa [Nat.lt_min] using hi
    have e : fr_ (F.take k) i = fr_ F i := by simp [fr_, hk.1]
    rw [e]
    exact h i hk.2

/-- The cells of frames whose bytes the call owns. -/
def FrVals (w : World) (base : Nat) (F : List Fr) (cs : List Value) : Prop :=
  ∀ i, i < F.length → ∃ A c, cs[i * 3]? = some (.int .i64 (fr_ F i).pg) ∧ cs[i * 3 + 1]? = some (.int .i64 (fr_ F i).cm) ∧ cs[i * 3 + 2]? = some (.slice A (fr_ F i).b.length c) ∧ OwnB w base A (fr_ F i).b.length c (fr_ F i).b
def OwnF (w : World) (base : Nat) (A : Option Addr) (m c : Nat) (F : List Fr) : Prop :=
  F.length = m ∧ ∃ cs, w.ownsRow base 53 3 (.slice A m c) m cs ∧ FrVals w base F cs
theorem OwnF.nil (w : World) (base : Nat) : OwnF w base none 0 0 [] := ⟨rfl, [], World.ownsRow_nil w base _ _, fun i hi => by simp at hi⟩
theorem OwnF.keep {w w' : World} {base : Nat} {A : Option Addr} {m c : Nat} {F : List Fr} (h : OwnF w base A m c F) (hb : Below w.heap.size w w') : OwnF w' base A m c F := by
  obtain ⟨h1, cs, ⟨h2, h3⟩, h4⟩ := h
  refine ⟨h1, cs, ⟨h2, ?_⟩, fun i hi => ?_⟩
  · rcases h3 with hv | ⟨g, cap, cur, hv, hbg, hg, rest⟩
    · exact .inl hv
    · exact .inr ⟨g, cap, cur, hv, hbg, (hb.block g (Array.getElem?_eq_some_iff.1 hg).1).trans hg, rest⟩
  · obtain ⟨A, c, k1, k2, k3, k4⟩ := h4 i hi
    exact ⟨A, c, k1, k2, k3, k4.keep hb⟩
theorem OwnF.cap {w : World} {base : Nat} {A : Option Addr} {m c : Nat} {F : List Fr} (h : OwnF w base A m c F) : m ≤ c ∧ c ≤ maxLen := by
  obtain ⟨_, cs, ⟨_, h3⟩, _⟩ := h
  rcases h3 with ⟨hv, hn⟩ | ⟨g, cap, cur, hv, _, _, h1, h2, _⟩
  · injection hv with e1 e2 e3
    subst e3
    exact ⟨by omega, by unfold maxLen; omega⟩
  · injection hv with e1 e2 e3
    subst e3
    exact ⟨h1, h2⟩
theorem OwnF.rd {w : World} {base : Nat} {A : Option Addr} {m c : Nat} {F : List Fr} (h : OwnF w base A m c F) : RdFr w A F := by
  obtain ⟨h1, cs, hown, h4⟩ := h
  rcases hown.2 with ⟨hv, hn⟩ | ⟨g, cap, cur, hv, _⟩
  · subst hn
    exact .inl (List.eq_nil_of_length_eq_zero h1)
  · injection hv with e1 e2 e3
    subst e1
    refine .inr ⟨g, 0, rfl, fun i hi => ?_⟩
    obtain ⟨A, c', k1, k2, k3, k4⟩ := h4 i hi
    have q1 := World.ownsRow.cells hown (g := g) rfl _ _ k1
    have q2 := World.ownsRow.cells hown (g := g) rfl _ _ k2
    have q3 := World.ownsRow.cells hown (g := g) rfl _ _ k3
    simp only [Addr.add_lit, Nat.zero_add] at q1 q2 q3
    rw [Nat.zero_add]
    exact ⟨A, c', q1, q2, q3, k4.cap.1, k4.cap.2, k4.rd⟩

theorem OwnB.grownF {w w' : World} {base : Nat} {A B : Option Addr} {n c m d : Nat} {l : List Int} {cs : List Value} (ho : OwnB w base A n c l) (hown : w.ownsRow base 53 3 (.slice B m d) m cs) (hg : w.grownBy w' (Value.ownBlock (.slice B m d))) : OwnB w' base A n c l := by
  refine ⟨ho.1, ?_⟩
  rcases ho.2 with hv | ⟨g, cap, cur, hv, hbg, hgx, rest⟩
  · exact .inl hv
  · refine .inr ⟨g, cap, cur, hv, hbg, (hg.block g (Array.getElem?_eq_some_iff.1 hgx).1 ?_).trans hgx, rest⟩
    intro e
    rcases hown.2 with ⟨hv2, _⟩ | ⟨g2, cap2, cur2, hv2, _, hg2, _⟩
    · injection hv2 with e1 e2 e3
      subst e1
      simp [Value.ownBlock] at e
    · injection hv2 with e1 e2 e3
      subst e1
      simp only [Value.ownBlock, Option.some.injEq] at e
      subst e
      rw [hgx] at hg2
      simp at hg2

theorem info_fr : (Try.prog.info? 53).map (fun i => (i.zero, i.size, i.bytes)) = some (some (.agg #[.int .i64 0, .int .i64 0, .slice none 0 0]), 3, 40) := by kernel_rfl

theorem run_append_fr (w : World) (base : Nat) (A : Option Addr) (m c : Nat) (F : List Fr) (hown : OwnF w base A m c F) (g d : Nat) (f : Fr) (B : Option Addr) (cB : Nat) (k0 : w.cell? ⟨g, 0, none⟩ = some (.int .i64 f.pg)) (k1 : w.cell? ⟨g, 1, none⟩ = some (.int .i64 f.cm))
    (k2 : w.cell? ⟨g, 2, none⟩ = some (.slice B f.b.length cB)) (hB : OwnB w base B f.b.length cB f.b) (hm : m ≤ 1000000000000) (hbase : base ≤ w.heap.size) (ty : TypeId) :
    ∃ A' c' w', (Builtin.append_ #[44, 44] ty #[.slice A m c, .slice (some ⟨g, 0, none⟩) 1 d]).run Try.prog w = .ok (.slice A' (m + 1) c') w' ∧ OwnF w' base A' (m + 1) c' (F ++ [f]) ∧ Below base w w' ∧ (∀ A n c l, OwnB w base A n c l → OwnB w' base A n c l) := by
  obtain ⟨i, hi, hz, hsz, hby⟩ := info_parts info_fr
  obtain ⟨h1, cs, hrow, hvals⟩ := hown
  obtain ⟨v', w', hrun, h2, h3, h4, h5⟩ := run_append_own_at (P := Try.prog) w base 44 ty 53 i (.agg #[.int .i64 0, .int .i64 0, .slice none 0 0]) 3 40 Try.underlying44 hi hz hsz hby rfl (by decide) (.slice A m c) m cs hrow ⟨g, 0, none⟩ 1 d
    [.int .i64 f.pg, .int .i64 f.cm, .slice B f.b.length cB] rfl (by
      intro j u hu
      have hj : j < 3 := (List.getElem?_eq_some_iff.1 hu).1
      rw [Addr.add_lit, Nat.zero_add]
      rcases (by omega : j = 0 ∨ j = 1 ∨ j = 2) with rfl | rfl | rfl
      · rw [k0]; exact hu
      · rw [k1]; exact hu
      · rw [k2]; exact hu) (by
      intro u hu
      simp at hu
      rcases hu with rfl | rfl | rfl <;> rfl) (by unfold maxLen; omega) (by omega) hbase
  have hform : ∃ A' c', v' = .slice A' (m + 1) c' := by
    rcases h2.2 with ⟨hv, hn⟩ | ⟨g', cap, cur, hv, _⟩
    · omega
    · exact ⟨_, _, hv⟩
  obtain ⟨A', c', rfl⟩ := hform
  have hlen : cs.length = m * 3 := hrow.1
  refine ⟨A', c', w', hrun, ⟨by simp [h1], _, h2, fun j hj => ?_⟩, (Below.refl _ _).grown h3 hbase (fun k hk => (World.ownsRow.lt hrow k hk).1), fun A n c l ho => ho.grownF hrow h3⟩
  by_cases hjm : j < m
  · obtain ⟨Aj, cj, q1, q2, q3, q4⟩ := hvals j (by omega)
    have e : fr_ (F ++ [f]) j = fr_ F j := by simp [fr_, List.getElem?_append_left, show j < F.length by omega]
    rw [e]
    exact ⟨Aj, cj, by rw [List.getElem?_append_left (by omega)]; exact q1, by rw [List.getElem?_append_left (by omega)]; exact q2, by rw [List.getElem?_append_left (by omega)]; exact q3, q4.grownF hrow h3⟩
  · have hj' : j = m := by simp at hj; omega
    subst hj'
    have e : fr_ (F ++ [f]) j = f := by simp [fr_, ← h1]
    rw [e]
    refine ⟨B, cB, ?_, ?_, ?_, hB.grownF hrow h3⟩
    · rw [List.getElem?_append_right (by omega), hlen, Nat.sub_self]; rfl
    · rw [List.getElem?_append_right (by omega), hlen, show j * 3 + 1 - j * 3 = 1 by omega]; rfl
    · rw [List.getElem?_append_right (by omega), hlen, show j * 3 + 2 - j * 3 = 2 by omega]; rfl

theorem wp_append_fr {ops : Array Oper} {rest : List Oper} {o : Oper} {a : Act} {w : World} {Q : Exit → Act → World → Prop} (hgd : o.guard = none) (s x : Operand)
    (ho : o.op = .call { callee := .builtin .append, args := #[s, x], argTypes := #[44, 44] })
    (base : Nat) (A : Option Addr) (m c : Nat) (F : List Fr) (hs : a.eval s = .slice A m c) (hown : OwnF w base A m c F) (g d : Nat) (f : Fr) (B : Option Addr) (cB : Nat) (hx : a.eval x = .slice (some ⟨g, 0, none⟩) 1 d)
    (k0 : w.cell? ⟨g, 0, none⟩ = some (.int .i64 f.pg)) (k1 : w.cell? ⟨g, 1, none⟩ = some (.int .i64 f.cm)) (k2 : w.cell? ⟨g, 2, none⟩ = some (.slice B f.b.length cB)) (hB : OwnB w base B f.b.length cB f.b) (hm : m ≤ 1000000000000) (hbase : base ≤ w.heap.size)
    (h : ∀ A' c' w', OwnF w' base A' (m + 1) c' (F ++ [f]) → Below base w w' → (∀ A n c l, OwnB w base A n c l → OwnB w' base A n c l) → wpList Try.prog ops Q rest (a.put o.dst (.slice A' (m + 1) c')) w') : wpList Try.prog ops Q (o :: rest) a w := by
  obtain ⟨A', c', w', hrun, h2, hb, hk⟩ := run_append_fr w base A m c F hown g d f B cB k0 k1 k2 hB hm hbase o.type
  refine wpList_plain hgd fun K hK => ?_
  unfold Oper.wp execOp
  simp only [ho, resolve, invoke, builtin, Sem.run_bind, Sem.run_pure, Result.andThen_ok, List.map_toArray, List.map_cons, List.map_nil, hs, hx, hrun]
  exact hK _ _ (h A' c' w' h2 hb hk)
end Go.Proofs.Ytlehpgokjppccaa
