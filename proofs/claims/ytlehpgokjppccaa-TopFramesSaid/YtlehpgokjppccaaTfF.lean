/- Several texts of this proof as one: Fr, JrA, JrB, JrD, JrE, JrF, JrI, JrP, JrG, JrL, FrameM, JrS. Laid by merge.py. -/
import Derived.Test.YtlehpgokjppccaaTfA
import Derived.Test.YtlehpgokjppccaaTfB
import Derived.Test.YtlehpgokjppccaaTfC
import Derived.Test.YtlehpgokjppccaaTfD
import Derived.ArgAppend
import Derived.BigQuiet
import Derived.ChangeKeysEq
import Derived.ChangeOld
import Derived.Deep.DeepCutAuto
import Derived.Deep.Matrix
import Derived.Deep.MidRow
import Derived.Deep.QuietTactic
import Derived.Deep.RegionHeld3
import Derived.Deep.RegionLaw
import Derived.Deep.Slices
import Derived.Handy
import Derived.Laws.Externs
import Derived.Laws.ResultCell
import Derived.Lib.AppendStr
import Derived.Lib.Hide
import Derived.Lib.MakeNoZero
import Derived.Lib.SlBuf
import Derived.Lib.SmallJoins
import Derived.Maps.AppendAt
import Derived.OpenShut
import Derived.ProofKit
import Derived.ShutString
import Derived.SizedLaws
import Derived.Test.YtlehpgokjppccaaProg
import Derived.WalkKit
import Derived.WalkMore
import Derived.WalkSpells
namespace Go.Proofs.Ytlehpgokjppccaa
section
open Go.RowKit
set_option maxRecDepth 100000
structure Fr where
  (pg cm : Int)
  b : List Int
deriving DecidableEq
def fr_ (F : List Fr) (i : Nat) : Fr := F.getD i ⟨0, 0, []⟩
theorem fr_lt {F : List Fr} {i : Nat} (h : i < F.length) : fr_ F i = F[i] := by simp [fr_, h]
def FrCell (w : World) (b o : Nat) (f : Fr) : Prop :=
  ∃ A c, w.cell? ⟨b, o, none⟩ = some (.int .i64 f.pg) ∧ w.cell? ⟨b, o + 1, none⟩ = some (.int .i64 f.cm) ∧ w.cell? ⟨b, o + 2, none⟩ = some (.slice A f.b.length c) ∧ f.b.length ≤ c ∧ c ≤ maxLen ∧ Rd w A f.b
theorem FrCell.keep {w w' : World} {b o : Nat} {f : Fr} (h : FrCell w b o f) (hb : Below w.heap.size w w') : FrCell w' b o f := by
  obtain ⟨A, c, h1, h2, h3, h4, h5, h6⟩ := h
  exact ⟨A, c, (hb.cell (World.block_lt_of_cell? _ _ h1)).trans h1, (hb.cell (World.block_lt_of_cell? _ _ h2)).trans h2, (hb.cell (World.block_lt_of_cell? _ _ h3)).trans h3, h4, h5, h6.keep hb⟩
def RdFr (w : World) (A : Option Addr) (F : List Fr) : Prop := F = [] ∨ ∃ b off, A = some ⟨b, off, none⟩ ∧ ∀ i, i < F.length → FrCell w b (off + i * 3) (fr_ F i)
theorem RdFr.keep {w w' : World} {A : Option Addr} {F : List Fr} (h : RdFr w A F) (hb : Below w.heap.size w w') : RdFr w' A F := by
  rcases h with h | ⟨b, off, rfl, h⟩
  · exact .inl h
  · exact .inr ⟨b, off, rfl, fun i hi => (h i hi).keep hb⟩
theorem RdFr.at {w : World} {A : Option Addr} {F : List Fr} (h : RdFr w A F) (hl : 0 < F.length) : ∃ b off, A = some ⟨b, off, none⟩ ∧ ∀ i, i < F.length → FrCell w b (off + i * 3) (fr_ F i) := by
  rcases h with rfl | h
  · simp at hl
  · exact h
theorem RdFr.take {w : World} {A : Option Addr} {F : List Fr} (h : RdFr w A F) (k : Nat) : RdFr w A (F.take k) := by
  rcases h with rfl | ⟨b, off, rfl, h⟩
  · exact .inl (by simp)
  · refine .inr ⟨b, off, rfl, fun i hi => ?_⟩
    have hk : i < k ∧ i < F.length := by simpa [Nat.lt_min] using hi
    have e : fr_ (F.take k) i = fr_ F i := by simp [fr_, hk.1]
    rw [e]
    exact h i hk.2

/-- The cells of frames whose bytes the call owns. -/
def FrVals (w : World) (base : Nat) (F : List Fr) (cs : List Value) : Prop :=
  ∀ i, i < F.length → ∃ A c, cs[i * 3]? = some (.int .i64 (fr_ F i).pg) ∧ cs[i * 3 + 1]? = some (.int .i64 (fr_ F i).cm) ∧ cs[i * 3 + 2]? = some (.slice A (fr_ F i).b.length c) ∧ OwnB w base A (fr_ F i).b.length c (fr_ F i).b
def OwnF (w : World) (base : Nat) (A : Option Addr) (m c : Nat) (F : List Fr) : Prop :=
  F.length = m ∧ ∃ cs, w.ownsRow base 53 3 (.slice A m c) m cs ∧ FrVals w base F cs
theorem OwnF.nil (w : World) (base : Nat) : OwnF w base none 0 0 [] := ⟨rfl, [], World.ownsRow_nil w base _ _, fun i hi => by simp at hi⟩
theorem OwnF.keep {w w' : World} {base : Nat} {A : Option Addr} {m c : Nat} {F : List Fr} (h : OwnF w base A m c F) (hb : Below w.heap.size w w') : OwnF w' base A m c F := by
  obtain ⟨h1, cs, ⟨h2, h3⟩, h4⟩ := h
  refine ⟨h1, cs, ⟨h2, ?_⟩, fun i hi => ?_⟩
  · rcases h3 with hv | ⟨g, cap, cur, hv, hbg, hg, rest⟩
    · exact .inl hv
    · exact .inr ⟨g, cap, cur, hv, hbg, (hb.block g (Array.getElem?_eq_some_iff.1 hg).1).trans hg, rest⟩
  · obtain ⟨A, c, k1, k2, k3, k4⟩ := h4 i hi
    exact ⟨A, c, k1, k2, k3, k4.keep hb⟩
theorem OwnF.cap {w : World} {base : Nat} {A : Option Addr} {m c : Nat} {F : List Fr} (h : OwnF w base A m c F) : m ≤ c ∧ c ≤ maxLen := by
  obtain ⟨_, cs, ⟨_, h3⟩, _⟩ := h
  rcases h3 with ⟨hv, hn⟩ | ⟨g, cap, cur, hv, _, _, h1, h2, _⟩
  · injection hv with e1 e2 e3
    subst e3
    exact ⟨by omega, by unfold maxLen; omega⟩
  · injection hv with e1 e2 e3
    subst e3
    exact ⟨h1, h2⟩
theorem OwnF.rd {w : World} {base : Nat} {A : Option Addr} {m c : Nat} {F : List Fr} (h : OwnF w base A m c F) : RdFr w A F := by
  obtain ⟨h1, cs, hown, h4⟩ := h
  rcases hown.2 with ⟨hv, hn⟩ | ⟨g, cap, cur, hv, _⟩
  · subst hn
    exact .inl (List.eq_nil_of_length_eq_zero h1)
  · injection hv with e1 e2 e3
    subst e1
    refine .inr ⟨g, 0, rfl, fun i hi => ?_⟩
    obtain ⟨A, c', k1, k2, k3, k4⟩ := h4 i hi
    have q1 := World.ownsRow.cells hown (g := g) rfl _ _ k1
    have q2 := World.ownsRow.cells hown (g := g) rfl _ _ k2
    have q3 := World.ownsRow.cells hown (g := g) rfl _ _ k3
    simp only [Addr.add_lit, Nat.zero_add] at q1 q2 q3
    rw [Nat.zero_add]
    exact ⟨A, c', q1, q2, q3, k4.cap.1, k4.cap.2, k4.rd⟩

theorem OwnB.grownF {w w' : World} {base : Nat} {A B : Option Addr} {n c m d : Nat} {l : List Int} {cs : List Value} (ho : OwnB w base A n c l) (hown : w.ownsRow base 53 3 (.slice B m d) m cs) (hg : w.grownBy w' (Value.ownBlock (.slice B m d))) : OwnB w' base A n c l := by
  refine ⟨ho.1, ?_⟩
  rcases ho.2 with hv | ⟨g, cap, cur, hv, hbg, hgx, rest⟩
  · exact .inl hv
  · refine .inr ⟨g, cap, cur, hv, hbg, (hg.block g (Array.getElem?_eq_some_iff.1 hgx).1 ?_).trans hgx, rest⟩
    intro e
    rcases hown.2 with ⟨hv2, _⟩ | ⟨g2, cap2, cur2, hv2, _, hg2, _⟩
    · injection hv2 with e1 e2 e3
      subst e1
      simp [Value.ownBlock] at e
    · injection hv2 with e1 e2 e3
      subst e1
      simp only [Value.ownBlock, Option.some.injEq] at e
      subst e
      rw [hgx] at hg2
      simp at hg2

theorem info_fr : (Try.prog.info? 53).map (fun i => (i.zero, i.size, i.bytes)) = some (some (.agg #[.int .i64 0, .int .i64 0, .slice none 0 0]), 3, 40) := by kernel_rfl

theorem run_append_fr (w : World) (base : Nat) (A : Option Addr) (m c : Nat) (F : List Fr) (hown : OwnF w base A m c F) (g d : Nat) (f : Fr) (B : Option Addr) (cB : Nat) (k0 : w.cell? ⟨g, 0, none⟩ = some (.int .i64 f.pg)) (k1 : w.cell? ⟨g, 1, none⟩ = some (.int .i64 f.cm))
    (k2 : w.cell? ⟨g, 2, none⟩ = some (.slice B f.b.length cB)) (hB : OwnB w base B f.b.length cB f.b) (hm : m ≤ 1000000000000) (hbase : base ≤ w.heap.size) (ty : TypeId) :
    ∃ A' c' w', (Builtin.append_ #[44, 44] ty #[.slice A m c, .slice (some ⟨g, 0, none⟩) 1 d]).run Try.prog w = .ok (.slice A' (m + 1) c') w' ∧ OwnF w' base A' (m + 1) c' (F ++ [f]) ∧ Below base w w' ∧ (∀ A n c l, OwnB w base A n c l → OwnB w' base A n c l) := by
  obtain ⟨i, hi, hz, hsz, hby⟩ := info_parts info_fr
  obtain ⟨h1, cs, hrow, hvals⟩ := hown
  obtain ⟨v', w', hrun, h2, h3, h4, h5⟩ := run_append_own_at (P := Try.prog) w base 44 ty 53 i (.agg #[.int .i64 0, .int .i64 0, .slice none 0 0]) 3 40 Try.underlying44 hi hz hsz hby rfl (by decide) (.slice A m c) m cs hrow ⟨g, 0, none⟩ 1 d
    [.int .i64 f.pg, .int .i64 f.cm, .slice B f.b.length cB] rfl (by
      intro j u hu
      have hj : j < 3 := (List.getElem?_eq_some_iff.1 hu).1
      rw [Addr.add_lit, Nat.zero_add]
      rcases (by omega : j = 0 ∨ j = 1 ∨ j = 2) with rfl | rfl | rfl
      · rw [k0]; exact hu
      · rw [k1]; exact hu
      · rw [k2]; exact hu) (by
      intro u hu
      simp at hu
      rcases hu with rfl | rfl | rfl <;> rfl) (by unfold maxLen; omega) (by omega) hbase
  have hform : ∃ A' c', v' = .slice A' (m + 1) c' := by
    rcases h2.2 with ⟨hv, hn⟩ | ⟨g', cap, cur, hv, _⟩
    · omega
    · exact ⟨_, _, hv⟩
  obtain ⟨A', c', rfl⟩ := hform
  have hlen : cs.length = m * 3 := hrow.1
  refine ⟨A', c', w', hrun, ⟨by simp [h1], _, h2, fun j hj => ?_⟩, (Below.refl _ _).grown h3 hbase (fun k hk => (World.ownsRow.lt hrow k hk).1), fun A n c l ho => ho.grownF hrow h3⟩
  by_cases hjm : j < m
  · obtain ⟨Aj, cj, q1, q2, q3, q4⟩ := hvals j (by omega)
    have e : fr_ (F ++ [f]) j = fr_ F j := by simp [fr_, List.getElem?_append_left, show j < F.length by omega]
    rw [e]
    exact ⟨Aj, cj, by rw [List.getElem?_append_left (by omega)]; exact q1, by rw [List.getElem?_append_left (by omega)]; exact q2, by rw [List.getElem?_append_left (by omega)]; exact q3, q4.grownF hrow h3⟩
  · have hj' : j = m := by simp at hj; omega
    subst hj'
    have e : fr_ (F ++ [f]) j = f := by simp [fr_, ← h1]
    rw [e]
    refine ⟨B, cB, ?_, ?_, ?_, hB.grownF hrow h3⟩
    · rw [List.getElem?_append_right (by omega), hlen, Nat.sub_self]; rfl
    · rw [List.getElem?_append_right (by omega), hlen, show j * 3 + 1 - j * 3 = 1 by omega]; rfl
    · rw [List.getElem?_append_right (by omega), hlen, show j * 3 + 2 - j * 3 = 2 by omega]; rfl

theorem wp_append_fr {ops : Array Oper} {rest : List Oper} {o : Oper} {a : Act} {w : World} {Q : Exit → Act → World → Prop} (hgd : o.guard = none) (s x : Operand)
    (ho : o.op = .call { callee := .builtin .append, args := #[s, x], argTypes := #[44, 44] })
    (base : Nat) (A : Option Addr) (m c : Nat) (F : List Fr) (hs : a.eval s = .slice A m c) (hown : OwnF w base A m c F) (g d : Nat) (f : Fr) (B : Option Addr) (cB : Nat) (hx : a.eval x = .slice (some ⟨g, 0, none⟩) 1 d)
    (k0 : w.cell? ⟨g, 0, none⟩ = some (.int .i64 f.pg)) (k1 : w.cell? ⟨g, 1, none⟩ = some (.int .i64 f.cm)) (k2 : w.cell? ⟨g, 2, none⟩ = some (.slice B f.b.length cB)) (hB : OwnB w base B f.b.length cB f.b) (hm : m ≤ 1000000000000) (hbase : base ≤ w.heap.size)
    (h : ∀ A' c' w', OwnF w' base A' (m + 1) c' (F ++ [f]) → Below base w w' → (∀ A n c l, OwnB w base A n c l → OwnB w' base A n c l) → wpList Try.prog ops Q rest (a.put o.dst (.slice A' (m + 1) c')) w') : wpList Try.prog ops Q (o :: rest) a w := by
  obtain ⟨A', c', w', hrun, h2, hb, hk⟩ := run_append_fr w base A m c F hown g d f B cB k0 k1 k2 hB hm hbase o.type
  refine wpList_plain hgd fun K hK => ?_
  unfold Oper.wp execOp
  simp only [ho, resolve, invoke, builtin, Sem.run_bind, Sem.run_pure, Result.andThen_ok, List.map_toArray, List.map_cons, List.map_nil, hs, hx, hrun]
  exact hK _ _ (h A' c' w' h2 hb hk)
end
section
open Go.RowKit
set_option maxRecDepth 100000
def jsign : List Int := [116, 111, 109, 101, 32, 106, 110, 108]
theorem jsign_isB : IsB jsign := by unfold jsign IsB; decide
def startB (s p k : Int) : List Int := jsign ++ (fxL s 4 ++ (fxL p 4 ++ fxL k 8))
def startH (s p k : Int) : List Int := startB s p k ++ fxL (sumI (startB s p k)) 4
theorem startB_length (s p k : Int) : (startB s p k).length = 24 := by simp [startB, jsign, fxL_length]
theorem startH_length (s p k : Int) : (startH s p k).length = 28 := by simp [startH, startB_length, fxL_length]
theorem startB_isB (s p k : Int) : IsB (startB s p k) := isB_append jsign_isB (isB_append (fxL_isB _ _) (isB_append (fxL_isB _ _) (fxL_isB _ _)))
theorem startH_isB (s p k : Int) : IsB (startH s p k) := isB_append (startB_isB _ _ _) (fxL_isB _ _)

theorem jright_any (w : World) (n : Int) (_hn : i64ok n) : Calls Try.prog 47 #[.int .i64 n] w fun e w' => e = .returned (.bool (decide (isSize n))) ∧ w = w' := by
  by_cases h0 : 256 ≤ n
  · by_cases h1 : n ≤ 4096
    · have hb := size_bits h0 h1
      have hw : IntKind.i64.wrap (n - 1) = n - 1 := IntWalk.i64_in _ (by omega)
      go_enter Try.func47, Try.ntmps47
      go_wp2
      go_ret
      exact ⟨rfl, rfl⟩
    · have hs : decide (isSize n) = false := decide_eq_false (by unfold isSize; omega)
      rw [hs]
      go_enter Try.func47, Try.ntmps47
      go_wp2
      go_ret
      exact ⟨rfl, rfl⟩
  · have hs : decide (isSize n) = false := decide_eq_false (by unfold isSize; omega)
    rw [hs]
    go_enter Try.func47, Try.ntmps47
    go_wp2
    go_ret
    exact ⟨rfl, rfl⟩

theorem fresh_rd {w : World} {l : List Int} {e : Ending} {w' : World} (h : FreshBack w l e w') : ∃ g n, e = .returned (.slice (some ⟨g, 0, none⟩) n n) ∧ l.length = n ∧ n ≤ maxLen ∧ Rd w' (some ⟨g, 0, none⟩) l ∧ Below w.heap.size w w' := by
  obtain ⟨g, n, rfl, h1, h2, h3, h4, h5, h6, h7⟩ := h
  exact ⟨g, n, rfl, h1.symm, h4, .inr ⟨g, 0, rfl, fun i hi => by simpa using h5 i (by omega)⟩, h7⟩

/-- Two rows, four rows, written out. -/
theorem rows2 {w : World} {A1 A2 : Option Addr} {n1 c1 n2 c2 : Nat} {l1 l2 : List Int} (t : TypeId) (fr : Nat × Nat)
    (e1 : l1.length = n1) (k1 : n1 ≤ c1) (m1 : c1 ≤ maxLen) (r1 : Rd w A1 l1) (e2 : l2.length = n2) (k2 : n2 ≤ c2) (m2 : c2 ≤ maxLen) (r2 : Rd w A2 l2) :
    RdRows (w.alloc (.cells #[.slice A1 n1 c1, .slice A2 n2 c2] t fr)) (some ⟨w.heap.size, 0, none⟩) [l1, l2] := by
  have hb : Below w.heap.size w (w.alloc (.cells #[.slice A1 n1 c1, .slice A2 n2 c2] t fr)) := (Below.refl _ _).alloc (Nat.le_refl _) _
  subst e1 e2
  refine .inr ⟨_, 0, rfl, fun i hi => ?_⟩
  simp at hi
  rcases (by omega : i = 0 ∨ i = 1) with rfl | rfl
  · exact ⟨A1, c1, by simp [go_sem, Joins.cell_alloc_mark_at, rw_], by simpa [rw_] using k1, m1, r1.keep hb⟩
  · exact ⟨A2, c2, by simp [go_sem, Joins.cell_alloc_mark_at, rw_], by simpa [rw_] using k2, m2, r2.keep hb⟩
theorem rows4 {w : World} {A1 A2 A3 A4 : Option Addr} {n1 c1 n2 c2 n3 c3 n4 c4 : Nat} {l1 l2 l3 l4 : List Int} (t : TypeId) (fr : Nat × Nat)
    (e1 : l1.length = n1) (k1 : n1 ≤ c1) (m1 : c1 ≤ maxLen) (r1 : Rd w A1 l1) (e2 : l2.length = n2) (k2 : n2 ≤ c2) (m2 : c2 ≤ maxLen) (r2 : Rd w A2 l2) (e3 : l3.length = n3) (k3 : n3 ≤ c3) (m3 : c3 ≤ maxLen) (r3 : Rd w A3 l3) (e4 : l4.length = n4) (k4 : n4 ≤ c4) (m4 : c4 ≤ maxLen) (r4 : Rd w A4 l4) :
    RdRows (w.alloc (.cells #[.slice A1 n1 c1, .slice A2 n2 c2, .slice A3 n3 c3, .slice A4 n4 c4] t fr)) (some ⟨w.heap.size, 0, none⟩) [l1, l2, l3, l4] := by
  have hb : Below w.heap.size w (w.alloc (.cells #[.slice A1 n1 c1, .slice A2 n2 c2, .slice A3 n3 c3, .slice A4 n4 c4] t fr)) := (Below.refl _ _).alloc (Nat.le_refl _) _
  subst e1 e2 e3 e4
  refine .inr ⟨_, 0, rfl, fun i hi => ?_⟩
  simp at hi
  rcases (by omega : i = 0 ∨ i = 1 ∨ i = 2 ∨ i = 3) with rfl | rfl | rfl | rfl
  · exact ⟨A1, c1, by simp [go_sem, Joins.cell_alloc_mark_at, rw_], by simpa [rw_] using k1, m1, r1.keep hb⟩
  · exact ⟨A2, c2, by simp [go_sem, Joins.cell_alloc_mark_at, rw_], by simpa [rw_] using k2, m2, r2.keep hb⟩
  · exact ⟨A3, c3, by simp [go_sem, Joins.cell_alloc_mark_at, rw_], by simpa [rw_] using k3, m3, r3.keep hb⟩
  · exact ⟨A4, c4, by simp [go_sem, Joins.cell_alloc_mark_at, rw_], by simpa [rw_] using k4, m4, r4.keep hb⟩

theorem fixed_put (w : World) (x : Int) (k : Nat) (h0 : 0 ≤ x) (h1 : x ≤ 18446744073709551615) (hk : 1 ≤ k) (hk8 : k ≤ 8) :
    Calls Try.prog 50 #[.int .u64 x, .int .i64 (k : Int)] w fun e w' => ∃ A c, e = .returned (.slice A k c) ∧ OwnB w' w.heap.size A k c (fxL x k) ∧ Below w.heap.size w w' := by
  refine (fixed_any w x (k : Int) h0 h1).mono ?_
  rintro e w1 ⟨A, n, c, rfl, hown, hb⟩
  rw [fixed_nat x k hk hk8] at hown
  have hn : k = n := by rw [← hown.len, fxL_length]
  subst hn
  exact ⟨A, c, rfl, hown, hb⟩

theorem fresh_lift {w w2 : World} {l k : List Int} {e : Ending} {w' : World} (h : FreshBack w2 l e w') (hb : Below w.heap.size w w2) (hk : l = k) : FreshBack w k e w' := by
  subst hk
  obtain ⟨g, n, rfl, h1, h2, h3, h4, h5, h6, h7⟩ := h
  exact ⟨g, n, rfl, h1, Nat.le_trans hb.size h2, h3, h4, h5, h6, hb.trans (h7.mono hb.size)⟩

set_option maxHeartbeats 4000000 in
theorem jstart_any (w : World) (s p k : Int) (hs : 0 ≤ s ∧ s ≤ 18446744073709551615) (hp : 0 ≤ p ∧ p ≤ 18446744073709551615) (hk : 0 ≤ k ∧ k ≤ 18446744073709551615) (R : Ending → World → Prop) (hR : R = FreshBack w (startH s p k)) :
    Calls Try.prog 48 #[.int .u64 s, .int .u64 p, .int .u64 k] w R := by
  have kc := fun (w : World) (C : Array Value) (n c g : Nat) (hg : g = w.heap.size) => Joins.run_convert_bytes_const_at (P := Try.prog) w 24 5 C n c g hg Try.underlying24 Try.underlying5
  have HR := Lib.hid hR; clear hR
  have HS := Lib.hid hs; clear hs
  have HP := Lib.hid hp; clear hp
  have HK := Lib.hid hk; clear hk
  obtain ⟨W0, hW0⟩ : ∃ W, W = w.alloc (.cells #[.int .u8 116, .int .u8 111, .int .u8 109, .int .u8 101, .int .u8 32, .int .u8 106, .int .u8 110, .int .u8 108] 5 (8, 9)) := ⟨_, rfl⟩
  have hB0 : Below w.heap.size w W0 := by rw [hW0]; exact (Below.refl _ _).alloc (Nat.le_refl _) _
  have HL := Lib.hid (show Rd W0 (some ⟨w.heap.size, 0, none⟩) jsign by rw [hW0]; exact Rd.lit (heap_alloc_new w _) rfl)
  have HW := Lib.hid hW0; clear hW0
  go_enter Try.func48, Try.ntmps48
  go_wp2_with fail
  rw [← HW.out]
  clear HW kc
  refine (fixed_put _ s 4 HS.out.1 HS.out.2 (by decide) (by decide)).mono ?_
  rintro e w1 ⟨A1, c1, rfl, hown1, hb1⟩
  have HO1 := Lib.hid hown1; clear hown1
  have hB1 := hB0.trans (hb1.mono hB0.size)
  have HL1 := Lib.hid (HL.out.keep hb1); clear HL hb1
  go_wp2_with fail
  refine (fixed_put _ p 4 HP.out.1 HP.out.2 (by decide) (by decide)).mono ?_
  rintro e w2 ⟨A2, c2, rfl, hown2, hb2⟩
  have HO2 := Lib.hid hown2; clear hown2
  have hB2 := hB1.trans (hb2.mono hB1.size)
  have HL2 := Lib.hid (HL1.out.keep hb2); clear HL1
  have HO12 := Lib.hid (HO1.out.keep hb2); clear HO1 hb2
  go_wp2_with fail
  refine (fixed_put _ k 8 HK.out.1 HK.out.2 (by decide) (by decide)).mono ?_
  rintro e w3 ⟨A3, c3, rfl, hown3, hb3⟩
  have HO3 := Lib.hid hown3; clear hown3
  have hB3 := hB2.trans (hb3.mono hB2.size)
  have HL3 := Lib.hid (HL2.out.keep hb3); clear HL2
  have HO13 := Lib.hid (HO12.out.keep hb3); clear HO12
  have HO23 := Lib.hid (HO2.out.keep hb3); clear HO2 hb3
  go_wp2_with fail
  refine (join_any _ _ 4 4 [jsign, fxL s 4, fxL p 4, fxL k 8] rfl (by decide) (Nat.le_refl _) (by decide) (rows4 _ _ rfl (Nat.le_refl 8) (by decide) HL3.out (fxL_length _ _) HO13.out.cap.1 HO13.out.cap.2 HO13.out.rd (fxL_length _ _) HO23.out.cap.1 HO23.out.cap.2 HO23.out.rd (fxL_length _ _) HO3.out.cap.1 HO3.out.cap.2 HO3.out.rd) (by simp [fxL_length, jsign])).mono ?_
  rintro e w4 hf
  obtain ⟨g, nj, rfl, hnj, hmj, hrd, hb4⟩ := fresh_rd hf
  have hfl : [jsign, fxL s 4, fxL p 4, fxL k 8].flatten = startB s p k := by simp [startB]
  rw [hfl] at hnj hrd
  rw [startB_length] at hnj
  subst hnj
  have hB4 : Below w.heap.size w w4 := (hB3.alloc hB3.size _).trans (hb4.mono (by simp; have := hB3.size; omega))
  have HRD := Lib.hid hrd; clear hrd hf hb4 hfl
  go_wp2_with fail
  refine (sum1_any _ w4.heap.size _ 24 24 (startB s p k) (startB_length s p k) (by simp [go_sem]) (Nat.le_refl _) (by decide) (HRD.out.keep ((Below.refl _ _).alloc (Nat.le_refl _) _)) (startB_isB s p k)).mono ?_
  rintro e w5 ⟨rfl, hb5⟩
  have hB5 : Below w.heap.size w w5 := (hB4.alloc hB4.size _).trans (hb5.mono (by simp; have := hB4.size; omega))
  have HRD5 := Lib.hid ((HRD.out.keep ((Below.refl _ _).alloc (Nat.le_refl _) _)).keep hb5); clear HRD hb5
  obtain ⟨y0, y1⟩ := sumI_bd (startB s p k)
  have hhead : startH s p k = startB s p k ++ fxL (sumI (startB s p k)) 4 := rfl
  obtain ⟨y, hy⟩ : ∃ y, y = sumI (startB s p k) := ⟨_, rfl⟩
  rw [← hy] at y0 y1 hhead ⊢
  have HH := Lib.hid hhead; clear hhead hy
  have hwy : IntKind.u64.wrap y = y := IntWalk.u64_in _ (by omega)
  go_wp2_with fail
  refine (fixed_put _ y 4 y0 (by omega) (by decide) (by decide)).mono ?_
  rintro e w6 ⟨A6, c6, rfl, hown6, hb6⟩
  have HO6 := Lib.hid hown6; clear hown6
  have hB6 := hB5.trans (hb6.mono hB5.size)
  have HRD6 := Lib.hid (HRD5.out.keep hb6); clear HRD5 hb6
  go_wp2_with fail
  refine (join_any _ _ 2 2 [startB s p k, fxL y 4] rfl (by decide) (Nat.le_refl _) (by decide) (rows2 _ _ (startB_length _ _ _) (Nat.le_refl 24) (by decide) HRD6.out (fxL_length _ _) HO6.out.cap.1 HO6.out.cap.2 HO6.out.rd) (by simp [fxL_length, startB_length])).mono ?_
  rintro e w7 hf
  have hfl := fresh_lift hf (hB6.alloc hB6.size _) (show [startB s p k, fxL y 4].flatten = startH s p k by rw [HH.out]; simp)
  have HF := Lib.hid hfl; clear hfl
  obtain ⟨g7, n7, rfl, hrest⟩ := hf
  clear hrest
  go_wp2
  rw [HR.out]
  exact HF.out
end
section
open Go.RowKit
set_option maxRecDepth 100000
def okStart (s p : Int) : Prop := isSize s ∧ 0 ≤ p ∧ p ≤ 1048576 ∧ s * p ≤ 16777216
instance (s p : Int) : Decidable (okStart s p) := by unfold okStart; infer_instance
def startL (s p k : Int) : List Int := if okStart s p then startH s p k else []
def startE (s p : Int) : Int := if okStart s p then 0 else 1
/-- Bytes that may be read, in memory of the call's own, beside an error. -/
def PairBack (w : World) (l : List Int) (z : Int) (e : Ending) (w' : World) : Prop :=
  ∃ A n c, e = .returned (.tuple #[.slice A n c, .int .i64 z]) ∧ l.length = n ∧ n ≤ c ∧ c ≤ maxLen ∧ Rd w' A l ∧ Below w.heap.size w w'

set_option maxHeartbeats 4000000 in
theorem jStart_any0 (w : World) (s p k : Int) (hs : i64ok s) (hp : i64ok p) (hk : 0 ≤ k ∧ k ≤ 18446744073709551615) (R : Ending → World → Prop) (hR : R = PairBack w (startL s p k) (startE s p)) :
    Calls Try.prog 25 #[.int .i64 s, .int .i64 p, .int .u64 k] w R := by
  have HR := Lib.hid hR; clear hR
  have HK := Lib.hid hk; clear hk
  have hs' := hs
  unfold i64ok at hs' hp
  by_cases hg : okStart s p
  · have HG := Lib.hid hg
    obtain ⟨g1, g2, g3, g4⟩ := hg
    have hsb : 256 ≤ s ∧ s ≤ 4096 := by unfold isSize at g1; omega
    have HD := Lib.hid (decide_eq_true g1)
    have hm0 : 0 ≤ s * p := Int.mul_nonneg (by omega) g2
    have hmul : IntKind.i64.wrap (s * p) = s * p := IntWalk.i64_in _ (by omega)
    have hws : IntKind.u64.wrap s = s := IntWalk.u64_in _ (by omega)
    have hwp : IntKind.u64.wrap p = p := IntWalk.u64_in _ (by omega)
    clear g1 hm0
    go_enter Try.func25, Try.ntmps25
    go_wp2_with fail
    refine (jright_any _ s hs).mono ?_
    rintro e w1 ⟨rfl, rfl⟩
    simp only [HD.out]
    go_wp2_with fail
    refine (jstart_any _ s p k (by omega) (by omega) HK.out _ rfl).mono ?_
    rintro e w2 hf
    obtain ⟨g, n, rfl, h1, h2, h3, h4⟩ := fresh_rd hf
    have HF := Lib.hid h3; clear h3 hf
    have HE := Lib.hid (show startL s p k = startH s p k from if_pos HG.out)
    have HE2 := Lib.hid (show startE s p = 0 from if_pos HG.out)
    go_wp2
    rw [HR.out]
    exact ⟨_, _, _, by rw [HE2.out]; rfl, by rw [HE.out]; exact h1, Nat.le_refl _, h2, by rw [HE.out]; exact HF.out, h4⟩
  · have HE := Lib.hid (show startL s p k = [] from if_neg hg)
    have HE2 := Lib.hid (show startE s p = 1 from if_neg hg)
    by_cases g1 : isSize s
    · have hsb : 256 ≤ s ∧ s ≤ 4096 := by unfold isSize at g1; omega
      have HD := Lib.hid (decide_eq_true g1)
      by_cases g2 : p < 0
      · clear hg g1
        go_enter Try.func25, Try.ntmps25
        go_wp2_with fail
        refine (jright_any _ s hs).mono ?_
        rintro e w1 ⟨rfl, rfl⟩
        simp only [HD.out]
        go_wp2
        rw [HR.out]
        exact ⟨none, 0, 0, by rw [HE2.out]; rfl, by rw [HE.out]; rfl, Nat.le_refl _, by decide, by rw [HE.out]; exact .inl rfl, Below.refl _ _⟩
      · by_cases g3 : 1048576 < p
        · clear hg g1
          go_enter Try.func25, Try.ntmps25
          go_wp2_with fail
          refine (jright_any _ s hs).mono ?_
          rintro e w1 ⟨rfl, rfl⟩
          simp only [HD.out]
          go_wp2
          rw [HR.out]
          exact ⟨none, 0, 0, by rw [HE2.out]; rfl, by rw [HE.out]; rfl, Nat.le_refl _, by decide, by rw [HE.out]; exact .inl rfl, Below.refl _ _⟩
        · have hm : 16777216 < s * p := by
            by_cases h : 16777216 < s * p
            · exact h
            · exact absurd ⟨g1, by omega, by omega, by omega⟩ hg
          have hm2 : s * p ≤ 4096 * 1048576 := Int.mul_le_mul hsb.2 (by omega) (by omega) (by decide)
          have hmul : IntKind.i64.wrap (s * p) = s * p := IntWalk.i64_in _ (by omega)
          clear hg g1 hm2
          go_enter Try.func25, Try.ntmps25
          go_wp2_with fail
          refine (jright_any _ s hs).mono ?_
          rintro e w1 ⟨rfl, rfl⟩
          simp only [HD.out]
          go_wp2
          rw [HR.out]
          exact ⟨none, 0, 0, by rw [HE2.out]; rfl, by rw [HE.out]; rfl, Nat.le_refl _, by decide, by rw [HE.out]; exact .inl rfl, Below.refl _ _⟩
    · have HD := Lib.hid (decide_eq_false g1)
      clear hg g1
      go_enter Try.func25, Try.ntmps25
      go_wp2_with fail
      refine (jright_any _ s hs).mono ?_
      rintro e w1 ⟨rfl, rfl⟩
      simp only [HD.out]
      go_wp2
      rw [HR.out]
      exact ⟨none, 0, 0, by rw [HE2.out]; rfl, by rw [HE.out]; rfl, Nat.le_refl _, by decide, by rw [HE.out]; exact .inl rfl, Below.refl _ _⟩
theorem jStart_any (w : World) (s p k : Int) (hs : i64ok s) (hp : i64ok p) (hk : 0 ≤ k ∧ k ≤ 18446744073709551615) :
    Calls Try.prog 25 #[.int .i64 s, .int .i64 p, .int .u64 k] w (PairBack w (startL s p k) (startE s p)) := jStart_any0 w s p k hs hp hk _ rfl
end
section
open Go.RowKit
set_option maxRecDepth 100000
def entB (pg : Int) (l : List Int) : List Int := fxL pg 4 ++ l
def entH (k pg : Int) (l : List Int) : List Int := entB pg l ++ fxL (sumI (fxL k 8 ++ entB pg l)) 4
def okEnt (pg cm : Int) (n : Nat) : Prop := 1 ≤ pg ∧ pg ≤ 1048576 ∧ cm = 0 ∧ isSize (n : Int)
instance (pg cm : Int) (n : Nat) : Decidable (okEnt pg cm n) := by unfold okEnt; infer_instance
def entL (k pg cm : Int) (l : List Int) : List Int := if okEnt pg cm l.length then entH k pg l else []
def entE (pg cm : Int) (n : Nat) : Int := if okEnt pg cm n then 0 else 1
theorem entB_isB {pg : Int} {l : List Int} (h : IsB l) : IsB (entB pg l) := isB_append (fxL_isB _ _) h
theorem entB_length (pg : Int) (l : List Int) : (entB pg l).length = 4 + l.length := by simp [entB, fxL_length]
theorem entH_length (k pg : Int) (l : List Int) : (entH k pg l).length = 8 + l.length := by simp [entH, entB_length, fxL_length]; omega
theorem entH_isB {k pg : Int} {l : List Int} (h : IsB l) : IsB (entH k pg l) := isB_append (entB_isB h) (fxL_isB _ _)

theorem jfoot_any (w : World) (k : Int) (A : Option Addr) (n c : Nat) (l : List Int) (hk : 0 ≤ k ∧ k ≤ 18446744073709551615) (hn : l.length = n) (hnc : n ≤ c) (hcm : c ≤ maxLen) (hA : Rd w A l) (hB : IsB l) (R : Ending → World → Prop)
    (hR : R = fun e w' => ∃ A c, e = .returned (.slice A 4 c) ∧ OwnB w' w.heap.size A 4 c (fxL (sumI (fxL k 8 ++ l)) 4) ∧ Below w.heap.size w w') :
    Calls Try.prog 46 #[.int .u64 k, .slice A n c] w R := by
  have HR := Lib.hid hR; clear hR
  have HN := Lib.hid hn; clear hn
  have HA := Lib.hid hA; clear hA
  have HB := Lib.hid hB; clear hB
  go_enter Try.func46, Try.ntmps46
  go_wp2_with fail
  refine (fixed_put _ k 8 hk.1 hk.2 (by decide) (by decide)).mono ?_
  rintro e w1 ⟨A1, c1, rfl, hown1, hb1⟩
  have HO1 := Lib.hid hown1; clear hown1
  go_wp2_with fail
  have hrows := rows2 (w := w1) 24 (0, 0) (fxL_length k 8) HO1.out.cap.1 HO1.out.cap.2 HO1.out.rd HN.out hnc hcm (HA.out.keep hb1)
  refine (sum_any _ _ 2 [fxL k 8, l] hrows (by simp [maxLen]) (by
    intro x hx
    simp only [List.mem_cons, List.not_mem_nil, or_false] at hx
    rcases hx with rfl | rfl
    · exact fxL_isB _ _
    · exact HB.out)).mono ?_
  rintro e w2 ⟨rfl, hb2⟩
  have hB2 : Below w.heap.size w w2 := (hb1.alloc hb1.size _).trans (hb2.mono (by simp; have := hb1.size; omega))
  clear hb2 hrows
  have hfl : [fxL k 8, l].flatten = fxL k 8 ++ l := by simp
  rw [hfl]
  clear hfl
  obtain ⟨y0, y1⟩ := sumI_bd (fxL k 8 ++ l)
  obtain ⟨y, hy⟩ : ∃ y, y = sumI (fxL k 8 ++ l) := ⟨_, rfl⟩
  rw [← hy] at y0 y1 ⊢
  have HY := Lib.hid hy; clear hy
  have hwy : IntKind.u64.wrap y = y := IntWalk.u64_in _ (by omega)
  go_wp2_with fail
  refine (fixed_put _ y 4 y0 (by omega) (by decide) (by decide)).mono ?_
  rintro e w3 ⟨A3, c3, rfl, hown3, hb3⟩
  have HO3 := Lib.hid hown3; clear hown3
  go_wp2
  rw [HR.out]
  exact ⟨A3, c3, rfl, by rw [← HY.out]; exact HO3.out.mono hB2.size, hB2.trans (hb3.mono hB2.size)⟩

theorem jEntry_no (w : World) (k pg cm : Int) (A : Option Addr) (n c : Nat) (l : List Int) (hpg : i64ok pg) (hcm' : i64ok cm) (hn : l.length = n) (hnc : n ≤ c) (hcm : c ≤ maxLen) (hno : ¬ okEnt pg cm n) (R : Ending → World → Prop) (hR : R = PairBack w (entL k pg cm l) (entE pg cm n)) :
    Calls Try.prog 26 #[.int .u64 k, .agg #[.int .i64 pg, .int .i64 cm, .slice A n c]] w R := by
  have HE := Lib.hid (show entL k pg cm l = [] from if_neg (by rw [hn]; exact hno))
  have HE2 := Lib.hid (show entE pg cm n = 1 from if_neg hno)
  have hend : ∀ w', Below w.heap.size w w' → R (.returned (.tuple #[.slice none 0 0, .int .i64 1])) w' := by
    intro w' hb
    rw [hR]
    exact ⟨none, 0, 0, by rw [HE2.out], by rw [HE.out]; rfl, Nat.le_refl _, by decide, by rw [HE.out]; exact .inl rfl, hb⟩
  have HEND := Lib.hid hend; clear hend hR
  unfold maxLen at hcm
  unfold i64ok at hpg hcm'
  have hbx : ∀ o, Below w.heap.size w (w.alloc o) := fun o => (Below.refl _ _).alloc (Nat.le_refl _) _
  have HBX := Lib.hid hbx; clear hbx
  by_cases h1 : pg < 1
  · clear hno
    go_enter Try.func26, Try.ntmps26
    go_wp2
    exact HEND.out _ (HBX.out _)
  · by_cases h2 : 1048576 < pg
    · clear hno
      go_enter Try.func26, Try.ntmps26
      go_wp2
      exact HEND.out _ (HBX.out _)
    · by_cases h3 : cm = 0
      · subst h3
        have g1 : ¬ isSize (n : Int) := fun h => hno ⟨by omega, by omega, rfl, h⟩
        have HD := Lib.hid (decide_eq_false g1)
        clear hno g1
        go_enter Try.func26, Try.ntmps26
        go_wp2_with fail
        refine (jright_any _ (n : Int) (by unfold i64ok; omega)).mono ?_
        rintro e w1 ⟨rfl, rfl⟩
        simp only [HD.out]
        go_wp2
        exact HEND.out _ (HBX.out _)
      · have h4 : (cm != 0) = true := by simp [h3]
        clear hno
        go_enter Try.func26, Try.ntmps26
        go_wp2
        exact HEND.out _ (HBX.out _)

set_option maxHeartbeats 4000000 in
theorem jEntry_ok (w : World) (k pg : Int) (A : Option Addr) (n c : Nat) (l : List Int) (hk : 0 ≤ k ∧ k ≤ 18446744073709551615) (hn : l.length = n) (hnc : n ≤ c) (hcm : c ≤ maxLen) (hA : Rd w A l) (hB : IsB l) (hok : okEnt pg 0 n) (R : Ending → World → Prop) (hR : R = PairBack w (entL k pg 0 l) (entE pg 0 n)) :
    Calls Try.prog 26 #[.int .u64 k, .agg #[.int .i64 pg, .int .i64 0, .slice A n c]] w R := by
  have HR := Lib.hid hR; clear hR
  have HE := Lib.hid (show entL k pg 0 l = entH k pg l from if_pos (by rw [hn]; exact hok))
  have HE2 := Lib.hid (show entE pg 0 n = 0 from if_pos hok)
  have HK := Lib.hid hk; clear hk
  have HN := Lib.hid hn; clear hn
  have HA := Lib.hid hA; clear hA
  have HB := Lib.hid hB; clear hB
  have HCM := Lib.hid hcm
  obtain ⟨p1, p2, _, g1⟩ := hok
  have HD := Lib.hid (decide_eq_true g1)
  have hn4 : n ≤ 4096 := by unfold isSize at g1; omega
  clear g1
  have hwp : IntKind.u64.wrap pg = pg := IntWalk.u64_in _ (by omega)
  obtain ⟨W0, hW0⟩ : ∃ W, W = w.alloc (.cells #[.int .i64 pg, .int .i64 0, .slice A n c] 53) := ⟨_, rfl⟩
  have hB0 : Below w.heap.size w W0 := by rw [hW0]; exact (Below.refl _ _).alloc (Nat.le_refl _) _
  have hz0 : W0.heap.size = w.heap.size + 1 := by rw [hW0]; simp
  have c0 : W0.cell? ⟨w.heap.size, 0, none⟩ = some (.int .i64 pg) := by rw [hW0]; simp [go_sem]
  have c2 : W0.cell? ⟨w.heap.size, 2, none⟩ = some (.slice A n c) := by rw [hW0]; simp [go_sem]
  have HW := Lib.hid hW0; clear hW0
  unfold maxLen at hcm
  go_enter Try.func26, Try.ntmps26
  go_wp2_with fail
  refine (jright_any _ (n : Int) (by unfold i64ok; omega)).mono ?_
  rintro e w1 ⟨rfl, rfl⟩
  simp only [HD.out]
  go_upto_region 3 with fail
  rw [← HW.out]
  clear HW
  go_region_with (first
    | (go_at_call 50; refine (fixed_put _ pg 4 (by omega) (by omega) (by decide) (by decide)).mono ?_; rintro e w1 ⟨A1, c1, rfl, hown1, hb1⟩; (have hb1' : Below W0.heap.size W0 w1 := ((Below.refl _ W0).drew).trans hb1); clear hb1; (have k2 := (hb1'.cell (by show w.heap.size < _; omega)).trans c2); (have HO1 := Lib.hid hown1); clear hown1)
    | (go_at_call 49; refine (join_any _ _ 2 2 [fxL pg 4, l] rfl (by decide) (Nat.le_refl _) (by decide) (rows2 _ _ (fxL_length _ _) HO1.out.cap.1 HO1.out.cap.2 HO1.out.rd HN.out hnc HCM.out ((HA.out.keep hB0).keep hb1')) (by simp [fxL_length, HN.out]; omega)).mono ?_; rintro e w2 hf; obtain ⟨g, nj, rfl, hnj, hmj, hrd, hb2⟩ := fresh_rd hf; clear hf))
  all_goals
    have hfl : [fxL pg 4, l].flatten = entB pg l := by simp [entB]
    rw [hfl] at hnj hrd
    rw [entB_length, HN.out] at hnj
    subst hnj
    have hB1 : Below w.heap.size w w1 := hB0.trans (hb1'.mono hB0.size)
    have hB2 : Below w.heap.size w w2 := (hB1.alloc hB1.size _).trans (hb2.mono (by simp; have := hB1.size; omega))
    have HRD := Lib.hid hrd
    clear hrd hb2 hfl
    go_wp2_with fail
    refine (jfoot_any _ k _ (4 + n) (4 + n) (entB pg l) HK.out (by rw [entB_length, HN.out]) (Nat.le_refl _) hmj HRD.out (entB_isB HB.out) _ rfl).mono ?_
    rintro e w3 ⟨A3, c3, rfl, hown3, hb3⟩
    have hB3 := hB2.trans (hb3.mono hB2.size)
    have HO3 := Lib.hid hown3
    have HRD3 := Lib.hid (HRD.out.keep hb3)
    clear hown3 hb3 HRD
    go_wp2_with fail
    refine (join_any _ _ 2 2 [entB pg l, fxL (sumI (fxL k 8 ++ entB pg l)) 4] rfl (by decide) (Nat.le_refl _) (by decide) (rows2 _ _ (by rw [entB_length, HN.out]) (Nat.le_refl _) hmj HRD3.out (fxL_length _ _) HO3.out.cap.1 HO3.out.cap.2 HO3.out.rd) (by simp [fxL_length, entB_length, HN.out]; omega)).mono ?_
    rintro e w4 hf
    have hfr := fresh_lift hf (hB3.alloc hB3.size _) (show [entB pg l, fxL (sumI (fxL k 8 ++ entB pg l)) 4].flatten = entH k pg l by simp [entH])
    have HF := Lib.hid hfr
    obtain ⟨g7, n7, rfl, hrest⟩ := hf
    clear hrest hfr
    go_wp2
    obtain ⟨g8, n8, he8, h1, h2, h3, h4⟩ := fresh_rd HF.out
    rw [HR.out]
    injection he8 with he8
    injection he8 with e1 e2 e3
    subst e2
    refine ⟨_, _, _, by rw [HE2.out]; rfl, by rw [HE.out]; exact h1, Nat.le_refl _, h2, by rw [HE.out, e1]; exact h3, h4⟩
end
section
open Go.RowKit
set_option maxRecDepth 100000
theorem jEntry_any (w : World) (k pg cm : Int) (A : Option Addr) (n c : Nat) (l : List Int) (hk : 0 ≤ k ∧ k ≤ 18446744073709551615) (hpg : i64ok pg) (hcm' : i64ok cm) (hn : l.length = n) (hnc : n ≤ c) (hcm : c ≤ maxLen) (hA : Rd w A l) (hB : IsB l) :
    Calls Try.prog 26 #[.int .u64 k, .agg #[.int .i64 pg, .int .i64 cm, .slice A n c]] w (PairBack w (entL k pg cm l) (entE pg cm n)) := by
  by_cases h : okEnt pg cm n
  · obtain rfl : cm = 0 := h.2.2.1
    exact jEntry_ok w k pg A n c l hk hn hnc hcm hA hB h _ rfl
  · exact jEntry_no w k pg cm A n c l hpg hcm' hn hnc hcm h _ rfl
end
section
open Go.RowKit
set_option maxRecDepth 100000
theorem results_tmp4 {fn : Func} {t u v x : Tmp} (h : fn.results = #[.tmp t, .tmp u, .tmp v, .tmp x]) (tmps : Array Value) (P : Program) (w : World) :
    (results fn tmps).run P w = .ok (.tuple #[tmps.getD t undef, tmps.getD u undef, tmps.getD v undef, tmps.getD x undef]) w := by
  simp [results, h]

theorem scan_short (w : World) (A : Option Addr) (n c : Nat) (hs : n < 28) :
    Calls Try.prog 22 #[.slice A n c] w fun e w' => e = .returned (.tuple #[.int .i64 0, .int .i64 0, .slice none 0 0, .int .i64 6]) ∧ w = w' := by
  go_enter Try.func22, Try.ntmps22
  go_wp2
  go_step3
  go_wp2
  rw [Exit.noGoto_ret]
  go_step
  refine bodyPost_ret (results_tmp4 rfl _ _ _) rfl ?_
  exact ⟨rfl, rfl⟩

theorem jsign_const : (strOfNums jsign).toList = ([116, 111, 109, 101, 32, 106, 110, 108] : List UInt8) := by decide +kernel
theorem read_at (l : List Int) (p k : Nat) (v : Int) (hp : p + k ≤ l.length) (h1 : 1 ≤ k) (h8 : k ≤ 8) (h : beI ((l.drop p).take k) = v) : readL l (p : Int) (k : Int) = (v, 0) := by
  rw [readL_ok h1 h8 hp, h]
end
section
open Go.RowKit
set_option maxRecDepth 100000
def eightI (b : List Int) (p : Nat) : Int := beI ((b.drop p).take 8)
theorem eight_bd {b : List Int} (hB : IsB b) (p : Nat) : 0 ≤ eightI b p ∧ eightI b p ≤ 18446744073709551615 := by
  have h := beI_lt (l := (b.drop p).take 8) (fun x hx => hB x (List.mem_of_mem_drop (List.mem_of_mem_take hx))) 8 (by simp; omega)
  have e : (256 : Int) ^ 8 = 18446744073709551616 := by decide
  unfold eightI; rw [e] at h; omega
def okFr (k : Int) (s : Nat) (t : List Int) : Prop := 1 ≤ fourI t 0 ∧ fourI t 0 ≤ 1048576 ∧ fxL (sumI (fxL k 8 ++ t.take (4 + s))) 4 = (t.drop (4 + s)).take 4
instance (k : Int) (s : Nat) (t : List Int) : Decidable (okFr k s t) := by unfold okFr; infer_instance
def frsL (k : Int) (s : Nat) (t : List Int) : List Fr :=
  if h : t.length < s + 8 then [] else if okFr k s t then ⟨fourI t 0, 0, (t.drop 4).take s⟩ :: frsL k s (t.drop (s + 8)) else []
termination_by t.length
decreasing_by simp; omega
theorem frs_end {k : Int} {s : Nat} {t : List Int} (h : t.length < s + 8) : frsL k s t = [] := by rw [frsL, dif_pos h]
theorem frs_stop {k : Int} {s : Nat} {t : List Int} (h : ¬ okFr k s t) : frsL k s t = [] := by
  rw [frsL]
  split
  · rfl
  · first | rfl | rw [if_neg h]
theorem frs_step {k : Int} {s : Nat} {t : List Int} (h : ¬ t.length < s + 8) (ho : okFr k s t) : frsL k s t = ⟨fourI t 0, 0, (t.drop 4).take s⟩ :: frsL k s (t.drop (s + 8)) := by rw [frsL, dif_neg h, if_pos ho]
def hdOk (b : List Int) : Prop := okStart (fourI b 8) (fourI b 12) ∧ startH (fourI b 8) (fourI b 12) (eightI b 16) = b.take 28
instance (b : List Int) : Decidable (hdOk b) := by unfold hdOk; infer_instance
structure Jr where
  (s p : Int)
  k : Int
  F : List Fr
  e : Int
def jr0 (e : Int) : Jr := ⟨0, 0, 0, [], e⟩
def scanL (b : List Int) : Jr := if b.length < 28 then jr0 6 else if b.take 8 ≠ jsign then jr0 8 else if hdOk b then ⟨fourI b 8, fourI b 12, eightI b 16, frsL (eightI b 16) (fourI b 8).toNat (b.drop 28), 0⟩ else jr0 14
def ScanBack (w : World) (l : List Int) (e : Ending) (w' : World) : Prop :=
  ∃ A m c, e = .returned (.tuple #[.int .i64 (scanL l).s, .int .i64 (scanL l).p, .slice A m c, .int .i64 (scanL l).e]) ∧ (scanL l).F.length = m ∧ m ≤ maxLen ∧ RdFr w' A (scanL l).F ∧ Below w.heap.size w w'

theorem scan_sign (w : World) (A : Option Addr) (n c : Nat) (l : List Int) (hn : l.length = n) (hnc : n ≤ c) (hA : Rd w A l) (hB : IsB l) (h28 : 28 ≤ n) (hs : l.take 8 ≠ jsign) :
    Calls Try.prog 22 #[.slice A n c] w fun e w' => e = .returned (.tuple #[.int .i64 0, .int .i64 0, .slice none 0 0, .int .i64 8]) ∧ w = w' := by
  have hs1 := run_str w A 8 c (l.take 8) (by rw [List.length_take, hn]; omega) (rd_take hA 8)
  have hcmp : ((strOfNums (l.take 8)).toList == ([116, 111, 109, 101, 32, 106, 110, 108] : List UInt8)) = false := by
    rw [← jsign_const, str_beq (isB_take hB 8) jsign_isB, beqL_no]
    exact hs
  obtain ⟨b, off, rfl, _, hcells⟩ := hA.at (by rw [hn]; omega)
  clear hcells hA hs hn
  have hc8 : 8 ≤ c := by omega
  go_enter Try.func22, Try.ntmps22
  go_wp2
  go_step3
  go_wp2
  rw [Exit.noGoto_ret]
  go_step
  refine bodyPost_ret (results_tmp4 rfl _ _ _) rfl ?_
  exact ⟨rfl, rfl⟩

set_option maxHeartbeats 8000000 in
theorem scan_bad (w : World) (A : Option Addr) (n c : Nat) (l : List Int) (hn : l.length = n) (hnc : n ≤ c) (hcm : c ≤ maxLen) (hA : Rd w A l) (hB : IsB l) (h28 : 28 ≤ n) (hs : l.take 8 = jsign) (hno : ¬ hdOk l) (R : Ending → World → Prop)
    (hR : R = fun e w' => e = .returned (.tuple #[.int .i64 0, .int .i64 0, .slice none 0 0, .int .i64 14]) ∧ Below w.heap.size w w') :
    Calls Try.prog 22 #[.slice A n c] w R := by
  have HR := Lib.hid hR; clear hR
  have hs1 := run_str w A 8 c (l.take 8) (by rw [List.length_take, hn]; omega) (rd_take hA 8)
  rw [hs] at hs1
  have hcmp : ((strOfNums jsign).toList == ([116, 111, 109, 101, 32, 106, 110, 108] : List UInt8)) = true := by
    rw [jsign_const]; rfl
  obtain ⟨b, off, rfl, _, hcells⟩ := hA.at (by rw [hn]; omega)
  clear hcells hs
  have hc8 : 8 ≤ c := by omega
  have hc28 : 28 ≤ c := by omega
  have HN := Lib.hid hn; clear hn
  have HA := Lib.hid hA; clear hA
  have HB := Lib.hid hB; clear hB
  have HC := Lib.hid hcm
  have HNO := Lib.hid hno; clear hno
  obtain ⟨s0, s1⟩ := four_bd HB.out 8
  obtain ⟨p0, p1⟩ := four_bd HB.out 12
  obtain ⟨k0, k1⟩ := eight_bd HB.out 16
  have r1 := read_at l 8 4 (fourI l 8) (by rw [HN.out]; omega) (by decide) (by decide) rfl
  have r2 := read_at l 12 4 (fourI l 12) (by rw [HN.out]; omega) (by decide) (by decide) rfl
  have r3 := read_at l 16 8 (eightI l 16) (by rw [HN.out]; omega) (by decide) (by decide) rfl
  have HR1 := Lib.hid r1; clear r1
  have HR2 := Lib.hid r2; clear r2
  have HR3 := Lib.hid r3; clear r3
  have hws : IntKind.i64.wrap (fourI l 8) = fourI l 8 := IntWalk.i64_in _ (by omega)
  have hwp : IntKind.i64.wrap (fourI l 12) = fourI l 12 := IntWalk.i64_in _ (by omega)
  go_enter Try.func22, Try.ntmps22
  go_wp2_with fail
  go_step3
  go_wp2_with fail
  refine (read_any _ _ n c l 8 4 HN.out hnc hcm HA.out HB.out (by omega)).mono ?_
  rintro e w1 ⟨rfl, rfl⟩
  simp only [show readL l 8 4 = (fourI l 8, 0) from HR1.out]
  go_wp2_with fail
  refine (read_any _ _ n c l 12 4 HN.out hnc HC.out HA.out HB.out (by omega)).mono ?_
  rintro e w1 ⟨rfl, rfl⟩
  simp only [show readL l 12 4 = (fourI l 12, 0) from HR2.out]
  go_wp2_with fail
  refine (read_any _ _ n c l 16 8 HN.out hnc HC.out HA.out HB.out (by omega)).mono ?_
  rintro e w1 ⟨rfl, rfl⟩
  simp only [show readL l 16 8 = (eightI l 16, 0) from HR3.out]
  go_wp2_with fail
  refine (jStart_any _ (fourI l 8) (fourI l 12) (eightI l 16) (by unfold i64ok; omega) (by unfold i64ok; omega) (by omega)).mono ?_
  rintro e w2 ⟨A2, n2, c2, rfl, h1, h2, h3, h4, h5⟩
  clear hs1 hcmp
  by_cases ho : okStart (fourI l 8) (fourI l 12)
  · have hst : startL (fourI l 8) (fourI l 12) (eightI l 16) = startH (fourI l 8) (fourI l 12) (eightI l 16) := if_pos ho
    have hse : startE (fourI l 8) (fourI l 12) = 0 := if_pos ho
    rw [hst] at h1 h4
    have hne : startH (fourI l 8) (fourI l 12) (eightI l 16) ≠ l.take 28 := fun e => HNO.out ⟨ho, e⟩
    have HX := Lib.hid (startH_isB (fourI l 8) (fourI l 12) (eightI l 16))
    generalize startH (fourI l 8) (fourI l 12) (eightI l 16) = X at h1 h4 hne HX
    simp only [hse]
    have hs2 := fun k => run_str (w2.drewN k) A2 n2 c2 X h1 (h4.keep (below_drewN (Below.refl _ _) k))
    have hs3 := fun k => run_str (w2.drewN k) (some ⟨b, off, none⟩) 28 c (l.take 28) (by rw [List.length_take, HN.out]; omega) (rd_take ((HA.out.keep h5).keep (below_drewN (Below.refl _ _) k)) 28)
    have hcm2 : ((strOfNums X).toList == (strOfNums (l.take 28)).toList) = false := by
      rw [str_beq HX.out (isB_take HB.out 28), beqL_no]
      exact hne
    have HB2 := Lib.hid h5; clear h5 h4 h1 hne hst hse ho
    go_upto_region 9 with fail
    go_quiet (fail)
    clear hs2 hs3
    go_wp2
    rw [Exit.noGoto_ret]
    refine bodyPost_ret (results_tmp4 rfl _ _ _) rfl ?_
    rw [HR.out]
    exact ⟨rfl, below_drewN HB2.out nq⟩
  · have hse : startE (fourI l 8) (fourI l 12) = 1 := if_neg ho
    simp only [hse]
    have HB2 := Lib.hid h5; clear h5 h4 h1 hse ho
    go_upto_region 9 with fail
    go_quiet (fail)
    go_wp2
    rw [Exit.noGoto_ret]
    refine bodyPost_ret (results_tmp4 rfl _ _ _) rfl ?_
    rw [HR.out]
    exact ⟨rfl, below_drewN HB2.out nq⟩
end
section
open Go.RowKit
set_option maxRecDepth 100000
def okF (s : Nat) (f : Fr) : Prop := 1 ≤ f.pg ∧ f.pg ≤ 1048576 ∧ f.cm = 0 ∧ f.b.length = s ∧ IsB f.b
def entsL (k : Int) : List Fr → List Int
  | [] => []
  | f :: F => entH k f.pg f.b ++ entsL k F
theorem entsL_append (k : Int) (F G : List Fr) : entsL k (F ++ G) = entsL k F ++ entsL k G := by
  induction F with
  | nil => rfl
  | cons f F ih => simp [entsL, ih]
theorem entsL_isB {k : Int} {s : Nat} {F : List Fr} (h : ∀ f ∈ F, okF s f) : IsB (entsL k F) := by
  induction F with
  | nil => intro x hx; simp [entsL] at hx
  | cons f F ih => exact isB_append (entH_isB (h f (List.mem_cons_self ..)).2.2.2.2) (ih fun g hg => h g (List.mem_cons_of_mem _ hg))
theorem entsL_length {k : Int} {s : Nat} {F : List Fr} (h : ∀ f ∈ F, okF s f) : (entsL k F).length = F.length * (s + 8) := by
  induction F with
  | nil => simp [entsL]
  | cons f F ih =>
    rw [entsL, List.length_append, ih fun g hg => h g (List.mem_cons_of_mem _ hg), entH_length, (h f (List.mem_cons_self ..)).2.2.2.1, List.length_cons, Nat.add_mul]
    omega
theorem ent_form (k pg : Int) (l t : List Int) : entH k pg l ++ t = fxL pg 4 ++ (l ++ (fxL (sumI (fxL k 8 ++ entB pg l)) 4 ++ t)) := by simp [entH, entB]
theorem ent_form2 (k pg : Int) (l t : List Int) : entH k pg l ++ t = entB pg l ++ (fxL (sumI (fxL k 8 ++ entB pg l)) 4 ++ t) := by simp [entH]
theorem ok_ent (k : Int) {s : Nat} {f : Fr} (h : okF s f) (t : List Int) : okFr k s (entH k f.pg f.b ++ t) := by
  obtain ⟨h1, h2, h3, h4, h5⟩ := h
  have e0 : fourI (entH k f.pg f.b ++ t) 0 = f.pg := by rw [ent_form, four_here _ _ (by omega)]
  have hl : (entB f.pg f.b).length = 4 + s := by rw [entB_length, h4]
  refine ⟨by rw [e0]; exact h1, by rw [e0]; exact h2, ?_⟩
  rw [ent_form2, List.take_left' hl, List.drop_left' hl, List.take_left' (fxL_length _ _)]
theorem frs_ent (k : Int) {s : Nat} {f : Fr} (h : okF s f) (t : List Int) : frsL k s (entH k f.pg f.b ++ t) = f :: frsL k s t := by
  have hl : (entH k f.pg f.b).length = s + 8 := by rw [entH_length, h.2.2.2.1]; omega
  rw [frs_step (by rw [List.length_append, hl]; omega) (ok_ent k h t), List.drop_left' hl]
  obtain ⟨h1, h2, h3, h4, h5⟩ := h
  have e0 : fourI (entH k f.pg f.b ++ t) 0 = f.pg := by rw [ent_form, four_here _ _ (by omega)]
  rw [e0, ent_form, List.drop_left' (fxL_length _ _), List.take_left' h4]
  obtain ⟨a, b, c⟩ := f
  simp only at h3
  rw [h3]
theorem frs_ents (k : Int) {s : Nat} {F : List Fr} (h : ∀ f ∈ F, okF s f) (t : List Int) : frsL k s (entsL k F ++ t) = F ++ frsL k s t := by
  induction F with
  | nil => rfl
  | cons f F ih =>
    rw [entsL, List.append_assoc, frs_ent k (h f (List.mem_cons_self ..)), ih fun g hg => h g (List.mem_cons_of_mem _ hg)]
    rfl
theorem frs_all (k : Int) {s : Nat} {F : List Fr} (h : ∀ f ∈ F, okF s f) : frsL k s (entsL k F) = F := by
  have e0 : frsL k s [] = [] := frs_end (by simp only [List.length_nil]; omega)
  have := frs_ents k h []
  rwa [List.append_nil, e0, List.append_nil] at this
theorem frs_cut (k : Int) {s : Nat} {F : List Fr} (h : ∀ f ∈ F, okF s f) (x : Nat) : frsL k s ((entsL k F).take x) = F.take (x / (s + 8)) := by
  have hx : x = x / (s + 8) * (s + 8) + x % (s + 8) := by rw [Nat.mul_comm]; exact (Nat.div_add_mod x (s + 8)).symm
  have hr : x % (s + 8) < s + 8 := Nat.mod_lt _ (by omega)
  by_cases hq : x / (s + 8) ≤ F.length
  · have hP : (entsL k (F.take (x / (s + 8)))).length = x / (s + 8) * (s + 8) := by
      rw [entsL_length (s := s) fun f hf => h f (List.mem_of_mem_take hf), List.length_take, Nat.min_eq_left hq]
    have e : (entsL k F).take x = entsL k (F.take (x / (s + 8))) ++ (entsL k (F.drop (x / (s + 8)))).take (x % (s + 8)) := by
      conv => lhs; rw [← List.take_append_drop (x / (s + 8)) F, entsL_append]
      rw [List.take_append, hP, List.take_of_length_le (by rw [hP]; omega), show x - x / (s + 8) * (s + 8) = x % (s + 8) by omega]
    rw [e, frs_ents k (fun f hf => h f (List.mem_of_mem_take hf)), frs_end (by rw [List.length_take]; omega), List.append_nil]
  · have hl := entsL_length (k := k) h
    have hle : F.length * (s + 8) ≤ x / (s + 8) * (s + 8) := Nat.mul_le_mul_right _ (by omega)
    rw [List.take_of_length_le (by omega), List.take_of_length_le (by omega), frs_all k h]

def jourL (s p k : Int) (F : List Fr) : List Int := startH s p k ++ entsL k F
theorem start_form (s p k : Int) (t : List Int) : startH s p k ++ t = jsign ++ (fxL s 4 ++ (fxL p 4 ++ (fxL k 8 ++ (fxL (sumI (startB s p k)) 4 ++ t)))) := by simp [startH, startB]
theorem eight_skip (x y : List Int) (p : Nat) (h : x.length ≤ p) : eightI (x ++ y) p = eightI y (p - x.length) := by
  rw [eightI, eightI, List.drop_append, List.drop_eq_nil_of_le h, List.nil_append]
theorem pow8 : (256 : Int) ^ 8 = 18446744073709551616 := by decide
theorem beI_fx8 {k : Int} (h : 0 ≤ k ∧ k ≤ 18446744073709551615) : beI (fxL k 8) = k := by rw [beI_fxq, pow8]; omega
theorem eight_here (k : Int) (y : List Int) (h : 0 ≤ k ∧ k ≤ 18446744073709551615) : eightI (fxL k 8 ++ y) 0 = k := by
  rw [eightI, List.drop_zero, List.take_left' (fxL_length k 8), beI_fx8 h]
theorem jsign_len : jsign.length = 8 := rfl
theorem scan_jour {s p k : Int} (ho : okStart s p) (hk : 0 ≤ k ∧ k ≤ 18446744073709551615) (t : List Int) : scanL (startH s p k ++ t) = ⟨s, p, k, frsL k s.toNat t, 0⟩ := by
  have hs : 0 ≤ s ∧ s ≤ 4096 := by have := ho.1; unfold isSize at this; omega
  have hp : 0 ≤ p ∧ p ≤ 1048576 := ⟨ho.2.1, ho.2.2.1⟩
  have e1 : fourI (startH s p k ++ t) 8 = s := by
    rw [start_form, four_skip _ _ _ (by rw [jsign_len]; decide), jsign_len, four_here _ _ (by omega)]
  have e2 : fourI (startH s p k ++ t) 12 = p := by
    rw [start_form, four_skip _ _ _ (by rw [jsign_len]; decide), jsign_len, four_skip _ _ _ (by rw [fxL_length]; decide), fxL_length, four_here _ _ (by omega)]
  have e3 : eightI (startH s p k ++ t) 16 = k := by
    rw [start_form, eight_skip _ _ _ (by rw [jsign_len]; decide), jsign_len, eight_skip _ _ _ (by rw [fxL_length]; decide), fxL_length, eight_skip _ _ _ (by rw [fxL_length]; decide), fxL_length, eight_here _ _ hk]
  have e4 : (startH s p k ++ t).take 8 = jsign := by rw [start_form]; exact List.take_left' rfl
  have e5 : (startH s p k ++ t).take 28 = startH s p k := List.take_left' (startH_length _ _ _)
  have e6 : (startH s p k ++ t).drop 28 = t := List.drop_left' (startH_length _ _ _)
  have hh : hdOk (startH s p k ++ t) := by unfold hdOk; rw [e1, e2, e3, e5]; exact ⟨ho, rfl⟩
  rw [scanL, if_neg (by rw [List.length_append, startH_length]; omega), if_neg (by rw [e4]; simp), if_pos hh, e1, e2, e3, e6]
theorem jour_cut {s p k : Int} (ho : okStart s p) (hk : 0 ≤ k ∧ k ≤ 18446744073709551615) {F : List Fr} (h : ∀ f ∈ F, okF s.toNat f) (x : Nat) :
    scanL ((jourL s p k F).take (28 + x)) = ⟨s, p, k, F.take (x / (s.toNat + 8)), 0⟩ := by
  have e : (jourL s p k F).take (28 + x) = startH s p k ++ (entsL k F).take x := by
    rw [jourL, List.take_append, startH_length, List.take_of_length_le (by rw [startH_length]; omega), show 28 + x - 28 = x by omega]
  rw [e, scan_jour ho hk, frs_cut k h]

end
section
open Go.RowKit
set_option maxRecDepth 100000
/-- A frame lies in a block. -/
def FrAt (w : World) (g : Nat) (pg cm : Int) (A : Option Addr) (n c : Nat) : Prop := w.cell? ⟨g, 0, none⟩ = some (.int .i64 pg) ∧ w.cell? ⟨g, 1, none⟩ = some (.int .i64 cm) ∧ w.cell? ⟨g, 2, none⟩ = some (.slice A n c)
theorem FrAt.keep {w w' : World} {g : Nat} {pg cm : Int} {A : Option Addr} {n c : Nat} (h : FrAt w g pg cm A n c) (hb : Below w.heap.size w w') : FrAt w' g pg cm A n c :=
  ⟨(hb.cell (World.block_lt_of_cell? _ _ h.1)).trans h.1, (hb.cell (World.block_lt_of_cell? _ _ h.2.1)).trans h.2.1, (hb.cell (World.block_lt_of_cell? _ _ h.2.2)).trans h.2.2⟩

end
section
open Go.RowKit
set_option maxRecDepth 100000
theorem there_keep {w w' : World} {g n : Nat} (h : w.there g 0 n) (hb : Below w.heap.size w w') (hg : g < w.heap.size) : w'.there g 0 n := fun j hj => by
  obtain ⟨h1, h2⟩ := h j hj
  exact ⟨by rw [hb.cell (by simpa using hg)]; exact h1, by rw [hb.frozen (by simpa using hg)]; exact h2⟩
def frC (pg cm : Int) (A : Option Addr) (n c : Nat) : List Value := [.int .i64 pg, .int .i64 cm, .slice A n c]
theorem FrAt.range {w : World} {g : Nat} {pg cm : Int} {A : Option Addr} {m c : Nat} (h : FrAt w g pg cm A m c) : w.rangeAt g 0 (frC pg cm A m c) := fun j v hv => by
  rw [Nat.zero_add]
  have hj : j < 3 := (List.getElem?_eq_some_iff.1 hv).1
  rcases (by omega : j = 0 ∨ j = 1 ∨ j = 2) with rfl | rfl | rfl
  · rw [h.1]; exact hv
  · rw [h.2.1]; exact hv
  · rw [h.2.2]; exact hv
theorem FrAt.of {w : World} {g : Nat} {pg cm : Int} {A : Option Addr} {m c : Nat} (h : w.rangeAt g 0 (frC pg cm A m c)) : FrAt w g pg cm A m c := by
  have h0 := h 0 _ rfl
  have h1 := h 1 _ rfl
  have h2 := h 2 _ rfl
  exact ⟨by simpa using h0, by simpa using h1, by simpa using h2⟩
theorem FrAt.stored {w : World} {g : Nat} (h : w.there g 0 3) (pg cm : Int) (A : Option Addr) (m c : Nat) : FrAt (w.setCells g 0 (frC pg cm A m c)) g pg cm A m c := FrAt.of (World.rangeAt_setCells_same w g 0 _ h)
theorem size_fr : (Try.prog.info? 53).map (·.size) = some 3 := by kernel_rfl

theorem wp_store_fr {ops : Array Oper} {rest : List Oper} {op : Oper} {a : Act} {w : World} {Q : Exit → Act → World → Prop} (hgd : op.guard = none) (x y : Operand) (ho : op.op = .store 53 x y) (g : Nat) (pg cm : Int) (A : Option Addr) (m c : Nat)
    (hx : a.eval x = .pointer (some ⟨g, 0, none⟩)) (hy : a.eval y = .agg #[.int .i64 pg, .int .i64 cm, .slice A m c]) (ht : w.there g 0 3) (h : wpList Try.prog ops Q rest (a.put op.dst undef) (w.setCells g 0 (frC pg cm A m c))) : wpList Try.prog ops Q (op :: rest) a w :=
  wpList_store_mid hgd 53 x y ho g 0 (frC pg cm A m c).toArray hx hy ht size_fr (all_oneCell_toArray (by intro v hv; simp [frC] at hv; rcases hv with rfl | rfl | rfl <;> rfl)) h
theorem wp_load_fr {ops : Array Oper} {rest : List Oper} {op : Oper} {a : Act} {w : World} {Q : Exit → Act → World → Prop} (hgd : op.guard = none) (x : Operand) (ho : op.op = .load 53 x) (g : Nat) (pg cm : Int) (A : Option Addr) (m c : Nat)
    (hx : a.eval x = .pointer (some ⟨g, 0, none⟩)) (hc : FrAt w g pg cm A m c) (h : wpList Try.prog ops Q rest (a.put op.dst (.agg #[.int .i64 pg, .int .i64 cm, .slice A m c])) w) : wpList Try.prog ops Q (op :: rest) a w :=
  wpList_load_mid hgd 53 x ho g 0 hx (frC pg cm A m c) _ hc.range Try.underlying53 rfl size_fr h

end
section
open Go.ChangeShapes Go.WideShapes Go.ChangeAt Go.RowKit Go.Deep
set_option maxRecDepth 100000
instance : Inhabited Fr := ⟨⟨0, 0, []⟩⟩
section
variable {H : Type} {enc : TypeId × Value → H} {P : Program} {W : World} {base : Nat}
end
end
section
open Go.RowKit
set_option maxRecDepth 100000
set_option maxHeartbeats 4000000 in
theorem jStart_full (w : World) (s p k : Int) (hs : i64ok s) (hp : i64ok p) (hk : 0 ≤ k ∧ k ≤ 18446744073709551615) (hg : okStart s p) (R : Ending → World → Prop)
    (hR : R = fun e w' => ∃ A, e = .returned (.tuple #[.slice A 28 28, .int .i64 0]) ∧ Rd w' A (startH s p k) ∧ Below w.heap.size w w') :
    Calls Try.prog 25 #[.int .i64 s, .int .i64 p, .int .u64 k] w R := by
  have HR := Lib.hid hR; clear hR
  have HK := Lib.hid hk; clear hk
  have hs' := hs
  unfold i64ok at hs' hp
  have HG := Lib.hid hg
  obtain ⟨g1, g2, g3, g4⟩ := hg
  have hsb : 256 ≤ s ∧ s ≤ 4096 := by unfold isSize at g1; omega
  have HD := Lib.hid (decide_eq_true g1)
  have hm0 : 0 ≤ s * p := Int.mul_nonneg (by omega) g2
  have hmul : IntKind.i64.wrap (s * p) = s * p := IntWalk.i64_in _ (by omega)
  have hws : IntKind.u64.wrap s = s := IntWalk.u64_in _ (by omega)
  have hwp : IntKind.u64.wrap p = p := IntWalk.u64_in _ (by omega)
  clear g1 hm0
  go_enter Try.func25, Try.ntmps25
  go_wp2_with fail
  refine (jright_any _ s hs).mono ?_
  rintro e w1 ⟨rfl, rfl⟩
  simp only [HD.out]
  go_wp2_with fail
  refine (jstart_any _ s p k (by omega) (by omega) HK.out _ rfl).mono ?_
  rintro e w2 hf
  obtain ⟨g, n, rfl, h1, h2, h3, h4⟩ := fresh_rd hf
  rw [startH_length] at h1
  subst h1
  have HF := Lib.hid h3; clear h3 hf
  go_wp2
  rw [HR.out]
  exact ⟨_, rfl, HF.out, h4⟩

end
end Go.Proofs.Ytlehpgokjppccaa
