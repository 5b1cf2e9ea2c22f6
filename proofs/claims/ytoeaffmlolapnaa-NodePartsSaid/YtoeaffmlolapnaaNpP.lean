/- Several texts of this proof as one: NdI, NdJ, NdK, NdL. Laid by merge.py. -/
import Derived.Test.YtoeaffmlolapnaaNpA
import Derived.Test.YtoeaffmlolapnaaNpB
import Derived.Test.YtoeaffmlolapnaaNpC
import Derived.Test.YtoeaffmlolapnaaNpD
import Derived.Test.YtoeaffmlolapnaaNpE
import Derived.Test.YtoeaffmlolapnaaNpF
import Derived.Test.YtoeaffmlolapnaaNpG
import Derived.Test.YtoeaffmlolapnaaNpH
import Derived.Test.YtoeaffmlolapnaaNpI
import Derived.Test.YtoeaffmlolapnaaNpJ
import Derived.Test.YtoeaffmlolapnaaNpK
import Derived.Test.YtoeaffmlolapnaaNpL
import Derived.Test.YtoeaffmlolapnaaNpM
import Derived.Test.YtoeaffmlolapnaaNpN
import Derived.Test.YtoeaffmlolapnaaNpO
import Derived.ArgAppend
import Derived.BigQuiet
import Derived.ChangeOld
import Derived.Deep.DeepCutAuto
import Derived.Deep.Matrix
import Derived.Deep.MidRow
import Derived.Deep.QuietTactic
import Derived.Deep.RegionHeld3
import Derived.Deep.Slices
import Derived.Handy
import Derived.Laws.CopyOwn
import Derived.Laws.Externs
import Derived.Laws.ResultCell
import Derived.Lib.AppendStr
import Derived.Lib.Hide
import Derived.Lib.MakeNoZero
import Derived.Lib.SlBuf
import Derived.Lib.SliceRun
import Derived.Lib.SmallJoins
import Derived.Maps.AppendAt
import Derived.OpenShut
import Derived.ProofKit
import Derived.ShutString
import Derived.SizedLaws
import Derived.Test.YtoeaffmlolapnaaProg
import Derived.WalkKit
import Derived.WalkSpells
namespace Go.Proofs.Ytoeaffmlolapnaa
section
open Go.RowKit
set_option maxRecDepth 100000
set_option linter.unusedVariables false
set_option linter.unusedSimpArgs false
set_option linter.unnecessarySimpa false
/-- A cell's own bytes: of old, or of the call's own. -/
def Loc (w : World) (lo : Nat) (A : Option Addr) (l : List Int) (d : Nat) : Prop :=
  (Rd w A l ∧ ∀ a, A = some a → l ≠ [] → a.block < lo) ∨ ∃ b, OwnB w b A l.length d l
theorem Loc.rd {w : World} {lo : Nat} {A : Option Addr} {l : List Int} {d : Nat} (h : Loc w lo A l d) : Rd w A l := by
  rcases h with h | ⟨b, h⟩
  · exact h.1
  · exact h.rd
theorem Loc.keep {w w' : World} {lo : Nat} {A : Option Addr} {l : List Int} {d : Nat} (h : Loc w lo A l d) (hb : Below w.heap.size w w') : Loc w' lo A l d := by
  rcases h with h | ⟨b, h⟩
  · exact .inl ⟨h.1.keep hb, h.2⟩
  · exact .inr ⟨b, h.keep hb⟩
def CellVals (w : World) (lo : Nat) (cs : List Cl) (vs : List Value) : Prop :=
  vs.length = cs.length * 5 ∧ ∀ i, i < cs.length → ∃ LA d, (∀ j u, (clC (cl_ cs i) LA (cl_ cs i).loc.length d)[j]? = some u → vs[i * 5 + j]? = some u) ∧ (cl_ cs i).loc.length ≤ d ∧ d ≤ maxLen ∧ Loc w lo LA (cl_ cs i).loc d
theorem CellVals.keep {w w' : World} {lo : Nat} {cs : List Cl} {vs : List Value} (h : CellVals w lo cs vs) (hb : Below w.heap.size w w') : CellVals w' lo cs vs :=
  ⟨h.1, fun i hi => by obtain ⟨LA, d, h1, h2, h3, h4⟩ := h.2 i hi; exact ⟨LA, d, h1, h2, h3, h4.keep hb⟩⟩
theorem cl_app {a b : List Cl} (i : Nat) : cl_ (a ++ b) i = if i < a.length then cl_ a i else cl_ b (i - a.length) := by
  unfold cl_
  simp only [List.getD_eq_getElem?_getD]
  by_cases h : i < a.length
  · rw [if_pos h, List.getElem?_append_left h]
  · rw [if_neg h, List.getElem?_append_right (by omega)]
theorem CellVals.app {w : World} {lo : Nat} {cs cs' : List Cl} {vs vs' : List Value} (h : CellVals w lo cs vs) (h' : CellVals w lo cs' vs') : CellVals w lo (cs ++ cs') (vs ++ vs') := by
  refine ⟨by rw [List.length_append, List.length_append, h.1, h'.1, Nat.add_mul], fun i hi => ?_⟩
  rw [List.length_append] at hi
  rw [cl_app]
  by_cases hlt : i < cs.length
  · rw [if_pos hlt]
    obtain ⟨LA, d, h1, h2⟩ := h.2 i hlt
    refine ⟨LA, d, fun j u hu => ?_, h2⟩
    have := h1 j u hu
    rw [List.getElem?_append_left (List.getElem?_eq_some_iff.1 this).1]
    exact this
  · rw [if_neg hlt]
    obtain ⟨LA, d, h1, h2⟩ := h'.2 (i - cs.length) (by omega)
    refine ⟨LA, d, fun j u hu => ?_, h2⟩
    have h5 := h1 j u hu
    have hl : vs.length = cs.length * 5 := h.1
    have e : i * 5 = (i - cs.length) * 5 + cs.length * 5 := by omega
    rw [List.getElem?_append_right (by omega), hl, show i * 5 + j - cs.length * 5 = (i - cs.length) * 5 + j by omega]
    exact h5
theorem CellVals.one {w : World} {lo : Nat} {c : Cl} {LA : Option Addr} {d : Nat} (h2 : c.loc.length ≤ d) (h3 : d ≤ maxLen) (h : Loc w lo LA c.loc d) : CellVals w lo [c] (clC c LA c.loc.length d) := by
  refine ⟨rfl, fun i hi => ?_⟩
  have hi1 : i < 1 := hi
  obtain rfl : i = 0 := by omega
  refine ⟨LA, d, fun j u hu => ?_, h2, h3, h⟩
  rw [Nat.zero_mul, Nat.zero_add]
  exact hu
theorem clC_one (c : Cl) (A : Option Addr) (n d : Nat) : ∀ u ∈ clC c A n d, u.oneCell' = true := by
  intro u hu
  simp [clC] at hu
  rcases hu with rfl | rfl | rfl | rfl | rfl <;> rfl
theorem CellVals.oneCell {w : World} {lo : Nat} {cs : List Cl} {vs : List Value} (h : CellVals w lo cs vs) : ∀ u ∈ vs, u.oneCell' = true := by
  intro u hu
  obtain ⟨t, ht, rfl⟩ := List.getElem_of_mem hu
  have hl := h.1
  obtain ⟨LA, d, h1, _⟩ := h.2 (t / 5) (by omega)
  have hj : t % 5 < (clC (cl_ cs (t / 5)) LA (cl_ cs (t / 5)).loc.length d).length := by show t % 5 < 5; omega
  have h5 := h1 (t % 5) _ (List.getElem?_eq_getElem hj)
  rw [show t / 5 * 5 + t % 5 = t by omega, List.getElem?_eq_getElem ht] at h5
  injection h5 with h5
  rw [h5]
  exact clC_one _ _ _ _ _ (List.getElem_mem hj)
/-- Cells that may be appended. -/
def Src (w : World) (lo : Nat) (B : Option Addr) (cs : List Cl) : Prop := cs = [] ∨ ∃ g off vs, B = some ⟨g, off, none⟩ ∧ w.rangeAt g off vs ∧ CellVals w lo cs vs
/-- Cells of the call's own. -/
def OwnCl (w : World) (lo base : Nat) (A : Option Addr) (m c : Nat) (cs : List Cl) : Prop := cs.length = m ∧ ∃ vs, w.ownsRow base 55 5 (.slice A m c) m vs ∧ CellVals w lo cs vs
theorem Loc.mono {w : World} {lo lo' : Nat} {A : Option Addr} {l : List Int} {d : Nat} (h : Loc w lo A l d) (hl : lo ≤ lo') : Loc w lo' A l d := by
  rcases h with h | h
  · exact .inl ⟨h.1, fun a ha hne => Nat.lt_of_lt_of_le (h.2 a ha hne) hl⟩
  · exact .inr h
theorem CellVals.mono {w : World} {lo lo' : Nat} {cs : List Cl} {vs : List Value} (h : CellVals w lo cs vs) (hl : lo ≤ lo') : CellVals w lo' cs vs :=
  ⟨h.1, fun i hi => by obtain ⟨LA, d, h1, h2, h3, h4⟩ := h.2 i hi; exact ⟨LA, d, h1, h2, h3, h4.mono hl⟩⟩
theorem Src.mono {w : World} {lo lo' : Nat} {B : Option Addr} {cs : List Cl} (h : Src w lo B cs) (hl : lo ≤ lo') : Src w lo' B cs := by
  rcases h with h | ⟨g, off, vs, h1, h2, h3⟩
  · exact .inl h
  · exact .inr ⟨g, off, vs, h1, h2, h3.mono hl⟩
theorem OwnCl.nil (w : World) (lo base : Nat) : OwnCl w lo base none 0 0 [] := ⟨rfl, [], World.ownsRow_nil w base _ _, rfl, fun i hi => by simp at hi⟩
theorem OwnCl.keep {w w' : World} {lo base : Nat} {A : Option Addr} {m c : Nat} {cs : List Cl} (h : OwnCl w lo base A m c cs) (hb : Below w.heap.size w w') : OwnCl w' lo base A m c cs := by
  obtain ⟨h1, vs, h2, h3⟩ := h
  exact ⟨h1, vs, ownG_keep h2 hb, h3.keep hb⟩
theorem OwnCl.cap {w : World} {lo base : Nat} {A : Option Addr} {m c : Nat} {cs : List Cl} (h : OwnCl w lo base A m c cs) : m ≤ c ∧ c ≤ maxLen := by
  obtain ⟨_, vs, ⟨_, h3⟩, _⟩ := h
  rcases h3 with ⟨hv, hn⟩ | ⟨g, cap, cur, hv, _, _, h1, h2, _⟩
  · injection hv with e1 e2 e3
    subst e3
    exact ⟨by omega, by unfold maxLen; omega⟩
  · injection hv with e1 e2 e3
    subst e3
    exact ⟨h1, h2⟩
theorem OwnCl.src {w : World} {lo base : Nat} {A : Option Addr} {m c : Nat} {cs : List Cl} (h : OwnCl w lo base A m c cs) : Src w lo A cs := by
  obtain ⟨h1, vs, hown, h4⟩ := h
  rcases hown.2 with ⟨hv, hn⟩ | ⟨g, cap, cur, hv, _⟩
  · subst hn
    exact .inl (List.eq_nil_of_length_eq_zero h1)
  · injection hv with e1 e2 e3
    subst e1
    refine .inr ⟨g, 0, vs, rfl, fun j u hu => ?_, h4⟩
    have := World.ownsRow.cells hown (g := g) rfl j u hu
    simpa [Addr.add_lit] using this
theorem Src.rd {w : World} {lo : Nat} {B : Option Addr} {cs : List Cl} (h : Src w lo B cs) : RdCl w B cs := by
  rcases h with h | ⟨g, off, vs, rfl, h1, h2⟩
  · exact .inl h
  · refine .inr ⟨g, off, rfl, fun i hi => ?_⟩
    obtain ⟨LA, d, k1, k2, k3, k4⟩ := h2.2 i hi
    refine ⟨LA, d, fun j u hu => ?_, k2, k3, k4.rd⟩
    rw [Nat.add_assoc]
    exact h1 _ u (k1 j u hu)
theorem OwnCl.rd {w : World} {lo base : Nat} {A : Option Addr} {m c : Nat} {cs : List Cl} (h : OwnCl w lo base A m c cs) : RdCl w A cs := h.src.rd
theorem Src.keep {w w' : World} {lo : Nat} {B : Option Addr} {cs : List Cl} (h : Src w lo B cs) (hb : Below w.heap.size w w') : Src w' lo B cs := by
  rcases h with h | ⟨g, off, vs, rfl, h1, h2⟩
  · exact .inl h
  · by_cases h0 : vs = []
    · have := h2.1
      rw [h0] at this
      exact .inl (List.eq_nil_of_length_eq_zero (by simp only [List.length_nil] at this; omega))
    · obtain ⟨v, r, rfl⟩ := List.exists_cons_of_ne_nil h0
      exact .inr ⟨g, off, _, rfl, rangeKept h1 hb, h2.keep hb⟩
theorem flat5 (f : Nat → List Value) (hf : ∀ i, (f i).length = 5) (m : Nat) : ((List.range m).flatMap f).length = m * 5 ∧ ∀ i, i < m → ∀ j u, (f i)[j]? = some u → ((List.range m).flatMap f)[i * 5 + j]? = some u := by
  induction m with
  | zero => exact ⟨rfl, fun i hi => by omega⟩
  | succ m ih =>
    rw [List.range_succ, List.flatMap_append]
    have e : List.flatMap f [m] = f m := by simp
    rw [e]
    refine ⟨by rw [List.length_append, ih.1, hf, Nat.succ_mul], fun i hi j u hu => ?_⟩
    have hj : j < 5 := by rw [← hf i]; exact (List.getElem?_eq_some_iff.1 hu).1
    by_cases h : i < m
    · rw [List.getElem?_append_left (by rw [ih.1]; omega)]
      exact ih.2 i h j u hu
    · obtain rfl : i = m := by omega
      rw [List.getElem?_append_right (by rw [ih.1]; omega), ih.1, Nat.add_sub_cancel_left]
      exact hu
/-- What came in may be appended. -/
theorem RdCl.src {w : World} {B : Option Addr} {cs : List Cl} (h : RdCl w B cs) {lo : Nat} (hb : w.heap.size ≤ lo) : Src w lo B cs := by
  rcases h with h | ⟨b, off, rfl, h⟩
  · exact .inl h
  · obtain ⟨F, hF⟩ : ∃ F : Nat → Option Addr × Nat, ∀ i, i < cs.length → w.rangeAt b (off + i * 5) (clC (cl_ cs i) (F i).1 (cl_ cs i).loc.length (F i).2) ∧ (cl_ cs i).loc.length ≤ (F i).2 ∧ (F i).2 ≤ maxLen ∧ Rd w (F i).1 (cl_ cs i).loc := by
      refine Go.Deep.choose_lt (α := Option Addr × Nat) (p := fun i x => w.rangeAt b (off + i * 5) (clC (cl_ cs i) x.1 (cl_ cs i).loc.length x.2) ∧ (cl_ cs i).loc.length ≤ x.2 ∧ x.2 ≤ maxLen ∧ Rd w x.1 (cl_ cs i).loc) (fun i hi => ?_)
      obtain ⟨A, d, h1, h2, h3, h4⟩ := h i hi
      exact ⟨(A, d), h1, h2, h3, h4⟩
    obtain ⟨h1, h2⟩ := flat5 (fun i => clC (cl_ cs i) (F i).1 (cl_ cs i).loc.length (F i).2) (fun _ => rfl) cs.length
    refine .inr ⟨b, off, _, rfl, fun t u hu => ?_, h1, fun i hi => ⟨(F i).1, (F i).2, h2 i hi, (hF i hi).2.1, (hF i hi).2.2.1, .inl ⟨(hF i hi).2.2.2, fun a ha hne => ?_⟩⟩⟩
    · have ht : t < cs.length * 5 := by rw [← h1]; exact (List.getElem?_eq_some_iff.1 hu).1
      have hi : t / 5 < cs.length := by omega
      have hj : t % 5 < (clC (cl_ cs (t / 5)) (F (t / 5)).1 (cl_ cs (t / 5)).loc.length (F (t / 5)).2).length := by show t % 5 < 5; omega
      have h5 := h2 (t / 5) hi (t % 5) _ (List.getElem?_eq_getElem hj)
      rw [show t / 5 * 5 + t % 5 = t by omega, hu] at h5
      injection h5 with h5
      have h6 := (hF (t / 5) hi).1 (t % 5) _ (List.getElem?_eq_getElem hj)
      rw [← h5, show off + t / 5 * 5 + t % 5 = off + t by omega] at h6
      exact h6
    · have := ((hF i hi).2.2.2).blk hne a ha
      omega
theorem info_cl : (Try.prog.info? 55).map (fun i => (i.zero, i.size, i.bytes)) = some (some (.agg #[.int .i64 0, .int .i64 0, .int .i64 0, .slice none 0 0, .int .i64 0]), 5, 56) := by kernel_rfl
theorem OwnB.apartCl {w : World} {b1 b2 n1 c1 m c : Nat} {A1 A2 : Option Addr} {l : List Int} {vs : List Value} (h : OwnB w b1 A1 n1 c1 l) (k : w.ownsRow b2 55 5 (.slice A2 m c) m vs) : ∀ b, A1 = some b → ∀ a, A2 = some a → a.block ≠ b.block := by
  intro b hb a ha e
  rcases h.2 with ⟨hv, _⟩ | ⟨g, cap, cur, hv, hbg, hgg, rest⟩
  · injection hv with e1; rw [e1] at hb; cases hb
  · injection hv with e1
    rw [e1] at hb
    injection hb with hb
    subst hb
    rcases k.2 with ⟨hv2, _⟩ | ⟨g2, cap2, cur2, hv2, hbg2, hgg2, rest2⟩
    · injection hv2 with e2; rw [e2] at ha; cases ha
    · injection hv2 with e2
      rw [e2] at ha
      injection ha with ha
      subst ha
      have e : g2 = g := e
      subst e
      rw [hgg] at hgg2
      injection hgg2 with q
      injection q with _ q2 _
      exact absurd q2 (by decide)
def TyAt (w : World) (t : Nat) (T : TypeId) : Prop := ∃ cur fr, w.heap[t]? = some (.cells cur T fr)
theorem run_append_cl2 (w : World) (ty : TypeId) (lo base : Nat) (hlb : lo ≤ base) (A : Option Addr) (m c : Nat) (cs : List Cl) (hown : OwnCl w lo base A m c cs) (B : Option Addr) (k d : Nat) (cs' : List Cl) (hk : cs'.length = k) (hs : Src w lo B cs') (hn : m + k ≤ 1000000000) (hbase : base ≤ w.heap.size) :
    ∃ A' c' w', (Builtin.append_ #[67, 67] ty #[.slice A m c, .slice B k d]).run Try.prog w = .ok (.slice A' (m + k) c') w' ∧ OwnCl w' lo base A' (m + k) c' (cs ++ cs') ∧ Below base w w' ∧ ∀ t T, TyAt w t T → T ≠ 55 → w'.heap[t]? = w.heap[t]? := by
  obtain ⟨i, hi, hz, hsz, hby⟩ := info_parts info_cl
  rcases B with _ | b
  · have hm : cs' = [] := by
      rcases hs with h | ⟨_, _, _, h, _⟩
      · exact h
      · cases h
    subst hm
    obtain rfl : k = 0 := by simpa using hk.symm
    refine ⟨A, c, w, ?_, by simpa using hown, Below.refl _ _, fun _ _ _ _ => rfl⟩
    obtain ⟨h1, vs, hrow, hvals⟩ := hown
    rcases hrow.2 with ⟨hv, hn⟩ | ⟨g, cap, cur, hv, _, _, hnc, _⟩
    · injection hv with e1 e2 e3
      subst e1; subst e2; subst e3
      simp [Builtin.append_, run_underlying Try.underlying67, sizeOf, typeInfo, hi, Builtin.lenOf, Builtin.firstCells]
    · injection hv with e1 e2 e3
      subst e1; subst e3
      simp [Builtin.append_, run_underlying Try.underlying67, sizeOf, typeInfo, hi, Builtin.lenOf, Builtin.firstCells, hnc, storeCells]
  · obtain ⟨h1, vs, hrow, hvals⟩ := hown
    obtain ⟨vs', hcells, hv'⟩ : ∃ vs' : List Value, (∀ j u, vs'[j]? = some u → w.cell? (b.add j) = some u) ∧ CellVals w lo cs' vs' := by
      rcases hs with rfl | ⟨g, off, vs', hB, hr, hv⟩
      · exact ⟨[], fun j u hu => by simp at hu, rfl, fun i hi => by simp at hi⟩
      · injection hB with hB
        subst hB
        exact ⟨vs', fun j u hu => by simpa [Addr.add_lit] using hr j u hu, hv⟩
    obtain ⟨v', w', hrun, h2, h3, h4, h5⟩ := run_append_own_at (P := Try.prog) w base 67 ty 55 i (.agg #[.int .i64 0, .int .i64 0, .int .i64 0, .slice none 0 0, .int .i64 0]) 5 56 Try.underlying67 hi hz hsz hby rfl (by decide) (.slice A m c) m vs hrow b k d vs'
      (by rw [hv'.1, hk]) hcells hv'.oneCell (by unfold maxLen; omega) (by omega) hbase
    have hform : ∃ A' c', v' = .slice A' (m + k) c' := by
      rcases h2.2 with ⟨hv, hn⟩ | ⟨g, cap, cur, hv, _⟩
      · exact ⟨none, 0, by rw [hv, hn]⟩
      · exact ⟨_, _, hv⟩
    obtain ⟨A', c', rfl⟩ := hform
    have hbel : Below base w w' := (Below.refl _ _).grown h3 hbase (fun k hk => (World.ownsRow.lt hrow k hk).1)
    have hblk : ∀ k, k < w.heap.size → (∀ a, A = some a → a.block ≠ k) → w'.heap[k]? = w.heap[k]? := fun k hk hne => h3.block k hk (fun e => by
      cases A with
      | none => simp [Value.ownBlock] at e
      | some a => exact hne a rfl (by simpa [Value.ownBlock] using e.symm))
    have hloc : ∀ LA l d, Loc w lo LA l d → Loc w' lo LA l d := fun LA l d hl => by
      rcases hl with hl | ⟨b2, hl⟩
      · refine .inl ⟨?_, hl.2⟩
        rcases hl.1 with h | ⟨bb, off, rfl, hc⟩
        · exact .inl h
        · refine .inr ⟨bb, off, rfl, fun i hi => ?_⟩
          have hlt : bb < base := Nat.lt_of_lt_of_le (hl.2 _ rfl (by rintro rfl; simp at hi)) hlb
          exact (hbel.cell (p := ⟨bb, off + i, none⟩) hlt).trans (hc i hi)
      · refine .inr ⟨b2, hl.1, ?_⟩
        rcases hl.2 with hv | ⟨g, cap, cur, hv, hbg, hgg, rest⟩
        · exact .inl hv
        · have e : LA = some ⟨g, 0, none⟩ := by injection hv
          exact .inr ⟨g, cap, cur, hv, hbg, (hblk g (Array.getElem?_eq_some_iff.1 hgg).1 (fun a ha => hl.apartCl hrow _ e a ha)).trans hgg, rest⟩
    have hv2 : CellVals w' lo (cs ++ cs') (vs ++ vs') := by
      have h := hvals.app hv'
      exact ⟨h.1, fun i hi => by obtain ⟨LA, d, k1, k2, k3, k4⟩ := h.2 i hi; exact ⟨LA, d, k1, k2, k3, hloc _ _ _ k4⟩⟩
    refine ⟨A', c', w', hrun, ⟨by rw [List.length_append, h1, hk], vs ++ vs', h2, hv2⟩, hbel, fun t T hty hT => ?_⟩
    obtain ⟨cur, fr, ht⟩ := hty
    refine hblk t (Array.getElem?_eq_some_iff.1 ht).1 (fun a ha e => ?_)
    rcases hrow.2 with ⟨hv, _⟩ | ⟨g, cap, cur2, hv, _, hg, _⟩
    · injection hv with e1; rw [e1] at ha; cases ha
    · injection hv with e1
      rw [e1] at ha
      injection ha with ha
      subst ha
      have e : g = t := e
      subst e
      rw [ht] at hg
      injection hg with q
      injection q with _ q2 _
      exact hT q2
theorem run_append_cl (w : World) (ty : TypeId) (lo base : Nat) (hlb : lo ≤ base) (A : Option Addr) (m c : Nat) (cs : List Cl) (hown : OwnCl w lo base A m c cs) (B : Option Addr) (k d : Nat) (cs' : List Cl) (hk : cs'.length = k) (hs : Src w lo B cs') (hn : m + k ≤ 1000000000) (hbase : base ≤ w.heap.size) :
    ∃ A' c' w', (Builtin.append_ #[67, 67] ty #[.slice A m c, .slice B k d]).run Try.prog w = .ok (.slice A' (m + k) c') w' ∧ OwnCl w' lo base A' (m + k) c' (cs ++ cs') ∧ Below base w w' := by
  obtain ⟨A', c', w', h1, h2, h3, _⟩ := run_append_cl2 w ty lo base hlb A m c cs hown B k d cs' hk hs hn hbase
  exact ⟨A', c', w', h1, h2, h3⟩
theorem wp_append_cl {ops : Array Oper} {rest : List Oper} {o : Oper} {a : Act} {w : World} {Q : Exit → Act → World → Prop} (hgd : o.guard = none) (s x : Operand)
    (ho : o.op = .call { callee := .builtin .append, args := #[s, x], argTypes := #[67, 67] })
    (lo base : Nat) (hlb : lo ≤ base) (A : Option Addr) (m c : Nat) (cs : List Cl) (hs : a.eval s = .slice A m c) (hown : OwnCl w lo base A m c cs) (B : Option Addr) (k d : Nat) (cs' : List Cl) (hx : a.eval x = .slice B k d) (hk : cs'.length = k) (hsrc : Src w lo B cs') (hn : m + k ≤ 1000000000) (hbase : base ≤ w.heap.size)
    (h : ∀ A' c' w', OwnCl w' lo base A' (m + k) c' (cs ++ cs') → Below base w w' → wpList Try.prog ops Q rest (a.put o.dst (.slice A' (m + k) c')) w') : wpList Try.prog ops Q (o :: rest) a w := by
  obtain ⟨A', c', w', hrun, h2, h3⟩ := run_append_cl w o.type lo base hlb A m c cs hown B k d cs' hk hsrc hn hbase
  refine wpList_plain hgd fun K hK => ?_
  unfold Oper.wp execOp
  simp only [ho, resolve, invoke, builtin, Sem.run_bind, Sem.run_pure, Result.andThen_ok, List.map_toArray, List.map_cons, List.map_nil, hs, hx, hrun]
  exact hK _ _ (h A' c' w' h2 h3)
theorem step_append_cl2 {ops : Array Oper} {o : Oper} {a : Act} {w : World} {K : Act → World → Prop} {Q : Exit → Act → World → Prop} {Z : Prop} (hgd : o.guard = none) (s x : Operand)
    (ho : o.op = .call { callee := .builtin .append, args := #[s, x], argTypes := #[67, 67] })
    (lo base : Nat) (hlb : lo ≤ base) (A : Option Addr) (m c : Nat) (cs : List Cl) (hs : a.eval s = .slice A m c) (hown : OwnCl w lo base A m c cs) (B : Option Addr) (k d : Nat) (cs' : List Cl) (hx : a.eval x = .slice B k d) (hk : cs'.length = k) (hsrc : Src w lo B cs') (hn : m + k ≤ 1000000000) (hbase : base ≤ w.heap.size)
    (h : ∀ A' c' w', OwnCl w' lo base A' (m + k) c' (cs ++ cs') → Below base w w' → (∀ t T, TyAt w t T → T ≠ 55 → w'.heap[t]? = w.heap[t]?) → K (a.put o.dst (.slice A' (m + k) c')) w') :
    if Region.wanted o (yielded ops a.tmps) = true then Oper.wp Try.prog o a w K Q else Z := by
  have hw : Region.wanted o (yielded ops a.tmps) = true := by simp [Region.wanted, hgd]
  rw [if_pos hw]
  obtain ⟨A', c', w', hrun, h2, h3, h4⟩ := run_append_cl2 w o.type lo base hlb A m c cs hown B k d cs' hk hsrc hn hbase
  unfold Oper.wp execOp
  simp only [ho, resolve, invoke, builtin, Sem.run_bind, Sem.run_pure, Result.andThen_ok, List.map_toArray, List.map_cons, List.map_nil, hs, hx, hrun]
  exact h A' c' w' h2 h3 h4

theorem TyAt.keepB {w w' : World} {t B : Nat} {T : TypeId} (h : TyAt w t T) (hb : Below B w w') (ht : t < B) : TyAt w' t T := by
  obtain ⟨cur, fr, h⟩ := h
  exact ⟨cur, fr, (hb.block t ht).trans h⟩
theorem TyAt.set {w : World} {t : Nat} {T : TypeId} (h : TyAt w t T) (a : Addr) (v : Value) : TyAt (w.setCell a v) t T := by
  obtain ⟨cur, fr, h⟩ := h
  by_cases e : t = a.block
  · subst e
    unfold World.setCell TyAt
    simp only [Array.getElem?_modify, if_pos, h, Option.map_some]
    exact ⟨_, _, rfl⟩
  · exact ⟨cur, fr, (heap_setG_ne w a v e).trans h⟩
theorem TyAt.sets {t : Nat} {T : TypeId} (b : Nat) : ∀ (vs : List Value) (o : Nat) (w : World), TyAt w t T → TyAt (w.setCells b o vs) t T
  | [], _, _, h => h
  | v :: r, o, w, h => TyAt.sets b r (o + 1) _ (h.set _ v)
theorem TyAt.new (w : World) (cs : Array Value) (T : TypeId) : TyAt (w.alloc (.cells cs T)) w.heap.size T := ⟨cs, _, heap_alloc_new w _⟩
theorem ownsRow_ty {w w' : World} {B : Option Addr} {E T : TypeId} {base n c m t s : Nat} {vs : List Value} (h : w.ownsRow base E s (.slice B n c) m vs) (hty : TyAt w t T) (hT : T ≠ E) (e : ∀ k, k ≠ t → k < w.heap.size → w'.heap[k]? = w.heap[k]?) : w'.ownsRow base E s (.slice B n c) m vs := by
  obtain ⟨cur0, fr, ht⟩ := hty
  refine ⟨h.1, ?_⟩
  rcases h.2 with hv | ⟨g, cap, cur, hv, hbg, hg, rest⟩
  · exact .inl hv
  · refine .inr ⟨g, cap, cur, hv, hbg, (e g (fun h => ?_) (Array.getElem?_eq_some_iff.1 hg).1).trans hg, rest⟩
    subst h
    rw [ht] at hg
    injection hg with q
    injection q with _ q2 _
    exact hT q2
theorem OwnCl.ty {w w' : World} {lo base : Nat} {A : Option Addr} {m c t : Nat} {cs : List Cl} {T : TypeId} (h : OwnCl w lo base A m c cs) (hty : TyAt w t T) (h1 : T ≠ 55) (h2 : T ≠ 5) (hlo : lo ≤ t) (e : ∀ k, k ≠ t → k < w.heap.size → w'.heap[k]? = w.heap[k]?) : OwnCl w' lo base A m c cs := by
  obtain ⟨k1, vs, k2, k3⟩ := h
  refine ⟨k1, vs, ownsRow_ty k2 hty h1 e, k3.1, fun i hi => ?_⟩
  obtain ⟨LA, d, p1, p2, p3, p4⟩ := k3.2 i hi
  refine ⟨LA, d, p1, p2, p3, ?_⟩
  rcases p4 with p4 | ⟨b, p4⟩
  · refine .inl ⟨?_, p4.2⟩
    rcases p4.1 with q | ⟨bb, off, rfl, hc⟩
    · exact .inl q
    · refine .inr ⟨bb, off, rfl, fun i hi => ?_⟩
      have hlt : bb < lo := p4.2 _ rfl (fun h0 => by rw [h0] at hi; simp at hi)
      have h5 := hc i hi
      rw [← h5]
      simp [World.cell?, e bb (by omega) (World.block_lt_of_cell? w ⟨bb, off + i, none⟩ h5)]
  · exact .inr ⟨b, ownsRow_ty p4 hty h2 e⟩
theorem OwnCl.low {w w' : World} {lo base : Nat} {A : Option Addr} {m c t : Nat} {cs : List Cl} {T : TypeId} (h : OwnCl w lo base A m c cs) (hty : TyAt w t T) (ht : t < base) (h2 : T ≠ 5) (hlo : lo ≤ t) (e : ∀ k, k ≠ t → k < w.heap.size → w'.heap[k]? = w.heap[k]?) : OwnCl w' lo base A m c cs := by
  obtain ⟨k1, vs, k2, k3⟩ := h
  refine ⟨k1, vs, ⟨k2.1, ?_⟩, k3.1, fun i hi => ?_⟩
  · rcases k2.2 with hv | ⟨g, cap, cur, hv, hbg, hg, rest⟩
    · exact .inl hv
    · exact .inr ⟨g, cap, cur, hv, hbg, (e g (by omega) (Array.getElem?_eq_some_iff.1 hg).1).trans hg, rest⟩
  obtain ⟨LA, d, p1, p2, p3, p4⟩ := k3.2 i hi
  refine ⟨LA, d, p1, p2, p3, ?_⟩
  rcases p4 with p4 | ⟨b, p4⟩
  · refine .inl ⟨?_, p4.2⟩
    rcases p4.1 with q | ⟨bb, off, rfl, hc⟩
    · exact .inl q
    · refine .inr ⟨bb, off, rfl, fun i hi => ?_⟩
      have hlt : bb < lo := p4.2 _ rfl (fun h0 => by rw [h0] at hi; simp at hi)
      have h5 := hc i hi
      rw [← h5]
      simp [World.cell?, e bb (by omega) (World.block_lt_of_cell? w ⟨bb, off + i, none⟩ h5)]
  · exact .inr ⟨b, ownsRow_ty p4 hty h2 e⟩
theorem OwnCl.lift {w : World} {lo lo' base : Nat} {A : Option Addr} {m c : Nat} {cs : List Cl} (h : OwnCl w lo base A m c cs) (hl : lo ≤ lo') : OwnCl w lo' base A m c cs := by
  obtain ⟨k1, vs, k2, k3⟩ := h
  exact ⟨k1, vs, k2, k3.mono hl⟩
end
section
open Go.RowKit
set_option maxRecDepth 100000
set_option linter.unusedVariables false
set_option linter.unusedSimpArgs false
set_option linter.unnecessarySimpa false
def rtJ (b : List Int) (j : Nat) : Int := beI ((b.drop 4).take j)
theorem rtJ_step {b : List Int} {j : Nat} (h : 4 + j < b.length) : rtJ b (j + 1) = rtJ b j * 256 + bt b (4 + j) := be_step h
def ndCells (b : List Int) (j : Nat) : List Cl := (List.range j).map fun i => (decC (bt b 0) (cOf b 8 i)).1
def nodeOf (b : List Int) : Nd := ⟨bt b 0, rtJ b 4, ndCells b (kOf b 8)⟩
def okCells (b : List Int) : Prop := ∀ i, i < kOf b 8 → (decC (bt b 0) (cOf b 8 i)).2 = 0
theorem rtJ_lt {b : List Int} (hB : IsB b) (j : Nat) (hj : j ≤ 4) : 0 ≤ rtJ b j ∧ rtJ b j < 4294967296 := by
  have h := beI_lt (l := (b.drop 4).take j) (fun x hx => hB x (List.mem_of_mem_drop (List.mem_of_mem_take hx))) 4 (by rw [List.length_take]; omega)
  exact h
theorem rtJ_lt3 {b : List Int} (hB : IsB b) (j : Nat) (hj : j ≤ 3) : 0 ≤ rtJ b j ∧ rtJ b j < 16777216 := by
  have h := beI_lt (l := (b.drop 4).take j) (fun x hx => hB x (List.mem_of_mem_drop (List.mem_of_mem_take hx))) 3 (by rw [List.length_take]; omega)
  exact h
theorem ndCells_len (b : List Int) (j : Nat) : (ndCells b j).length = j := by simp [ndCells]
theorem ndCells_step (b : List Int) (j : Nat) : ndCells b (j + 1) = ndCells b j ++ [(decC (bt b 0) (cOf b 8 j)).1] := by simp [ndCells, List.range_succ]
theorem cell_loc {k : Int} {c : Cl} (hg : goodC k c c.loc.length) (h : IsB (cellB k c)) : IsB c.loc ∧ c.loc.length ≤ (cellB k c).length := by
  by_cases h2 : k = 2
  · have := hg.2.2.2.2.2 h2
    have e : c.loc = [] := List.eq_nil_of_length_eq_zero this.2.1
    rw [e]
    exact ⟨isB_nil, Nat.zero_le _⟩
  · have e : loadB k c = varL c.total ++ (varL (c.loc.length : Int) ++ (c.loc ++ spillB c)) := if_neg h2
    unfold cellB at h ⊢
    rw [e] at h ⊢
    refine ⟨fun x hx => h x ?_, ?_⟩
    · simp only [List.mem_append]
      exact .inr (.inr (.inr (.inr (.inl hx))))
    · simp only [List.length_append]
      omega
theorem dec_okB {b : List Int} (hB : IsB b) {i : Nat} (h : (decC (bt b 0) (cOf b 8 i)).2 = 0) : ClOk (decC (bt b 0) (cOf b 8 i)).1 ∧ (decC (bt b 0) (cOf b 8 i)).1.loc.length ≤ b.length := by
  have hc : IsB (cOf b 8 i) := isB_dt hB _ _
  obtain ⟨h1, h2, h3⟩ := decC_back hc _ h
  obtain ⟨h4, h5⟩ := cell_loc h2 (by rw [h1]; exact hc)
  refine ⟨⟨h3, h4⟩, ?_⟩
  rw [h1] at h5
  have : (cOf b 8 i).length ≤ b.length := by unfold cOf; rw [List.length_take, List.length_drop]; omega
  omega
theorem nodeOf_ok {b : List Int} (hB : IsB b) (hl : b.length ≤ 4096) (h : okCells b) : NdOk (nodeOf b) ∧ ∀ c ∈ (nodeOf b).cs, c.loc.length ≤ 4096 := by
  have h0 := IsB.bt hB 0
  have h1 := rtJ_lt hB 4 (Nat.le_refl _)
  have key : ∀ c ∈ (nodeOf b).cs, ClOk c ∧ c.loc.length ≤ 4096 := fun c hc => by
    obtain ⟨i, hi, rfl⟩ := List.mem_map.1 hc
    have := dec_okB hB (h i (List.mem_range.1 hi))
    exact ⟨this.1, by omega⟩
  exact ⟨⟨by unfold i64b; show _ ≤ bt b 0 ∧ bt b 0 ≤ _; omega, by unfold i64b; show _ ≤ rtJ b 4 ∧ rtJ b 4 ≤ _; omega, fun c hc => (key c hc).1⟩, fun c hc => (key c hc).2⟩
def readOk (b : List Int) : Prop := ofP b 8 ∧ okCells b
def ReadN (w : World) (b : List Int) (e : Ending) (w' : World) : Prop :=
  Below w.heap.size w w' ∧ ((¬ readOk b ∧ e = .returned (.tuple #[zeroN.val none 0, .bool false])) ∨ (readOk b ∧ ∃ A c, e = .returned (.tuple #[(nodeOf b).val A c, .bool (decide (mayN (nodeOf b)))]) ∧ OwnCl w' 0 w.heap.size A (nodeOf b).cs.length c (nodeOf b).cs))
/-- Bytes are a node's. -/
def decOk (b : List Int) : Prop := readOk b ∧ okN (nodeOf b) (b.length : Int) ∧ fitN (nodeOf b) (b.length : Int) ∧ IsP b (nodeM (nodeOf b) b.length)
def DecN (w : World) (b : List Int) (e : Ending) (w' : World) : Prop :=
  Below w.heap.size w w' ∧ ((¬ isSz (b.length : Int) ∧ e = .returned (.tuple #[zeroN.val none 0, .int .i64 1])) ∨ (isSz (b.length : Int) ∧ ¬ decOk b ∧ e = .returned (.tuple #[zeroN.val none 0, .int .i64 14])) ∨
    (isSz (b.length : Int) ∧ decOk b ∧ ∃ A c, e = .returned (.tuple #[(nodeOf b).val A c, .int .i64 0]) ∧ OwnCl w' 0 w.heap.size A (nodeOf b).cs.length c (nodeOf b).cs))
theorem or256i {a x : Int} (h0 : 0 ≤ a) (h1 : a < 16777216) (x0 : 0 ≤ x) (x1 : x ≤ 255) : bits .or .i64 (a * 256) x = a * 256 + x := by
  have h := or256 (a := a) (x := x) h0 (by omega) x0 x1
  unfold bits at h ⊢
  simp at h ⊢
  have e : IntKind.i64.bits = IntKind.u64.bits := rfl
  have hb : (2 : Int) ^ IntKind.u64.bits = 18446744073709551616 := by decide
  rw [e]
  rw [hb] at h ⊢
  obtain ⟨v, hv⟩ : ∃ v : Nat, ((a * 256 % 18446744073709551616).toNat ||| (x % 18446744073709551616).toNat) = v := ⟨_, rfl⟩
  have hlt : v < 2 ^ 64 := by
    rw [← hv]
    exact Nat.or_lt_two_pow (by omega) (by omega)
  rw [hv] at h ⊢
  rw [IntKind.wrap_u64] at h
  have hv2 : (v : Int) = a * 256 + x := by omega
  rw [hv2]
  exact IntWalk.i64_in _ (by omega)
end
section
open Go.RowKit
set_option maxRecDepth 100000
set_option linter.unusedVariables false
set_option linter.unusedSimpArgs false
set_option linter.unnecessarySimpa false
theorem Pg.keepB {w w' : World} {g gb c h B : Nat} {L : List Int} {X : List Value} (p : Pg w g gb c h L X) (hb : Below B w w') (h1 : g < B) (h2 : gb < B) : Pg w' g gb c h L X :=
  ⟨(hb.block g h1).trans p.head, (hb.block gb h2).trans p.row, p.cap, p.most, p.byts⟩
theorem Rd.keepB {w w' : World} {A : Option Addr} {l : List Int} {B : Nat} (h : Rd w A l) (hb : Below B w w') (hB : w.heap.size ≤ B) : Rd w' A l := h.keep (hb.mono hB)
theorem NdAt.setCs {w : World} {g : Nat} {n : Nd} {A A' : Option Addr} {c : Nat} (h : NdAt w g n A c) (cs' : List Cl) (c' : Nat) : NdAt (w.setCell ⟨g, 1, none⟩ (.slice A' cs'.length c')) g ⟨n.kind, n.right, cs'⟩ A' c' := by
  obtain ⟨h0, h1, h2⟩ := h.all
  intro j u hu
  have hj : j < 3 := (List.getElem?_eq_some_iff.1 hu).1
  rw [Nat.zero_add]
  rcases (by omega : j = 0 ∨ j = 1 ∨ j = 2) with rfl | rfl | rfl
  · rw [World.cell?_setCell_other _ _ _ _ (by simp), h0]; exact hu
  · rw [World.cell?_setCell_same _ _ _ h1]; exact hu
  · rw [World.cell?_setCell_other _ _ _ _ (by simp), h2]; exact hu
theorem NdAt.setRt {w : World} {g : Nat} {n : Nd} {A : Option Addr} {c : Nat} (h : NdAt w g n A c) (r : Int) : NdAt (w.setCell ⟨g, 2, none⟩ (.int .i64 r)) g ⟨n.kind, r, n.cs⟩ A c := by
  obtain ⟨h0, h1, h2⟩ := h.all
  intro j u hu
  have hj : j < 3 := (List.getElem?_eq_some_iff.1 hu).1
  rw [Nat.zero_add]
  rcases (by omega : j = 0 ∨ j = 1 ∨ j = 2) with rfl | rfl | rfl
  · rw [World.cell?_setCell_other _ _ _ _ (by simp), h0]; exact hu
  · rw [World.cell?_setCell_other _ _ _ _ (by simp), h1]; exact hu
  · rw [World.cell?_setCell_same _ _ _ h2]; exact hu
theorem wp_load_clg5 {ops : Array Oper} {rest : List Oper} {op : Oper} {a : Act} {w : World} {Q : Exit → Act → World → Prop} (hgd : op.guard = none) (x : Operand) (ho : op.op = .load 55 x) (g : Nat) (c : Cl) (A : Option Addr) (n d : Nat)
    (hx : a.eval x = .pointer (some ⟨g, 0, none⟩)) (hc : w.rangeAt g 0 (clC c A n d)) (h : wpList Try.prog ops Q rest (a.put op.dst (.agg #[.int .i64 c.key, .int .i64 c.child, .int .i64 c.total, .slice A n d, .int .i64 c.spill])) w) : wpList Try.prog ops Q (op :: rest) a w :=
  wp_load_clo hgd x ho g 0 c A n d hx hc h
theorem step_store_nd {ops : Array Oper} {op : Oper} {a : Act} {w : World} {K : Act → World → Prop} {Q : Exit → Act → World → Prop} {Z : Prop} (hgd : op.guard = none) (x y : Operand) (ho : op.op = .store 69 x y) (g : Nat) (n : Nd) (A : Option Addr) (c : Nat)
    (hx : a.eval x = .pointer (some ⟨g, 0, none⟩)) (hy : a.eval y = n.val A c) (ht : w.there g 0 3) (h : K (a.put op.dst undef) (w.setCells g 0 (ndC n A c))) :
    if Region.wanted op (yielded ops a.tmps) = true then Oper.wp Try.prog op a w K Q else Z := by
  have hw : Region.wanted op (yielded ops a.tmps) = true := by simp [Region.wanted, hgd]
  rw [if_pos hw]
  exact wp_store_mid 69 x y ho g 0 (ndC n A c).toArray hx hy ht size_nd (one_nd n A c) h
def KRel1 (w4 : World) (nb : Nat) (L : List Int) (iv : Value) (wr : World) : Prop :=
  ∃ j : Nat, j ≤ 4 ∧ iv = .int .i64 j ∧ NdAt wr nb ⟨bt L 0, rtJ L j, []⟩ none 0 ∧ wr.there nb 0 3 ∧ TyAt wr nb 69 ∧ Below nb w4 wr
def KRel2 (w5 : World) (nb : Nat) (L : List Int) (iv : Value) (wr : World) : Prop :=
  ∃ (j : Nat) (A : Option Addr) (c : Nat), j ≤ kOf L 8 ∧ iv = .int .i64 j ∧ NdAt wr nb ⟨bt L 0, rtJ L 4, ndCells L j⟩ A c ∧ wr.there nb 0 3 ∧ TyAt wr nb 69 ∧ OwnCl wr 0 w5.heap.size A j c (ndCells L j) ∧ (∀ t, t < j → (decC (bt L 0) (cOf L 8 t)).2 = 0) ∧ Below nb w5 wr

set_option maxHeartbeats 64000000 in
theorem nread_any (w : World) (A : Option Addr) (n c : Nat) (L : List Int) (hn : L.length = n) (hnc : n ≤ c) (hcm : c ≤ maxLen) (hA : Rd w A L) (hB : IsB L) (hsz : isSz (n : Int)) (R : Ending → World → Prop) (hR : R = ReadN w L) :
    Calls Try.prog 92 #[.slice A n c] w R := by
  have HR := Lib.hid hR; clear hR
  have HA := Lib.hid hA
  have HN := Lib.hid hn
  have HB := Lib.hid hB
  have hn01 : 256 ≤ n ∧ n ≤ 4096 := by unfold isSz at hsz; omega
  have hmay : mayP (L.length : Int) ((8 : Nat) : Int) := by rw [hn]; exact ⟨by omega, by omega, by omega, by omega⟩
  have HMAY := Lib.hid hmay
  obtain ⟨W1, hW1⟩ : ∃ W, W = w.alloc (.cells #[.int .i64 0, .slice none 0 0, .int .i64 0] 69) := ⟨_, rfl⟩
  have hb1 : Below w.heap.size w W1 := by rw [hW1]; exact (Below.refl _ _).alloc (Nat.le_refl _) _
  have hs1 : w.heap.size < W1.heap.size := by rw [hW1]; simp
  have HT1 := Lib.hid (show W1.there w.heap.size 0 3 by rw [hW1]; exact there_new3 w _ _ _ _)
  have HTYw := Lib.hid (show TyAt W1 w.heap.size 69 by rw [hW1]; exact TyAt.new w _ _)
  have HW := Lib.hid hW1
  clear hW1 hn hA hB hmay hsz
  go_enter Try.func92, Try.ntmps92
  go_upto_region 1 with fail
  rw [← HW.out]
  clear HW
  go_wp2_with fail
  refine (pOf_any _ A n c L HN.out (by omega) (HA.out.keep hb1) HB.out 8 (by omega) _ rfl).mono ?_
  rintro e w2 ⟨hb2, ⟨h, _⟩ | ⟨_, hno, rfl⟩ | ⟨_, hof, g, gb, pc, X, rfl, hg0, hgb0, hp⟩⟩
  · exact absurd HMAY.out h
  · have HF := Lib.hid (show ¬ readOk L from fun h => hno h.1)
    have HT2 := Lib.hid (there_keepR HT1.out hb2 hs1)
    have q : ((14 : Int) != 0) = true := rfl
    have hb02 : Below w.heap.size w w2 := hb1.trans (hb2.mono (by omega))
    go_upto_region 3 with fail
    iterate 4 go_step
    refine wp_store_nd rfl _ _ rfl w.heap.size zeroN none 0 rfl rfl HT2.out ?_
    repeat go_step
    refine ret_nd rfl rfl (NdAt.stored HT2.out zeroN none 0) rfl ?_
    rw [HR.out]
    exact ⟨below_setCellsR hb02 (Nat.le_refl _) _ _, .inl ⟨HF.out, rfl⟩⟩
  have hofp : ofP L 8 := hof
  have hpp : Pg w2 g gb pc 8 L X := hp
  have q0 : ((0 : Int) != 0) = false := rfl
  have hM8 : (mdlOf L 8).h = 8 := mdlOf_h (by rw [HN.out]; omega)
  have HGD := Lib.hid hofp.1
  have HIP := Lib.hid hofp.2
  have HOFP := Lib.hid hofp
  have HM8 := Lib.hid hM8
  have hkle := hofp.1.kle
  have hKk := mdlOf_k L 8
  obtain ⟨Kn, hKn⟩ : ∃ k, kOf L 8 = k := ⟨_, rfl⟩
  have hKn1 : Kn ≤ 2047 := by rw [← hKn, ← hKk]; exact hkle
  have HKN := Lib.hid hKn
  have HKK := Lib.hid (hKk.trans hKn)
  have hlt2 := hpp.lt
  have hz2 := hb2.size
  have HP2 := Lib.hid hpp
  have HT2 := Lib.hid (there_keepR HT1.out hb2 hs1)
  have HTY2 := Lib.hid (HTYw.out.keepB hb2 hs1)
  have hb02 : Below w.heap.size w w2 := hb1.trans (hb2.mono (by omega))
  have HA2 := Lib.hid (HA.out.keep hb02)
  clear hof hofp hp hpp hM8 hb2 HT1 hKk hKn hkle hb1
  -- its kind
  obtain ⟨ab, aoff, hAe, hablt, hac⟩ := HA2.out.at (by rw [HN.out]; omega)
  have c0 := hac 0 (by rw [HN.out]; omega)
  rw [Nat.add_zero] at c0
  have hk0 := IsB.bt HB.out 0
  obtain ⟨kd, hkd⟩ : ∃ x, bt L 0 = x := ⟨_, rfl⟩
  rw [hkd] at c0 hk0
  have HKD := Lib.hid hkd
  have ew : IntKind.i64.wrap kd = kd := IntWalk.i64_in _ (by omega)
  obtain ⟨W3, hW3⟩ : ∃ W, W = w2.alloc (.cells #[.int .i64 0, .slice none 0 0, .int .i64 0] 69) := ⟨_, rfl⟩
  have hb23 : Below w2.heap.size w2 W3 := by rw [hW3]; exact (Below.refl _ _).alloc (Nat.le_refl _) _
  have HT3 := Lib.hid (show W3.there w2.heap.size 0 3 by rw [hW3]; exact there_new3 w2 _ _ _ _)
  have HW3 := Lib.hid hW3
  have hl3 : w2.heap.size < W3.heap.size := by rw [hW3]; simp
  subst hAe
  clear hac hkd hW3
  go_upto_region 4 with fail
  iterate 19 go_step
  rw [← HW3.out]
  refine wp_store_nd rfl _ _ rfl w2.heap.size ⟨kd, 0, []⟩ none 0 rfl rfl HT3.out ?_
  clear c0 ew
  obtain ⟨w4, hw4⟩ : ∃ W, W = W3.setCells w2.heap.size 0 (ndC ⟨kd, 0, []⟩ none 0) := ⟨_, rfl⟩
  have HN4 := Lib.hid (show NdAt w4 w2.heap.size ⟨kd, 0, []⟩ none 0 by rw [hw4]; exact NdAt.stored HT3.out _ _ _)
  have HT4 := Lib.hid (show w4.there w2.heap.size 0 3 by rw [hw4]; exact World.there_setCells HT3.out _ _ _)
  have HTY4 := Lib.hid (show TyAt w4 w2.heap.size 69 by rw [hw4, HW3.out]; exact TyAt.sets _ _ _ _ (TyAt.new w2 _ _))
  have hb24 : Below w2.heap.size w2 w4 := by rw [hw4]; exact below_setCellsR hb23 (Nat.le_refl _) _ _
  have hl4 : w2.heap.size < w4.heap.size := by rw [hw4, size_setCells]; exact hl3
  rw [← hw4]
  obtain ⟨nb, hnb⟩ : ∃ x, w2.heap.size = x := ⟨_, rfl⟩
  rw [hnb] at HN4 HT4 HTY4 hl4 hlt2 hz2 ⊢
  have hb24' : Below nb w2 w4 := by rw [← hnb]; exact hb24
  have hrb : w.heap.size < nb := by omega
  have hcut := run_cut (some ⟨ab, aoff, none⟩) n c 4 4 (by omega)
  rw [show ((4 : Nat) : Int) = 4 from rfl, show (4 : Int) + 4 = 8 from rfl] at hcut
  obtain ⟨D, hD⟩ : ∃ D, cutA (some ⟨ab, aoff, none⟩) c 4 = D := ⟨_, rfl⟩
  have HCUT := Lib.hid (show Rd w2 D ((L.drop 4).take 4) by rw [← hD]; exact cutA_rd HA2.out c 4 4 (by rw [HN.out]; exact hnc))
  have HCL := Lib.hid (show ((L.drop 4).take 4).length = 4 by rw [List.length_take, List.length_drop, HN.out]; omega)
  rw [hD] at hcut
  have hsz2 : w2.heap.size ≤ nb := by omega
  clear hw4 hb24 hb23 HT3 HW3 hl3 hnb hD
  go_wp2_with fail
  clear hcut
  go_loopw [30] (KRel1 w4 nb L) (fun i _ => 4 - (intOf i).toNat)
  case atStart => exact ⟨0, by omega, rfl, by rw [HKD.out]; exact HN4.out, HT4.out, HTY4.out, Below.refl _ _⟩
  case round =>
    obtain ⟨j, hj, rfl, hat, hth, hty, hb⟩ := hrel
    have HTY := Lib.hid hty
    have HAT := Lib.hid hat
    have HTH := Lib.hid hth
    clear hat hth hty HN4 HT4 HTY4
    have m2 := HAT.out.all.2.2
    by_cases hlt : j < 4
    · have hlt' : (j : Int) < 4 := by omega
      have i0 : (0 : Int) ≤ (j : Int) := by omega
      have hrd : Rd wr D ((L.drop 4).take 4) := HCUT.out.keep ((hb24'.trans hb).mono hsz2)
      obtain ⟨b, off, hDe, _, hcc⟩ := hrd.at (by rw [HCL.out]; omega)
      have cj := hcc j (by rw [HCL.out]; exact hlt)
      rw [bt_dt, if_pos hlt] at cj
      have hx := IsB.bt HB.out (4 + j)
      have hrt := rtJ_lt3 HB.out j (by omega)
      have hst := rtJ_step (b := L) (j := j) (by rw [HN.out]; omega)
      obtain ⟨x, hxe⟩ : ∃ x, bt L (4 + j) = x := ⟨_, rfl⟩
      rw [hxe] at cj hx hst
      simp only at m2
      obtain ⟨r, hre⟩ : ∃ r, rtJ L j = r := ⟨_, rfl⟩
      rw [hre] at m2 hrt hst
      have HST := Lib.hid hst
      have e1 : IntKind.i64.wrap (r * 256) = r * 256 := IntWalk.i64_in _ (by omega)
      have e2 := or256i hrt.1 hrt.2 hx.1 hx.2
      have e3 : IntKind.i64.wrap x = x := IntWalk.i64_in _ (by omega)
      have hf2 := (HTH.out 2 (by decide)).2
      rw [Nat.zero_add] at hf2
      subst hDe
      clear hcc hxe hst hrd hre
      go_wp2_with fail
      go_roundw
      case rel =>
        have hat2 := HAT.out.setRt (r * 256 + x)
        rw [← HST.out] at hat2
        exact ⟨j + 1, by omega, by go_num, by rw [HST.out] at hat2 ⊢; exact hat2, there_setG HTH.out _ _, HTY.out.set _ _, hb.setCell (Nat.le_refl _) _⟩
      case measure => simp [intOf]; omega
    · obtain rfl : j = 4 := by omega
      have hbw : Below nb w2 wr := hb24'.trans hb
      have HPr := Lib.hid (HP2.out.keepB hbw hlt2.1 hlt2.2)
      have hsr : nb < wr.heap.size := by have := hb.size; omega
      have hKR : (mdlOf L 8).k = Kn := HKK.out
      go_wp2_with fail
      refine (pMany_any _ g gb pc L X (mdlOf L 8) (by rw [HM8.out]; exact HPr.out) HIP.out HGD.out).mono ?_
      rintro e w5 ⟨rfl, rfl⟩
      rw [HKK.out]
      clear hKR m2
      go_wp2_with fail
      go_loopw [44] (KRel2 wr nb L) (fun i _ => Kn - (intOf i).toNat)
      case atStart => exact ⟨0, none, 0, Nat.zero_le _, rfl, HAT.out, HTH.out, HTY.out, OwnCl.nil _ _ _, fun t ht => by omega, Below.refl _ _⟩
      case round =>
        rename World => wk
        obtain ⟨k, CA, cc, hk, rfl, hat, hth, hty, hown, hall, hbk⟩ := hrel
        have HTYk := Lib.hid hty
        rw [HKN.out] at hk
        have HATk := Lib.hid hat
        have HTHk := Lib.hid hth
        have HOWk := Lib.hid hown
        have HALL := Lib.hid hall
        have hzk := hbk.size
        have HPk := Lib.hid (HPr.out.keepB hbk hlt2.1 hlt2.2)
        have HTYr := Lib.hid (HTY2.out.keepB (hbw.trans hbk) hrb)
        have HTRk := Lib.hid (there_keepR HT2.out (hbw.trans hbk) hrb)
        have hb0k : Below w.heap.size w wk := hb02.trans ((hbw.trans hbk).mono (Nat.le_of_lt hrb))
        clear hat hth hty hown hall HAT HTH HTY
        by_cases hlt : k < Kn
        · have hlt' : (k : Int) < (Kn : Int) := by omega
          have i0 : (0 : Int) ≤ (k : Int) := by omega
          go_wp2_with fail
          refine (pCell_ok _ g gb pc L X (mdlOf L 8) (by rw [HM8.out]; exact HPk.out) HIP.out HGD.out k (by rw [HKK.out]; exact hlt)).mono ?_
          rintro e w6 ⟨A6, n6, c6, rfl, hown6, hb6⟩
          rw [mdlOf_cl (by rw [HKN.out]; exact hlt)] at hown6
          have HO6 := Lib.hid hown6
          have HAT6 := Lib.hid (HATk.out.keep hb6)
          have m0 := HAT6.out.all.1
          simp only at m0
          rw [HKD.out] at m0
          have hca6 := hown6.cap
          have HCB := Lib.hid (show IsB (cOf L 8 k) from isB_dt HB.out _ _)
          have hz6 := hb6.size
          clear hown6
          go_wp2_with fail
          refine (cdecC_any _ kd A6 n6 c6 (cOf L 8 k) HO6.out.len hca6.1 hca6.2 HO6.out.rd HCB.out).mono ?_
          rintro e w7 ⟨A7, n7, c7, rfl, hown7, hb7⟩
          obtain ⟨cl, hcl⟩ : ∃ x, (decC kd (cOf L 8 k)).1 = x := ⟨_, rfl⟩
          obtain ⟨zz, hzz⟩ : ∃ x, (decC kd (cOf L 8 k)).2 = x := ⟨_, rfl⟩
          rw [hcl] at hown7
          rw [hcl, hzz]
          have hn7 : cl.loc.length = n7 := hown7.len
          subst hn7
          have HCLE := Lib.hid hcl
          have HZZ := Lib.hid hzz
          have HO7 := Lib.hid hown7
          have hbk7 : Below wk.heap.size wk w7 := hb6.trans (hb7.mono hz6)
          have hzk7 := hbk7.size
          obtain ⟨W8, hW8⟩ : ∃ W, W = w7.alloc (.cells #[.int .i64 0, .int .i64 0, .int .i64 0, .slice none 0 0, .int .i64 0] 55) := ⟨_, rfl⟩
          have hb8 : Below w7.heap.size w7 W8 := by rw [hW8]; exact (Below.refl _ _).alloc (Nat.le_refl _) _
          have HT8 := Lib.hid (show W8.there w7.heap.size 0 5 by rw [hW8]; exact there_new5 w7 _ _ _ _ _ _)
          have HW8 := Lib.hid hW8
          clear hW8 hcl hzz hown7 hb6 hb7 m0 HAT6
          simp only []
          iterate 13 go_step
          rw [← HW8.out]
          clear HW8
          refine wp_store_cl rfl _ _ rfl w7.heap.size cl A7 cl.loc.length c7 rfl rfl HT8.out ?_
          obtain ⟨w9, hw9⟩ : ∃ W, W = W8.setCells w7.heap.size 0 (clC cl A7 cl.loc.length c7) := ⟨_, rfl⟩
          have hb79 : Below w7.heap.size w7 w9 := by rw [hw9]; exact below_setCellsR hb8 (Nat.le_refl _) _ _
          have HR9 := Lib.hid (show w9.rangeAt w7.heap.size 0 (clC cl A7 cl.loc.length c7) by rw [hw9]; exact World.rangeAt_setCells_same _ _ _ _ HT8.out)
          have hbk9 : Below wk.heap.size wk w9 := hbk7.trans (hb79.mono hzk7)
          have HO9 := Lib.hid (HO7.out.keep hb79)
          have HAT9 := Lib.hid (HATk.out.keep hbk9)
          have HTH9 := Lib.hid (there_keepR HTHk.out hbk9 (by omega))
          have HOW9 := Lib.hid (HOWk.out.keep hbk9)
          have HTY9 := Lib.hid (HTYk.out.keepB hbk9 (by omega))
          have HTR9 := Lib.hid (there_keepR HTRk.out hbk9 (by omega))
          have hb09 : Below w.heap.size w w9 := hb0k.trans (hbk9.mono hb0k.size)
          have hz9 := hbk9.size
          rw [← hw9]
          clear hw9 hb8 HT8 hb79 hbk7 HO7 HATk HTHk HOWk HTRk
          by_cases hz : zz = 0
          case neg =>
            have HF := Lib.hid (show ¬ readOk L from fun h => hz (by rw [← HZZ.out, ← HKD.out]; exact h.2 k (by rw [HKN.out]; exact hlt)))
            have q : (zz != 0) = true := by simp [hz]
            clear hz
            go_upto_region 16 with fail
            iterate 4 go_step
            refine wp_store_nd rfl _ _ rfl w.heap.size zeroN none 0 rfl rfl HTR9.out ?_
            repeat go_step
            refine ret_nd rfl rfl (NdAt.stored HTR9.out zeroN none 0) rfl ?_
            rw [HR.out]
            exact ⟨below_setCellsR hb09 (Nat.le_refl _) _ _, .inl ⟨HF.out, rfl⟩⟩
          subst hz
          have m1 := HAT9.out.all.2.1
          simp only [ndCells_len] at m1
          go_upto_region 17 with fail
          iterate 7 go_step
          clear m1
          refine wp_load_clg5 rfl _ rfl w7.heap.size cl A7 cl.loc.length c7 rfl HR9.out ?_
          have hba : Below w9.heap.size w9 (w9.alloc (.cells #[.int .i64 cl.key, .int .i64 cl.child, .int .i64 cl.total, .slice A7 cl.loc.length c7, .int .i64 cl.spill] 55)) := (Below.refl _ _).alloc (Nat.le_refl _) _
          iterate 3 go_step
          have hc7 := HO9.out.cap
          refine wp_append_cl rfl (.tmp 64) (.tmp 66) rfl 0 wr.heap.size (Nat.zero_le _) CA k cc (ndCells L k) rfl (HOW9.out.keep hba) _ 1 1 [cl] rfl rfl (.inr ⟨_, 0, clC cl A7 cl.loc.length c7, rfl, fun t u hu => by
            rw [Nat.zero_add, heap_cell (heap_alloc_new w9 _)]
            simpa [clC] using hu, CellVals.one hc7.1 hc7.2 (.inr ⟨_, HO9.out.keep hba⟩)⟩) (by omega) (by simp; omega) ?_
          intro A10 c10 w10 hown10 hb10
          have hbB : Below wr.heap.size wk w10 := (hbk9.mono hzk).trans ((hba.mono (by omega)).trans hb10)
          have hbN : Below nb wk w10 := hbB.mono (by omega)
          have HAT10 := Lib.hid (show NdAt w10 nb ⟨bt L 0, rtJ L 4, ndCells L k⟩ CA cc from (HAT9.out.keepB ((hba.mono (by omega)).trans hb10) hsr))
          have HTH10 := Lib.hid (there_keepR HTH9.out ((hba.mono (by omega)).trans hb10) hsr)
          have HTY10 := Lib.hid (HTY9.out.keepB ((hba.mono (by omega)).trans hb10) hsr)
          have HOW10 := Lib.hid (show OwnCl w10 0 wr.heap.size A10 (k + 1) c10 (ndCells L (k + 1)) by
            have e : ndCells L (k + 1) = ndCells L k ++ [cl] := by rw [ndCells_step, HKD.out, HCLE.out]
            rw [e]
            exact hown10)
          clear hown10 hb10 hba HAT9 HTH9 HOW9 HO9 HR9 HTR9 HO6
          have m1 := HAT10.out.all.2.1
          simp only [ndCells_len] at m1
          have hf1 := (HTH10.out 1 (by decide)).2
          rw [Nat.zero_add] at hf1
          go_wp2_with fail
          go_roundw
          case rel =>
            have hat := HAT10.out.setCs (A' := A10) (ndCells L (k + 1)) c10
            rw [ndCells_len] at hat
            refine ⟨k + 1, A10, c10, by rw [HKN.out]; omega, by go_num, hat, there_setG HTH10.out _ _, HTY10.out.set _ _, HOW10.out.ty HTY10.out (by decide) (by decide) (Nat.zero_le _) (fun i hi _ => heap_setG_ne _ _ _ hi), fun t ht => ?_, (hbk.trans hbN).setCell (Nat.le_refl _) _⟩
            · by_cases e : t = k
              · rw [e, HKD.out]; exact HZZ.out
              · exact HALL.out t (by omega)
          case measure => simp [intOf]; omega
        · obtain rfl : k = Kn := by omega
          have HROK := Lib.hid (show readOk L from ⟨HOFP.out, fun t ht => HALL.out t (by rw [HKN.out] at ht; exact ht)⟩)
          have hlL : L.length ≤ 4096 := by rw [HN.out]; exact hn01.2
          have HNOK := Lib.hid (nodeOf_ok HB.out hlL HROK.out.2)
          have HNF := Lib.hid (show NdAt wk nb (nodeOf L) CA cc by
            have := HATk.out
            rw [← HKN.out] at this
            exact this)
          have hNL : (nodeOf L).cs.length = k := by show (ndCells L (kOf L 8)).length = k; rw [ndCells_len, HKN.out]
          have HNL := Lib.hid hNL
          have HOWF := Lib.hid (show OwnCl wk 0 wr.heap.size CA (nodeOf L).cs.length cc (nodeOf L).cs by
            rw [hNL]
            have := HOWk.out
            rwa [show ndCells L k = (nodeOf L).cs by show ndCells L k = ndCells L (kOf L 8); rw [HKN.out]] at this)
          obtain ⟨N0, hN0⟩ : ∃ m, nodeOf L = m := ⟨_, rfl⟩
          rw [hN0] at HNF HOWF HNL HNOK
          have HN0 := Lib.hid hN0
          have F0 : ∀ W : World, NdAt W nb N0 CA cc → W.cell? ⟨nb, 0, none⟩ = some (.int .i64 N0.kind) := fun W hW => hW.all.1
          have F1 : ∀ W : World, NdAt W nb N0 CA cc → W.cell? ⟨nb, 1, none⟩ = some (.slice CA N0.cs.length cc) := fun W hW => hW.all.2.1
          have F2 : ∀ W : World, NdAt W nb N0 CA cc → W.cell? ⟨nb, 2, none⟩ = some (.int .i64 N0.right) := fun W hW => hW.all.2.2
          have hnlk : nb < wk.heap.size := by omega
          clear hNL hN0 HATk HTHk HOWk hlL
          go_upto_region 19 with fail
          refine wp_region_held_drew (S := (fun W => NdAt W nb N0 CA cc)) (by kernel_rfl) ?_ (fun hHeld => ?_)
          · exact HNF.out
          refine' wpAnyH_take (i := 0) (oi := _) (v := _) rfl (by kernel_rfl) (by kernel_rfl) (by kernel_rfl) (fun _ _ _ h => h) (Or.inl ⟨by rfl, ?hz1⟩) (by assumption) ?rezt1
          case hz1 => (intro w' hSw; (try dsimp only at hSw); go_simp; try with_reducible rfl)
          try simp only [Act.put, List.setIfInBounds_toArray, List.set_cons_zero, List.set_cons_succ, List.getElem_toArray, List.getElem_cons_zero, List.getElem_cons_succ]
          refine' wpAnyH_take (i := 1) (oi := _) (v := _) rfl (by kernel_rfl) (by kernel_rfl) (by kernel_rfl) (fun _ _ _ h => h) (Or.inl ⟨by rfl, ?hz2⟩) (by assumption) ?rezt2
          case hz2 => (intro w' hSw; (try dsimp only at hSw); go_simp; try with_reducible rfl)
          try simp only [Act.put, List.setIfInBounds_toArray, List.set_cons_zero, List.set_cons_succ, List.getElem_toArray, List.getElem_cons_zero, List.getElem_cons_succ]
          refine wpAnyH_ready (rs := [2]) (by kernel_rfl) (by simp) ?_
          refine AllReadyH.cons (o := _) rfl (fun K hK => ?_) AllReadyH.nil
          go_simp
          have hbd : Below wk.heap.size wk wk.drew := (Below.refl _ wk).drew
          go_at_call 89
          refine (right_any _ N0 CA cc (by rw [HNL.out]; omega) HNOK.out.1 (fun d hd => by have := HNOK.out.2 d hd; omega) (HOWF.out.rd.keep hbd) _ rfl).mono ?_
          rintro e w6 ⟨rfl, hb6⟩
          have hbk6 : Below wk.heap.size wk w6 := hbd.trans (hb6.mono (Nat.le_refl _))
          clear hb6 hbd
          refine hK.out _ _ ?_ (fun hHeld => ?_)
          · exact HNF.out.keep hbk6
          clear hK K
          try simp only [Act.put, List.setIfInBounds_toArray, List.set_cons_zero, List.set_cons_succ, List.getElem_toArray, List.getElem_cons_zero, List.getElem_cons_succ]
          have HTR6 := Lib.hid (there_keepR HTRk.out hbk6 (by omega))
          have HNF6 := Lib.hid (HNF.out.keep hbk6)
          have hnew : NdAt (w6.setCells w.heap.size 0 (ndC N0 CA cc)) nb N0 CA cc := fun j u hu => by
            rw [← HNF6.out j u hu]
            simp [World.cell?, heap_setCells_ne _ _ _ _ (show nb ≠ w.heap.size by omega)]
          refine wpAnyH_ready (rs := [3]) (by kernel_rfl) (by simp) ?_
          refine AllReadyH.cons (o := _) rfl (fun K hK => ?_) AllReadyH.nil
          refine step_store_nd rfl _ _ rfl w.heap.size N0 CA cc rfl rfl HTR6.out ?_
          refine hK.out _ _ ?_ (fun hHeld => ?_)
          · exact hnew
          clear hK K
          try simp only [Act.put, List.setIfInBounds_toArray, List.set_cons_zero, List.set_cons_succ, List.getElem_toArray, List.getElem_cons_zero, List.getElem_cons_succ]
          refine' wpAnyH_take (i := 4) (oi := _) (v := _) rfl (by kernel_rfl) (by kernel_rfl) (by kernel_rfl) (fun _ _ _ h => h) (Or.inl ⟨by rfl, ?hz3⟩) (by assumption) ?rezt3
          case hz3 => (intro w' hSw; (try dsimp only at hSw); go_simp; try with_reducible rfl)
          try simp only [Act.put, List.setIfInBounds_toArray, List.set_cons_zero, List.set_cons_succ, List.getElem_toArray, List.getElem_cons_zero, List.getElem_cons_succ]
          refine wpAnyH_done (by kernel_rfl) ?_ _
          clear F0 F1 F2 hnew
          repeat go_step
          refine ret_nd rfl rfl (NdAt.stored HTR6.out N0 CA cc) rfl ?_
          rw [HR.out]
          refine ⟨below_setCellsR (hb0k.trans (hbk6.mono hb0k.size)) (Nat.le_refl _) _ _, .inr ⟨HROK.out, CA, cc, by rw [HN0.out]; rfl, ?_⟩⟩
          rw [HN0.out]
          have hty : TyAt w6 w.heap.size 69 := (HTYr.out.keepB hbk6 (by omega))
          obtain ⟨k1, vs, k2, k3⟩ := (HOWF.out.keep hbk6).ty (w' := w6.setCells w.heap.size 0 (ndC N0 CA cc)) hty (by decide) (by decide) (Nat.zero_le _) (fun i hi _ => heap_setCells_ne _ _ _ _ hi)
          refine ⟨k1, vs, ⟨k2.1, ?_⟩, k3⟩
          rcases k2.2 with hv | ⟨g3, cap3, cur3, hv, hbg, rest⟩
          · exact .inl hv
          · exact .inr ⟨g3, cap3, cur3, hv, by omega, rest⟩
end
section
open Go.RowKit
set_option maxRecDepth 100000
set_option linter.unusedVariables false
set_option linter.unusedSimpArgs false
set_option linter.unnecessarySimpa false
theorem equal_any (w : World) (A B : Option Addr) (n c m d : Nat) (l k : List Int) (hl : l.length = n) (hk : k.length = m) (hA : Rd w A l) (hB : Rd w B k) (bl : IsB l) (bk : IsB k) :
    Calls Try.prog 93 #[.slice A n c, .slice B m d] w fun e w' => e = .returned (.bool (beqL l k)) ∧ w = w' := by
  have h1 := run_str w A n c l hl hA
  have h2 := run_str w B m d k hk hB
  have HC := Lib.hid (str_beq bl bk)
  obtain ⟨S0, hS0⟩ : ∃ S, strOfNums l = S := ⟨_, rfl⟩
  obtain ⟨S1, hS1⟩ : ∃ S, strOfNums k = S := ⟨_, rfl⟩
  rw [hS0] at h1 HC
  rw [hS1] at h2 HC
  clear hS0 hS1 hA hB bl bk hl hk
  go_enter Try.func93, Try.ntmps93
  go_wp2_with fail
  go_ret
  exact ⟨ret_bool HC.out, rfl⟩
theorem OwnCl.mono {w : World} {lo base base' : Nat} {A : Option Addr} {m c : Nat} {cs : List Cl} (h : OwnCl w lo base A m c cs) (hb : base' ≤ base) : OwnCl w lo base' A m c cs := by
  obtain ⟨k1, vs, k2, k3⟩ := h
  refine ⟨k1, vs, ⟨k2.1, ?_⟩, k3⟩
  rcases k2.2 with hv | ⟨g3, cap3, cur3, hv, hbg, rest⟩
  · exact .inl hv
  · exact .inr ⟨g3, cap3, cur3, hv, by omega, rest⟩
theorem ndCells_le {b : List Int} (h : ofP b 8) (hl : 8 ≤ b.length) : (nodeOf b).cs.length ≤ 2047 := by
  have h1 := h.1.kle
  rw [mdlOf_k] at h1
  show (ndCells b (kOf b 8)).length ≤ 2047
  rw [ndCells_len]
  exact h1

set_option maxHeartbeats 32000000 in
theorem nDecode_any (w : World) (A : Option Addr) (n c : Nat) (L : List Int) (hn : L.length = n) (hnc : n ≤ c) (hcm : c ≤ maxLen) (hA : Rd w A L) (hB : IsB L) (R : Ending → World → Prop) (hR : R = DecN w L) :
    Calls Try.prog 44 #[.slice A n c] w R := by
  have HR := Lib.hid hR; clear hR
  have HA := Lib.hid hA
  have HN := Lib.hid hn
  have HB := Lib.hid hB
  have hn63 : n ≤ 9223372036854775807 := by unfold maxLen at hcm; omega
  obtain ⟨W1, hW1⟩ : ∃ W, W = w.alloc (.cells #[.int .i64 0, .slice none 0 0, .int .i64 0] 69) := ⟨_, rfl⟩
  have hb1 : Below w.heap.size w W1 := by rw [hW1]; exact (Below.refl _ _).alloc (Nat.le_refl _) _
  have hs1 : w.heap.size < W1.heap.size := by rw [hW1]; simp
  have HT1 := Lib.hid (show W1.there w.heap.size 0 3 by rw [hW1]; exact there_new3 w _ _ _ _)
  have HTY1 := Lib.hid (show TyAt W1 w.heap.size 69 by rw [hW1]; exact TyAt.new w _ _)
  have HW := Lib.hid hW1
  clear hW1 hn hA hB
  go_enter Try.func44, Try.ntmps44
  go_upto_region 1 with fail
  rw [← HW.out]
  clear HW
  go_wp2_with fail
  refine (isSize_any _ (n : Int) (by omega)).mono ?_
  rintro e w1 ⟨rfl, rfl⟩
  by_cases hsz : isSz (n : Int)
  case neg =>
    have HF := Lib.hid (show ¬ isSz (L.length : Int) by rw [HN.out]; exact hsz)
    rw [decide_eq_false hsz]
    clear hsz
    go_upto_region 2 with fail
    iterate 4 go_step
    refine wp_store_nd rfl _ _ rfl w.heap.size zeroN none 0 rfl rfl HT1.out ?_
    repeat go_step
    refine ret_nd rfl rfl (NdAt.stored HT1.out zeroN none 0) rfl ?_
    rw [HR.out]
    exact ⟨below_setCellsR hb1 (Nat.le_refl _) _ _, .inl ⟨HF.out, rfl⟩⟩
  rw [decide_eq_true hsz]
  have HSZ := Lib.hid (show isSz (L.length : Int) by rw [HN.out]; exact hsz)
  have hn01 : 256 ≤ n ∧ n ≤ 4096 := by unfold isSz at hsz; omega
  go_wp2_with fail
  refine (nread_any _ A n c L HN.out hnc hcm (HA.out.keep hb1) HB.out hsz _ rfl).mono ?_
  clear hsz
  rintro e w2 ⟨hb2, ⟨hno, rfl⟩ | ⟨hro, CA, cc, rfl, hown⟩⟩
  · have HF := Lib.hid (show ¬ decOk L from fun h => hno h.1)
    have HT2 := Lib.hid (there_keepR HT1.out hb2 hs1)
    have hb02 : Below w.heap.size w w2 := hb1.trans (hb2.mono (by omega))
    obtain ⟨W3, hW3⟩ : ∃ W, W = w2.alloc (.cells #[.int .i64 0, .slice none 0 0, .int .i64 0] 69) := ⟨_, rfl⟩
    have hb3 : Below w2.heap.size w2 W3 := by rw [hW3]; exact (Below.refl _ _).alloc (Nat.le_refl _) _
    have HT3 := Lib.hid (show W3.there w2.heap.size 0 3 by rw [hW3]; exact there_new3 w2 _ _ _ _)
    have HW3 := Lib.hid hW3
    have hz2 := hb2.size
    clear hW3
    simp only []
    iterate 13 go_step
    rw [← HW3.out]
    refine wp_store_nd rfl _ _ rfl w2.heap.size zeroN none 0 rfl rfl HT3.out ?_
    obtain ⟨w4, hw4⟩ : ∃ W, W = W3.setCells w2.heap.size 0 (ndC zeroN none 0) := ⟨_, rfl⟩
    have hb24 : Below w2.heap.size w2 w4 := by rw [hw4]; exact below_setCellsR hb3 (Nat.le_refl _) _ _
    have HT4 := Lib.hid (there_keepR HT2.out hb24 (by omega))
    have hb04 : Below w.heap.size w w4 := hb02.trans (hb24.mono (by omega))
    rw [← hw4]
    clear hw4 hb3 hb24 HT3 HW3
    go_upto_region 5 with fail
    iterate 4 go_step
    refine wp_store_nd rfl _ _ rfl w.heap.size zeroN none 0 rfl rfl HT4.out ?_
    repeat go_step
    refine ret_nd rfl rfl (NdAt.stored HT4.out zeroN none 0) rfl ?_
    rw [HR.out]
    exact ⟨below_setCellsR hb04 (Nat.le_refl _) _ _, .inr (.inl ⟨HSZ.out, HF.out, rfl⟩)⟩
  have hlL : L.length ≤ 4096 := by rw [HN.out]; exact hn01.2
  have HNOK := Lib.hid (nodeOf_ok HB.out hlL hro.2)
  have HNL := Lib.hid (ndCells_le hro.1 (by rw [HN.out]; omega))
  have HRO := Lib.hid hro
  have HOW := Lib.hid hown
  have HT2 := Lib.hid (there_keepR HT1.out hb2 hs1)
  have HTY2 := Lib.hid (HTY1.out.keepB hb2 hs1)
  have hb02 : Below w.heap.size w w2 := hb1.trans (hb2.mono (by omega))
  have hz2 := hb2.size
  have HDEC := Lib.hid (show decOk L ↔ mayN (nodeOf L) ∧ fitN (nodeOf L) (L.length : Int) ∧ IsP L (nodeM (nodeOf L) L.length) from ⟨fun h => ⟨h.2.1.2, h.2.2⟩, fun h => ⟨HRO.out, ⟨HSZ.out, h.1⟩, h.2⟩⟩)
  obtain ⟨N0, hN0⟩ : ∃ m, nodeOf L = m := ⟨_, rfl⟩
  rw [hN0] at HNOK HNL HOW HDEC ⊢
  have HN0 := Lib.hid hN0
  obtain ⟨W3, hW3⟩ : ∃ W, W = w2.alloc (.cells #[.int .i64 0, .slice none 0 0, .int .i64 0] 69) := ⟨_, rfl⟩
  have hb3 : Below w2.heap.size w2 W3 := by rw [hW3]; exact (Below.refl _ _).alloc (Nat.le_refl _) _
  have HT3 := Lib.hid (show W3.there w2.heap.size 0 3 by rw [hW3]; exact there_new3 w2 _ _ _ _)
  have HW3 := Lib.hid hW3
  clear hW3 hN0 hro hown hlL hb2 HT1 HTY1
  simp only []
  iterate 13 go_step
  rw [← HW3.out]
  refine wp_store_nd rfl _ _ rfl w2.heap.size N0 CA cc rfl rfl HT3.out ?_
  obtain ⟨w4, hw4⟩ : ∃ W, W = W3.setCells w2.heap.size 0 (ndC N0 CA cc) := ⟨_, rfl⟩
  have hb24 : Below w2.heap.size w2 w4 := by rw [hw4]; exact below_setCellsR hb3 (Nat.le_refl _) _ _
  have HN4 := Lib.hid (show NdAt w4 w2.heap.size N0 CA cc by rw [hw4]; exact NdAt.stored HT3.out _ _ _)
  have HT4 := Lib.hid (there_keepR HT2.out hb24 (by omega))
  have HTY4 := Lib.hid (HTY2.out.keepB hb24 (by omega))
  have HOW4 := Lib.hid (HOW.out.keep hb24)
  have hb04 : Below w.heap.size w w4 := hb02.trans (hb24.mono (by omega))
  rw [← hw4]
  obtain ⟨nb, hnb⟩ : ∃ x, w2.heap.size = x := ⟨_, rfl⟩
  rw [hnb] at HN4 ⊢
  clear hw4 hb3 hb24 HT3 HW3 hnb HT2 HTY2 HOW hb02 hz2
  by_cases hm : mayN N0
  case neg =>
    have HF := Lib.hid (show ¬ decOk L from fun h => hm (HDEC.out.1 h).1)
    rw [decide_eq_false hm]
    clear hm
    go_upto_region 5 with fail
    iterate 4 go_step
    refine wp_store_nd rfl _ _ rfl w.heap.size zeroN none 0 rfl rfl HT4.out ?_
    repeat go_step
    refine ret_nd rfl rfl (NdAt.stored HT4.out zeroN none 0) rfl ?_
    rw [HR.out]
    exact ⟨below_setCellsR hb04 (Nat.le_refl _) _ _, .inr (.inl ⟨HSZ.out, HF.out, rfl⟩)⟩
  rw [decide_eq_true hm]
  have HM := Lib.hid hm
  clear hm
  go_upto_region 6 with fail
  go_step
  refine wp_load_nd rfl _ rfl nb N0 CA cc rfl HN4.out ?_
  go_wp2_with fail
  refine (nEncode_any _ N0 CA cc (n : Int) (by unfold i64b; omega) (by have := HNL.out; omega) HNOK.out.1 (fun d hd => by have := HNOK.out.2 d hd; omega) HOW4.out.rd _ rfl).mono ?_
  rintro e w5 ⟨hb5, hcs⟩
  have hz4 := hb04.size
  have HT5 := Lib.hid (there_keepR HT4.out hb5 (by have := HN4.out.lt; obtain ⟨cur, fr, h⟩ := HTY4.out; exact (Array.getElem?_eq_some_iff.1 h).1))
  have HTY5 := Lib.hid (HTY4.out.keepB hb5 (by obtain ⟨cur, fr, h⟩ := HTY4.out; exact (Array.getElem?_eq_some_iff.1 h).1))
  have HN5 := Lib.hid (HN4.out.keep hb5)
  have HOW5 := Lib.hid (HOW4.out.keep hb5)
  have hb05 : Below w.heap.size w w5 := hb04.trans (hb5.mono hz4)
  rcases hcs with ⟨hno, rfl⟩ | ⟨_, hnf, rfl⟩ | ⟨_, hf, A5, n5, c5, L5, rfl, hi5, hown5⟩
  · exact absurd ⟨by rw [← HN.out]; exact HSZ.out, HM.out⟩ hno
  · have HF := Lib.hid (show ¬ decOk L from fun h => hnf (by rw [← HN.out]; exact (HDEC.out.1 h).2.1))
    have q : ((5 : Int) != 0) = true := rfl
    go_upto_region 8 with fail
    iterate 4 go_step
    refine wp_store_nd rfl _ _ rfl w.heap.size zeroN none 0 rfl rfl HT5.out ?_
    repeat go_step
    refine ret_nd rfl rfl (NdAt.stored HT5.out zeroN none 0) rfl ?_
    rw [HR.out]
    exact ⟨below_setCellsR hb05 (Nat.le_refl _) _ _, .inr (.inl ⟨HSZ.out, HF.out, rfl⟩)⟩
  rw [Int.toNat_natCast] at hi5
  have HI5 := Lib.hid hi5
  have HO5 := Lib.hid hown5
  have q : ((0 : Int) != 0) = false := rfl
  have HGN := Lib.hid (show Good (nodeM N0 n) from nodeM_good (by rw [← HN.out]; exact HSZ.out) HM.out (fun d hd => (HNOK.out.1.2.2 d hd).2) hf)
  have HFN := Lib.hid hf
  clear hi5 hown5 hf
  go_wp2_with fail
  refine (equal_any _ A5 A n5 c5 n c L5 L HO5.out.len HN.out HO5.out.rd (HA.out.keep hb05) HI5.out.byts HB.out).mono ?_
  rintro e w6 ⟨rfl, rfl⟩
  by_cases hLL : L5 = L
  · have HD := Lib.hid (show decOk L from HDEC.out.2 ⟨HM.out, by rw [HN.out]; exact HFN.out, by rw [HN.out]; exact hLL ▸ HI5.out⟩)
    rw [(beqL_iff _ _).2 hLL]
    clear hLL
    go_upto_region 9 with fail
    go_step
    refine wp_load_nd rfl _ rfl nb N0 CA cc rfl HN5.out ?_
    refine wp_store_nd rfl _ _ rfl w.heap.size N0 CA cc rfl rfl HT5.out ?_
    repeat go_step
    refine ret_nd rfl rfl (NdAt.stored HT5.out N0 CA cc) rfl ?_
    rw [HR.out]
    refine ⟨below_setCellsR hb05 (Nat.le_refl _) _ _, .inr (.inr ⟨HSZ.out, HD.out, CA, cc, by rw [HN0.out]; rfl, ?_⟩)⟩
    rw [HN0.out]
    exact (HOW5.out.ty (w' := w5.setCells w.heap.size 0 (ndC N0 CA cc)) HTY5.out (by decide) (by decide) (Nat.zero_le _) (fun i hi _ => heap_setCells_ne _ _ _ _ hi)).mono (by omega)
  · have HF := Lib.hid (show ¬ decOk L from fun h => hLL (IsP.eq HGN.out HI5.out (by rw [← HN.out]; exact (HDEC.out.1 h).2.2)))
    rw [(beqL_no _ _).2 hLL]
    clear hLL
    go_upto_region 8 with fail
    iterate 4 go_step
    refine wp_store_nd rfl _ _ rfl w.heap.size zeroN none 0 rfl rfl HT5.out ?_
    repeat go_step
    refine ret_nd rfl rfl (NdAt.stored HT5.out zeroN none 0) rfl ?_
    rw [HR.out]
    exact ⟨below_setCellsR hb05 (Nat.le_refl _) _ _, .inr (.inl ⟨HSZ.out, HF.out, rfl⟩)⟩
end
end Go.Proofs.Ytoeaffmlolapnaa
