/- Several texts of this proof as one: SrA, SrD, SrF, SrH. Laid by merge.py. -/
import Derived.Test.YtoeaffmlolapnaaNpA
import Derived.Test.YtoeaffmlolapnaaNpB
import Derived.Test.YtoeaffmlolapnaaNpJ
import Derived.Test.YtoeaffmlolapnaaNpK
import Derived.ArgAppend
import Derived.BigQuiet
import Derived.ChangeOld
import Derived.Deep.DeepCutAuto
import Derived.Deep.Matrix
import Derived.Deep.MidRow
import Derived.Deep.QuietTactic
import Derived.Deep.RegionHeld3
import Derived.Deep.Slices
import Derived.Handy
import Derived.Laws.CopyOwn
import Derived.Laws.ResultCell
import Derived.Lib.AppendStr
import Derived.Lib.Hide
import Derived.Lib.SliceRun
import Derived.Lib.SmallJoins
import Derived.Maps.AppendAt
import Derived.OpenShut
import Derived.ProofKit
import Derived.ShutString
import Derived.SizedLaws
import Derived.Test.YtoeaffmlolapnaaProg
import Derived.WalkKit
import Derived.WalkSpells
namespace Go.Proofs.Ytoeaffmlolapnaa
section
open Go.RowKit
set_option maxRecDepth 100000
set_option linter.unusedVariables false
set_option linter.unusedSimpArgs false
set_option linter.unnecessarySimpa false
theorem run_cut_toG (T E : TypeId) (hT : Try.prog.underlying T = some (.slice E)) (hE : ∀ w, (sizeOf (Try.prog.elem T)).run Try.prog w = .ok 1 w) (A : Option Addr) (n c hi : Nat) (h : hi ≤ c) (w : World) :
    (Instr.slice T (.slice A n c) none (some (.int .i64 (hi : Int))) none).run Try.prog w = .ok (.slice (cutA A c 0) hi c) w := by
  rw [run_slice_h w T A n c (by simpa [Program.elem, hT] using hT) .i64 (hi : Int) (by omega) (by omega), hE]
  simp only [Result.andThen, sliced, Int.toNat_natCast, cutA, Nat.sub_zero, Nat.mul_one]
theorem RdG.head {w : World} {bad : List Nat} {A : Option Addr} {vs : List Value} (h : RdG w bad A vs) (c : Nat) (hc : vs.length ≤ c) : RdG w bad (cutA A c 0) vs := by
  have := h.cut c 0 hc
  simpa using this
theorem RdG.one (w : World) (v : Value) (t : TypeId) (bad : List Nat) (hb : w.heap.size ∉ bad) : RdG (w.alloc (.cells #[v] t)) bad (some ⟨w.heap.size, 0, none⟩) [v] := .inr ⟨_, 0, rfl, hb, fun i u hu => by
  have hi : i < 1 := (List.getElem?_eq_some_iff.1 hu).1
  obtain rfl : i = 0 := by omega
  rw [heap_cell (heap_alloc_new w _)]
  exact hu⟩
theorem RdG.kept {w w' : World} {bad : List Nat} {A A' B : Option Addr} {vs : List Value} (h : RdG w bad B vs) (hk : Kept w A w' A') (hne : ∀ b, B = some b → ∀ a, A = some a → a.block ≠ b.block) : RdG w' bad B vs := by
  rcases h with h | ⟨b, off, rfl, hn, h⟩
  · exact .inl h
  · refine .inr ⟨b, off, rfl, hn, fun i u hu => ?_⟩
    have h1 := h i u hu
    have h2 := hk.1 b (World.block_lt_of_cell? w ⟨b, off + i, none⟩ h1) (fun a ha => hne _ rfl a ha)
    rw [← h1]
    simp [World.cell?, h2]
theorem OwnB.kept {w w' : World} {A A' B : Option Addr} {base n c : Nat} {l : List Int} (h : OwnB w base B n c l) (hk : Kept w A w' A') (hne : ∀ b, B = some b → ∀ a, A = some a → a.block ≠ b.block) : OwnB w' base B n c l := by
  refine ⟨h.1, ?_⟩
  rcases h.2 with hv | ⟨g, cap, cur, hv, hbg, hg, rest⟩
  · exact .inl hv
  · have e : B = some ⟨g, 0, none⟩ := by injection hv
    exact .inr ⟨g, cap, cur, hv, hbg, (hk.1 g (Array.getElem?_eq_some_iff.1 hg).1 (fun a ha => hne _ e a ha)).trans hg, rest⟩
theorem OwnB.ltOf {w : World} {base n c : Nat} {A : Option Addr} {l : List Int} (h : OwnB w base A n c l) : ∀ b, A = some b → b.block < w.heap.size := fun b hb => by
  rcases h.2 with ⟨hv, _⟩ | ⟨g, cap, cur, hv, hbg, hg, rest⟩
  · injection hv with e; rw [e] at hb; cases hb
  · injection hv with e; rw [e] at hb; injection hb with hb; subst hb; exact (Array.getElem?_eq_some_iff.1 hg).1
end
section
open Go.ChangeShapes Go.WideShapes Go.ChangeAt Go.RowKit Go.Deep
set_option maxRecDepth 100000
set_option linter.unusedVariables false
set_option linter.unusedSimpArgs false
def i64b (n : Int) : Prop := -9223372036854775808 ≤ n ∧ n ≤ 9223372036854775807
section
variable {H : Type} {enc : TypeId × Value → H} {P : Program} {W : World} {base : Nat}
end
end
section
open Go.RowKit
set_option maxRecDepth 100000
set_option linter.unusedVariables false
set_option linter.unusedSimpArgs false
set_option linter.unnecessarySimpa false
theorem pCell_ok (w : World) (g gb c : Nat) (L : List Int) (X : List Value) (M : Mdl) (hp : Pg w g gb c M.h L X) (hi : IsP L M) (hg : Good M) (j : Nat) (hj : j < M.k) :
    Calls Try.prog 21 #[.pointer (some ⟨g, 0, none⟩), .int .i64 (j : Int)] w (CellBack w (M.cl j) 0) := by
  have hk := hg.kle
  have h := pCell_any w g gb c L X M hp hi hg (j : Int) (by omega) (by omega) _ rfl
  rw [if_pos (by omega), if_pos (by omega), Int.toNat_natCast] at h
  exact h
end
section
open Go.RowKit
set_option maxRecDepth 100000
set_option linter.unusedVariables false
set_option linter.unusedSimpArgs false
set_option linter.unnecessarySimpa false
theorem there_new3 (w : World) (a b c : Value) (t : TypeId) : (w.alloc (.cells #[a, b, c] t)).there w.heap.size 0 3 := by
  intro j hj
  rcases (by omega : j = 0 ∨ j = 1 ∨ j = 2) with rfl | rfl | rfl <;> simp [go_sem]
theorem rangeKeep {w w' : World} {g o : Nat} {vs : List Value} {B : Nat} (h : w.rangeAt g o vs) (hb : Below B w w') (hg : g < B) : w'.rangeAt g o vs := fun j v hv => (hb.cell (p := ⟨g, o + j, none⟩) hg).trans (h j v hv)
theorem wpList_wantedR {P : Program} {ops : Array Oper} {Q : Exit → Act → World → Prop} {a : Act} {w : World} {rest : List Oper} {o : Oper} (hw : Region.wanted o (yielded ops a.tmps) = true)
    (h : ∀ K : Act → World → Prop, (∀ a w, wpList P ops Q rest a w → K a w) → o.wp P a w K Q) : wpList P ops Q (o :: rest) a w :=
  wpList_step fun K hK => by rw [if_pos hw]; exact h K hK
end
end Go.Proofs.Ytoeaffmlolapnaa
