/- TopRecords: what its first loop has gathered: three rows beside one another. -/
import Derived.Test.YtbbdglikdogmhaaTpF
import Derived.Test.YtbbdglikdogmhaaRcN
import Derived.Test.YtbbdglikdogmhaaRcQ
namespace Go.Proofs.Ytbbdglikdogmhaa
open Go.RowKit
set_option maxRecDepth 100000
set_option linter.unusedVariables false
set_option linter.unusedSimpArgs false
set_option linter.unnecessarySimpa false

def strC (S : List (List Int)) : List Value := S.map fun l => .string (strOfNums l)
theorem strC_app (S T : List (List Int)) : strC (S ++ T) = strC S ++ strC T := by simp [strC]
theorem strC_one (S : List (List Int)) : ∀ u ∈ strC S, u.oneCell' = true := by
  intro u hu
  obtain ⟨l, _, rfl⟩ := List.mem_map.1 hu
  rfl
theorem info_str : (Try.prog.info? 9).map (fun i => (i.zero, i.size, i.bytes)) = some (some (.string ⟨#[]⟩), 1, 16) := by kernel_rfl
/-- Rows that came in, rows of one's own, and records; none lies in another's place. -/
structure L3 (w wr : World) (WA : Option Addr) (wc : Nat) (M : List Rw) (IA : Option Addr) (ic : Nat) (N : List Rw) (SA : Option Addr) (sc : Nat) (S : List (List Int)) : Prop where
  wrow : OwnG 22 wr w.heap.size WA M.length wc (hdrC M)
  irow : OwnG 22 wr w.heap.size IA N.length ic (hdrC N)
  srow : OwnG 9 wr w.heap.size SA S.length sc (strC S)
  ap : ∀ a b, WA = some a → IA = some b → a.block ≠ b.block
  mok : ∀ r ∈ M, RwOk w r
  nok : ∀ r ∈ N, RwO wr r
  bel : Below w.heap.size w wr
theorem L3.nil (w : World) : L3 w w none 0 [] none 0 [] none 0 [] :=
  ⟨OwnG.nil _ _ _, OwnG.nil _ _ _, OwnG.nil _ _ _, (fun a b h => (by cases h)), (fun r hr => (by cases hr)), (fun r hr => (by cases hr)), Below.refl _ _⟩
variable {w wr wr' : World} {WA WA' IA IA' SA SA' : Option Addr} {wc wc' ic ic' sc sc' : Nat} {M N : List Rw} {S : List (List Int)}
theorem L3.keep (h : L3 w wr WA wc M IA ic N SA sc S) (hb : Below wr.heap.size wr wr') : L3 w wr' WA wc M IA ic N SA sc S :=
  ⟨h.wrow.keep hb, h.irow.keep hb, h.srow.keep hb, h.ap, h.mok, fun r hr => (h.nok r hr).keep hb, h.bel.trans (hb.mono h.bel.size)⟩
theorem L3.sz (h : L3 w wr WA wc M IA ic N SA sc S) : w.heap.size ≤ wr.heap.size := h.bel.size
theorem rowOther {wr wr' : World} {base s n c n2 c2 : Nat} {E E2 : TypeId} {A B B' : Option Addr} {vs us : List Value} {base2 s2 : Nat} (h : wr.ownsRow base E s (.slice A n c) n vs) (k : wr.ownsRow base2 E2 s2 (.slice B n2 c2) n2 us) (hap : ∀ a b, B = some a → A = some b → a.block ≠ b.block) (hk : Kept wr B wr' B') : wr'.ownsRow base E s (.slice A n c) n vs := by
  refine ⟨h.1, ?_⟩
  rcases h.2 with hv | ⟨g, cap, cur, hv, hbg, hgg, rest⟩
  · exact .inl hv
  · have e1 : A = some ⟨g, 0, none⟩ := by injection hv
    exact .inr ⟨g, cap, cur, hv, hbg, (hk.1 g (Array.getElem?_eq_some_iff.1 hgg).1 (fun a ha => hap a _ ha e1)).trans hgg, rest⟩
theorem L3.addW (h : L3 w wr WA wc M IA ic N SA sc S) {x : Rw} (hx : RwOk w x) (ho : OwnG 22 wr' w.heap.size WA' (M.length + 1) wc' (hdrC M ++ hdrC [x])) (hb : Below w.heap.size wr wr') (hk : Kept wr WA wr' WA') : L3 w wr' WA' wc' (M ++ [x]) IA ic N SA sc S := by
  refine ⟨by rw [hdrC_app, List.length_append]; exact ho, ⟨h.irow.1, rowOther h.irow.2 h.wrow.2 h.ap hk⟩, ⟨h.srow.1, rowKept h.srow.2 h.wrow.2 (by decide) hk⟩, fun a b ha hb' => ?_, fun r hr => ?_, fun r hr => (h.nok r hr).kept h.wrow.2 (by decide) hk, h.bel.trans hb⟩
  · have hl := (row_ty h.irow.2 b.block (by subst hb'; simp [blkO])).2.2
    rcases hk.2 a ha with ⟨a0, h0, e⟩ | e
    · rw [← e]; exact h.ap a0 b h0 hb'
    · omega
  · rcases List.mem_append.1 hr with q | q
    · exact h.mok r q
    · obtain rfl : r = x := by simpa using q
      exact hx
theorem L3.addI (h : L3 w wr WA wc M IA ic N SA sc S) {x : Rw} (hx : RwO wr x) (ho : OwnG 22 wr' w.heap.size IA' (N.length + 1) ic' (hdrC N ++ hdrC [x])) (hb : Below w.heap.size wr wr') (hk : Kept wr IA wr' IA') : L3 w wr' WA wc M IA' ic' (N ++ [x]) SA sc S := by
  refine ⟨⟨h.wrow.1, rowOther h.wrow.2 h.irow.2 (fun a b ha hb' => (h.ap b a hb' ha).symm) hk⟩, by rw [hdrC_app, List.length_append]; exact ho, ⟨h.srow.1, rowKept h.srow.2 h.irow.2 (by decide) hk⟩, fun a b ha hb' => ?_, h.mok, fun r hr => ?_, h.bel.trans hb⟩
  · have hl := (row_ty h.wrow.2 a.block (by subst ha; simp [blkO])).2.2
    rcases hk.2 b hb' with ⟨b0, h0, e⟩ | e
    · rw [← e]; exact h.ap a b0 ha h0
    · omega
  · rcases List.mem_append.1 hr with q | q
    · exact (h.nok r q).kept h.irow.2 (by decide) hk
    · obtain rfl : r = x := by simpa using q
      exact hx.kept h.irow.2 (by decide) hk
theorem L3.addS (h : L3 w wr WA wc M IA ic N SA sc S) {l : List Int} (ho : OwnG 9 wr' w.heap.size SA' (S.length + 1) sc' (strC S ++ strC [l])) (hb : Below w.heap.size wr wr') (hk : Kept wr SA wr' SA') : L3 w wr' WA wc M IA ic N SA' sc' (S ++ [l]) :=
  ⟨⟨h.wrow.1, rowKept h.wrow.2 h.srow.2 (by decide) hk⟩, ⟨h.irow.1, rowKept h.irow.2 h.srow.2 (by decide) hk⟩, by rw [strC_app, List.length_append]; exact ho, h.ap, h.mok, fun r hr => (h.nok r hr).kept h.srow.2 (by decide) hk, h.bel.trans hb⟩
/-- What was gathered: the same values, and their records. -/
def Gathered (M N : List Rw) (S : List (List Int)) : Prop := valsOf M = valsOf N ∧ S = M.map (fun r => (encV r.F).1) ∧ ∀ r ∈ M, (encV r.F).2 = 0
theorem Gathered.nil : Gathered [] [] [] := ⟨rfl, rfl, (fun r hr => (by cases hr))⟩
theorem Gathered.add {x y : Rw} (h : Gathered M N S) (hv : x.F = y.F) (he : (encV x.F).2 = 0) : Gathered (M ++ [x]) (N ++ [y]) (S ++ [(encV x.F).1]) := by
  refine ⟨?_, by rw [h.2.1]; simp, fun r hr => ?_⟩
  · have := h.1
    unfold valsOf at this ⊢
    rw [List.map_append, List.map_append, this]
    simp [hv]
  · rcases List.mem_append.1 hr with q | q
    · exact h.2.2 r q
    · obtain rfl : r = x := by simpa using q
      exact he
theorem enc_inj {F G : List Vl} (hF : (encV F).2 = 0) (hG : (encV G).2 = 0) (oF : ∀ v ∈ F, v.ok) (oG : ∀ v ∈ G, v.ok) : (encV F).1 = (encV G).1 ↔ F = G := by
  refine ⟨fun h => ?_, fun h => by rw [h]⟩
  have h1 := dec_enc hF oF
  have h2 := dec_enc hG oG
  rw [h] at h1
  rw [h1] at h2
  exact (Prod.mk.inj h2).1
end Go.Proofs.Ytbbdglikdogmhaa
