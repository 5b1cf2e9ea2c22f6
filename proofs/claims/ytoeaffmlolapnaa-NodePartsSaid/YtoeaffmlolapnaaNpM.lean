/- Several texts of this proof as one: SrL, SrK. Laid by merge.py. -/
import Derived.Test.YtoeaffmlolapnaaNpA
import Derived.Test.YtoeaffmlolapnaaNpB
import Derived.Test.YtoeaffmlolapnaaNpJ
import Derived.Test.YtoeaffmlolapnaaNpK
import Derived.Test.YtoeaffmlolapnaaNpL
import Derived.ArgAppend
import Derived.BigQuiet
import Derived.ChangeOld
import Derived.Deep.DeepCutAuto
import Derived.Deep.Matrix
import Derived.Deep.MidRow
import Derived.Deep.QuietTactic
import Derived.Deep.RegionHeld3
import Derived.Deep.Slices
import Derived.Handy
import Derived.Laws.CopyOwn
import Derived.Laws.ResultCell
import Derived.Lib.AppendStr
import Derived.Lib.Hide
import Derived.Lib.SliceRun
import Derived.Lib.SmallJoins
import Derived.Maps.AppendAt
import Derived.OpenShut
import Derived.ProofKit
import Derived.ShutString
import Derived.SizedLaws
import Derived.Test.YtoeaffmlolapnaaProg
import Derived.WalkKit
import Derived.WalkSpells
namespace Go.Proofs.Ytoeaffmlolapnaa
section
open Go.RowKit
set_option maxRecDepth 100000
set_option linter.unusedVariables false
set_option linter.unusedSimpArgs false
set_option linter.unnecessarySimpa false
/-- A page is the page of its bytes. -/
theorem IsP.mdl {L : List Int} {M : Mdl} (g : Good M) (p : IsP L M) : mdlOf L M.h = M := by
  have hk : kOf L M.h = M.k := by unfold kOf; rw [p.many]; rfl
  have hp : ∀ j, j < M.k → pOf L M.h j = M.pl j := fun j hj => by unfold pOf; rw [p.slots j hj]; rfl
  have hl : ∀ j, j < M.k → lOf L (M.pl j) = (M.cl j).length := fun j hj => by unfold lOf; rw [p.lens j hj]; rfl
  have hc : ∀ j, j < M.k → cOf L M.h j = M.cl j := fun j hj => by
    have h1 := g.hi j hj
    unfold cOf
    rw [hp j hj, hl j hj]
    refine eq_of_bt (by rw [List.length_take, List.length_drop, p.len]; omega) fun x hx => ?_
    rw [List.length_take] at hx
    rw [bt_dt, if_pos (by omega), p.body j hj x (by omega)]
  have hfit := g.fit
  have hu : M.used M.k = M.h + 2 + 2 * M.k := rfl
  have hF : L.take M.h = M.F := by
    refine eq_of_bt (by rw [List.length_take, p.len]; show min M.h M.n = M.h; omega) fun x hx => ?_
    have hx' : x < M.h := by rw [List.length_take] at hx; omega
    have e : bt (L.take M.h) x = bt L x := by
      unfold bt
      simp only [List.getD_eq_getElem?_getD, List.getElem?_take, if_pos hx']
    rw [e, p.front x hx']
  have hC : (List.range M.k).map (cOf L M.h) = M.C := by
    refine List.ext_getElem (by simp [Mdl.k]) fun i h1 h2 => ?_
    have hi : i < M.k := h2
    simp only [List.getElem_map, List.getElem_range]
    rw [hc i hi]
    simp [Mdl.cl, h2]
  have hP : (List.range M.k).map (pOf L M.h) = M.P := by
    refine List.ext_getElem (by simp [g.same]) fun i h1 h2 => ?_
    have hi : i < M.k := by rw [← g.same]; exact h2
    simp only [List.getElem_map, List.getElem_range]
    rw [hp i hi]
    simp [Mdl.pl, h2]
  unfold mdlOf
  rw [hk, hF, hC, hP, p.len]
theorem IsP.of {L : List Int} {M : Mdl} (g : Good M) (p : IsP L M) : ofP L M.h := by
  unfold ofP
  rw [p.mdl g]
  exact ⟨g, p⟩
theorem OwnB.ne {w w' : World} {base n c bb t : Nat} {l : List Int} (h : OwnB w base (some ⟨bb, 0, none⟩) n c l) (e : ∀ k, k ≠ t → k < w.heap.size → w'.heap[k]? = w.heap[k]?) (hne : bb ≠ t) : OwnB w' base (some ⟨bb, 0, none⟩) n c l := by
  refine ⟨h.1, ?_⟩
  rcases h.2 with hv | ⟨g, cap, cur, hv, hbg, hgg, rest⟩
  · exact .inl hv
  · obtain rfl : bb = g := by injection hv with e1; injection e1 with e1; injection e1
    exact .inr ⟨bb, cap, cur, hv, hbg, (e bb hne (Array.getElem?_eq_some_iff.1 hgg).1).trans hgg, rest⟩
end
section
open Go.RowKit
set_option maxRecDepth 100000
set_option linter.unusedVariables false
set_option linter.unusedSimpArgs false
set_option linter.unnecessarySimpa false
theorem OwnB.mut {w w' : World} {gb base n c : Nat} {A : Option Addr} {l : List Int} (h : OwnB w base A n c l) (hm : Mut w gb w') (hg : gb < base) : OwnB w' base A n c l := by
  refine ⟨h.1, ?_⟩
  rcases h.2 with hv | ⟨g, cap, cur, hv, hbg, hgg, rest⟩
  · exact .inl hv
  · exact .inr ⟨g, cap, cur, hv, hbg, (hm.block g (Array.getElem?_eq_some_iff.1 hgg).1 (by omega)).trans hgg, rest⟩
theorem OwnG.mut {E : TypeId} {w w' : World} {gb base n c : Nat} {A : Option Addr} {vs : List Value} (h : OwnG E w base A n c vs) (hm : Mut w gb w') (hg : gb < base) : OwnG E w' base A n c vs := by
  refine ⟨h.1, h.2.1, ?_⟩
  rcases h.2.2 with hv | ⟨g, cap, cur, hv, hbg, hgg, rest⟩
  · exact .inl hv
  · exact .inr ⟨g, cap, cur, hv, hbg, (hm.block g (Array.getElem?_eq_some_iff.1 hgg).1 (by omega)).trans hgg, rest⟩
end
end Go.Proofs.Ytoeaffmlolapnaa
