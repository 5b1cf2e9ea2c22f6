/- Several texts of this proof as one: NeC. Laid by merge.py. -/
import Derived.Test.YtoeaffmlolapnaaNpA
import Derived.Test.YtoeaffmlolapnaaNpB
import Derived.Test.YtoeaffmlolapnaaNpC
import Derived.Test.YtoeaffmlolapnaaNpD
import Derived.Test.YtoeaffmlolapnaaNpE
import Derived.Test.YtoeaffmlolapnaaNpF
import Derived.Test.YtoeaffmlolapnaaNpG
import Derived.Test.YtoeaffmlolapnaaNpH
import Derived.Test.YtoeaffmlolapnaaNpI
import Derived.Test.YtoeaffmlolapnaaNpJ
import Derived.Test.YtoeaffmlolapnaaNpK
import Derived.Test.YtoeaffmlolapnaaNpL
import Derived.Test.YtoeaffmlolapnaaNpM
import Derived.Test.YtoeaffmlolapnaaNpN
import Derived.Test.YtoeaffmlolapnaaNpO
import Derived.Test.YtoeaffmlolapnaaNpP
import Derived.Test.YtoeaffmlolapnaaNpQ
import Derived.Test.YtoeaffmlolapnaaNpR
import Derived.Test.YtoeaffmlolapnaaNpS
import Derived.ArgAppend
import Derived.BigQuiet
import Derived.ChangeOld
import Derived.Deep.DeepCutAuto
import Derived.Deep.Matrix
import Derived.Deep.MidRow
import Derived.Deep.QuietTactic
import Derived.Deep.RegionHeld3
import Derived.Deep.Slices
import Derived.Handy
import Derived.Laws.CopyOwn
import Derived.Laws.Externs
import Derived.Laws.ResultCell
import Derived.Lib.AppendStr
import Derived.Lib.Hide
import Derived.Lib.MakeNoZero
import Derived.Lib.SlBuf
import Derived.Lib.SliceRun
import Derived.Lib.SmallJoins
import Derived.Maps.AppendAt
import Derived.OpenShut
import Derived.ProofKit
import Derived.ShutString
import Derived.SizedLaws
import Derived.Test.YtoeaffmlolapnaaProg
import Derived.WalkKit
import Derived.WalkSpells
namespace Go.Proofs.Ytoeaffmlolapnaa
section
open Go.RowKit
set_option maxRecDepth 100000
set_option linter.unusedVariables false
set_option linter.unusedSimpArgs false
set_option linter.unnecessarySimpa false
def shortN (n : Nd) (s : Nat) : Prop := ∀ c ∈ n.cs, (encC n.kind c).length ≤ s / 4 - 8
def nodesOf (n : Nd) (ps : List (Nat × Nat)) : List Nd := ps.map fun p => nodeI n p.1 p.2
def sepsOf (n : Nd) (ps : List (Nat × Nat)) : List Cl := (ps.filter fun p => decide (p.2 < n.cs.length)).map fun p => sepI n p.2
theorem SpSt.mono {base base' : Nat} {W : World} {NA : Option Addr} {nc : Nat} {ns : List Nd} {SA : Option Addr} {sc : Nat} {ss : List Cl} (h : SpSt base W NA nc ns SA sc ss) (hb : base' ≤ base) : SpSt base' W NA nc ns SA sc ss := by
  obtain ⟨⟨vs, h1, h2⟩, ⟨us, h3, h4⟩⟩ := h
  have key : ∀ {E : TypeId} {s n c : Nat} {A : Option Addr} {vs : List Value}, W.ownsRow base E s (.slice A n c) n vs → W.ownsRow base' E s (.slice A n c) n vs := fun h => ⟨h.1, h.2.imp id (fun ⟨g, cap, cur, a, b, c⟩ => ⟨g, cap, cur, a, Nat.le_trans hb b, c⟩)⟩
  exact ⟨⟨vs, key h1, h2⟩, ⟨us, key h3, h4⟩⟩
theorem nodesOf_app (n : Nd) (ps : List (Nat × Nat)) (a b : Nat) : nodesOf n (ps ++ [(a, b)]) = nodesOf n ps ++ [nodeI n a b] := by simp [nodesOf]
theorem nodesOf_len (n : Nd) (ps : List (Nat × Nat)) : (nodesOf n ps).length = ps.length := by simp [nodesOf]
theorem sepsOf_yes (n : Nd) (ps : List (Nat × Nat)) {a b : Nat} (h : b < n.cs.length) : sepsOf n (ps ++ [(a, b)]) = sepsOf n ps ++ [sepI n b] := by simp [sepsOf, List.filter_append, h]
theorem sepsOf_no (n : Nd) (ps : List (Nat × Nat)) {a b : Nat} (h : ¬ b < n.cs.length) : sepsOf n (ps ++ [(a, b)]) = sepsOf n ps := by
  unfold sepsOf
  rw [List.filter_append, show List.filter (fun p : Nat × Nat => decide (p.2 < n.cs.length)) [(a, b)] = [] by simp [List.filter, h]]
  simp
theorem sepsOf_len (n : Nd) (ps : List (Nat × Nat)) : (sepsOf n ps).length ≤ ps.length := by
  unfold sepsOf
  rw [List.length_map]
  exact List.length_filter_le _ _
theorem Loc.kept {w w' : World} {A : Option Addr} {l : List Int} {d base s n c : Nat} {E : TypeId} {B B' : Option Addr} {us : List Value} (h : Loc w 0 A l d) (k : w.ownsRow base E s (.slice B n c) n us) (hE : 5 ≠ E) (hk : Kept w B w' B') : Loc w' 0 A l d := by
  rcases h with h | ⟨b, h⟩
  · refine .inl ⟨?_, h.2⟩
    rcases h.1 with q | ⟨bb, off, rfl, hc⟩
    · exact .inl q
    · by_cases h0 : l = []
      · exact .inl h0
      · exact absurd (h.2 _ rfl h0) (Nat.not_lt_zero _)
  · exact .inr ⟨b, rowKept h k hE hk⟩
theorem wp_load_nda {ops : Array Oper} {rest : List Oper} {op : Oper} {a : Act} {w : World} {Q : Exit → Act → World → Prop} (hgd : op.guard = none) (x : Operand) (ho : op.op = .load 69 x) (g : Nat) (n : Nd) (A : Option Addr) (c : Nat)
    (hx : a.eval x = .pointer (some ⟨g, 0, none⟩)) (hc : NdAt w g n A c) (h : wpList Try.prog ops Q rest (a.put op.dst (.agg #[.int .i64 n.kind, .slice A n.cs.length c, .int .i64 n.right])) w) : wpList Try.prog ops Q (op :: rest) a w :=
  wp_load_nd hgd x ho g n A c hx hc h
theorem ndC_one (n : Nd) (A : Option Addr) (c : Nat) : ∀ u ∈ ndC n A c, u.oneCell' = true := by
  intro u hu
  simp [ndC] at hu
  rcases hu with rfl | rfl | rfl <;> rfl
/-- What Split tells. -/
def SplitN (w : World) (n : Nd) (s : Int) (e : Ending) (w' : World) : Prop :=
  Below w.heap.size w w' ∧ ((¬ okN n s ∧ e = .returned (.tuple #[.slice none 0 0, .slice none 0 0, .int .i64 1])) ∨
    (okN n s ∧ ∃ NA nc ns SA sc ss z, e = .returned (.tuple #[.slice NA ns.length nc, .slice SA ss.length sc, .int .i64 z]) ∧ SpSt w.heap.size w' NA nc ns SA sc ss ∧
      ((fitN n s ∧ ns = [n] ∧ ss = [] ∧ z = 0) ∨ (¬ fitN n s ∧ ¬ shortN n s.toNat ∧ ns = [] ∧ ss = [] ∧ z = 5) ∨
        (¬ fitN n s ∧ shortN n s.toNat ∧ z = 0 ∧ ∃ ps, Parts n (s.toNat - 10) ps ∧ ns = nodesOf n ps ∧ ss = sepsOf n ps))))
/-- The boxes of Split. -/
structure Sp (w W : World) (n : Nd) (A : Option Addr) (c : Nat) (s : Int) : Prop where
  x : NdAt W w.heap.size n A c
  y : W.cell? ⟨w.heap.size + 1, 0, none⟩ = some (.int .i64 s)
  bel : Below w.heap.size w W
  sz : w.heap.size + 2 ≤ W.heap.size
theorem Sp.keepB {w W W' : World} {n : Nd} {A : Option Addr} {c : Nat} {s : Int} (h : Sp w W n A c s) (hb : Below (w.heap.size + 2) W W') : Sp w W' n A c s :=
  ⟨h.x.keepB hb (by omega), (hb.cell (p := ⟨w.heap.size + 1, 0, none⟩) (Nat.lt_succ_self _)).trans h.y, h.bel.trans (hb.mono (by omega)), Nat.le_trans h.sz hb.size⟩
theorem Sp.keep {w W W' : World} {n : Nd} {A : Option Addr} {c : Nat} {s : Int} (h : Sp w W n A c s) (hb : Below W.heap.size W W') : Sp w W' n A c s := h.keepB (hb.mono h.sz)
def SpRel (w wl : World) (n : Nd) (most : Nat) (nv sv av : Value) (wr : World) : Prop :=
  ∃ (ps : List (Nat × Nat)) (NA : Option Addr) (nc : Nat) (SA : Option Addr) (sc a : Nat), av = .int .i64 (a : Int) ∧ Chain n most ps a ∧ a ≤ n.cs.length ∧ nv = .slice NA (nodesOf n ps).length nc ∧ sv = .slice SA (sepsOf n ps).length sc ∧ SpSt wl.heap.size wr NA nc (nodesOf n ps) SA sc (sepsOf n ps) ∧ ps.length ≤ a ∧ Below wl.heap.size wl wr

set_option maxHeartbeats 64000000 in
theorem split_any (w : World) (n : Nd) (A : Option Addr) (c : Nat) (s : Int) (hs : i64b s) (hl : n.cs.length ≤ 400) (hlc : n.cs.length ≤ c) (hcm : c ≤ maxLen) (hok : NdOk n) (hloc : ∀ d ∈ n.cs, d.loc.length ≤ 16384) (hA : RdCl w A n.cs) (R : Ending → World → Prop) (hR : R = SplitN w n s) :
    Calls Try.prog 49 #[n.val A c, .int .i64 s] w R := by
  have HR := Lib.hid hR; clear hR
  have HOK := Lib.hid hok
  have HLOC := Lib.hid hloc
  have HA := Lib.hid hA
  have hs' := hs
  unfold i64b at hs'
  obtain ⟨W0, hW0⟩ : ∃ W, W = (w.alloc (.cells #[.int .i64 n.kind, .slice A n.cs.length c, .int .i64 n.right] 69)).alloc (.cells #[.int .i64 s] 3) := ⟨_, rfl⟩
  have hs1 : (w.alloc (.cells #[.int .i64 n.kind, .slice A n.cs.length c, .int .i64 n.right] 69)).heap.size = w.heap.size + 1 := by simp
  have HP0 := Lib.hid (show Sp w W0 n A c s by
    rw [hW0]
    have b1 : ∀ (X : World) (o : Obj), Below X.heap.size X (X.alloc o) := fun X o => (Below.refl _ _).alloc (Nat.le_refl _) _
    refine ⟨(NdAt.made w n A c _).keep (b1 _ _), ?_, (b1 w _).trans ((b1 _ _).mono (by rw [hs1]; omega)), by simp⟩
    rw [← hs1, heap_cell (heap_alloc_new _ _)]
    rfl)
  have HW := Lib.hid hW0
  clear hW0 hs1 hok hloc hA
  have m1 := HP0.out.y
  unfold Nd.val
  go_enter Try.func49, Try.ntmps49
  go_upto_region 1 with fail
  rw [← HW.out]
  clear HW
  go_wp2_with fail
  refine (isSize_any _ s hs').mono ?_
  rintro e w1 ⟨rfl, rfl⟩
  by_cases hsz : isSz s
  case neg =>
    rw [decide_eq_false hsz]
    have HF := Lib.hid (show ¬ okN n s from fun h => hsz h.1)
    clear hsz
    go_wp2_with fail
    rw [HR.out]
    exact ⟨HP0.out.bel, .inl ⟨HF.out, rfl⟩⟩
  rw [decide_eq_true hsz]
  have HSZ := Lib.hid hsz
  have hN : ∃ N : Nat, s = N ∧ 256 ≤ N ∧ N ≤ 4096 := ⟨s.toNat, by unfold isSz at hsz; omega, by unfold isSz at hsz; omega, by unfold isSz at hsz; omega⟩
  clear hsz m1
  simp only []
  iterate 7 go_step
  refine wp_load_ndg rfl _ rfl w.heap.size n A c rfl HP0.out.x ?_
  go_wp2_with fail
  refine (right_any _ n A c (by omega) HOK.out (fun d hd => by have := HLOC.out d hd; omega) (HA.out.keep HP0.out.bel) _ rfl).mono ?_
  rintro e w1 ⟨rfl, hb1⟩
  have HP1 := Lib.hid (HP0.out.keep hb1)
  clear hb1 HP0
  by_cases hm : mayN n
  case neg =>
    rw [decide_eq_false hm]
    have HF := Lib.hid (show ¬ okN n s from fun h => hm h.2)
    clear hm
    go_wp2_with fail
    rw [HR.out]
    exact ⟨HP1.out.bel, .inl ⟨HF.out, rfl⟩⟩
  rw [decide_eq_true hm]
  have HM := Lib.hid hm
  have HOKN := Lib.hid (show okN n s from ⟨HSZ.out, hm⟩)
  clear hm
  have m1 := HP1.out.y
  go_upto_region 3 with fail
  go_step
  refine wp_load_nd rfl _ rfl w.heap.size n A c rfl HP1.out.x ?_
  go_wp2_with fail
  refine (fits_any _ n A c s HSZ.out (by omega) (fun d hd => ⟨HOK.out.2.2 d hd, HLOC.out d hd⟩) (HA.out.keep HP1.out.bel)).mono ?_
  rintro e w2 ⟨rfl, hb2⟩
  have HP2 := Lib.hid (HP1.out.keep hb2)
  clear hb2 HP1 m1
  by_cases hfit : (takesN n.kind n.cs : Int) ≤ s - 10
  case pos =>
    rw [decide_eq_true hfit]
    have HFIT := Lib.hid (show fitN n s from hfit)
    clear hfit
    go_upto_region 4 with fail
    have F0 : ∀ W : World, Sp w W n A c s → W.cell? ⟨w.heap.size, 0, none⟩ = some (.int .i64 n.kind) := fun W hW => hW.x.all.1
    have F1 : ∀ W : World, Sp w W n A c s → W.cell? ⟨w.heap.size, 1, none⟩ = some (.slice A n.cs.length c) := fun W hW => hW.x.all.2.1
    have F2 : ∀ W : World, Sp w W n A c s → W.cell? ⟨w.heap.size, 2, none⟩ = some (.int .i64 n.right) := fun W hW => hW.x.all.2.2
    refine wp_region_held_drew (S := (fun W => Sp w W n A c s)) (by kernel_rfl) ?_ (fun hHeld => ?_)
    · exact HP2.out.keep (Below.refl _ w2).drew
    refine' wpAnyH_take (i := 0) (oi := _) (v := _) rfl (by kernel_rfl) (by kernel_rfl) (by kernel_rfl) (fun _ _ _ h => h) (Or.inl ⟨by rfl, ?hz1⟩) (by assumption) ?rezt1
    case hz1 => (intro w' hSw; (try dsimp only at hSw); go_simp; try with_reducible rfl)
    try simp only [Act.put, List.setIfInBounds_toArray, List.set_cons_zero, List.set_cons_succ, List.getElem_toArray, List.getElem_cons_zero, List.getElem_cons_succ]
    refine' wpAnyH_take (i := 1) (oi := _) (v := _) rfl (by kernel_rfl) (by kernel_rfl) (by kernel_rfl) (fun _ _ _ h => h) (Or.inl ⟨by rfl, ?hz2⟩) (by assumption) ?rezt2
    case hz2 => (intro w' hSw; (try dsimp only at hSw); go_simp; try with_reducible rfl)
    try simp only [Act.put, List.setIfInBounds_toArray, List.set_cons_zero, List.set_cons_succ, List.getElem_toArray, List.getElem_cons_zero, List.getElem_cons_succ]
    refine' wpAnyH_take (i := 2) (oi := _) (v := _) rfl (by kernel_rfl) (by kernel_rfl) (by kernel_rfl) (fun _ _ _ h => h) (Or.inl ⟨by rfl, ?hz3⟩) (by assumption) ?rezt3
    case hz3 => (intro w' hSw; (try dsimp only at hSw); go_simp; try with_reducible rfl)
    try simp only [Act.put, List.setIfInBounds_toArray, List.set_cons_zero, List.set_cons_succ, List.getElem_toArray, List.getElem_cons_zero, List.getElem_cons_succ]
    refine' wpAnyH_take (i := 3) (oi := _) (v := _) rfl (by kernel_rfl) (by kernel_rfl) (by kernel_rfl) (fun _ _ _ h => h) (Or.inl ⟨by rfl, ?hz4⟩) (by assumption) ?rezt4
    case hz4 => (intro w' hSw; (try dsimp only at hSw); go_simp; try with_reducible rfl)
    try simp only [Act.put, List.setIfInBounds_toArray, List.set_cons_zero, List.set_cons_succ, List.getElem_toArray, List.getElem_cons_zero, List.getElem_cons_succ]
    refine' wpAnyH_take (i := 5) (oi := _) (v := _) rfl (by kernel_rfl) (by kernel_rfl) (by kernel_rfl) (fun _ _ _ h => h) (Or.inl ⟨by rfl, ?hz5⟩) (by assumption) ?rezt5
    case hz5 => (intro w' hSw; (try dsimp only at hSw); go_simp; try with_reducible rfl)
    try simp only [Act.put, List.setIfInBounds_toArray, List.set_cons_zero, List.set_cons_succ, List.getElem_toArray, List.getElem_cons_zero, List.getElem_cons_succ]
    refine' wpAnyH_take (i := 6) (oi := _) (v := _) rfl (by kernel_rfl) (by kernel_rfl) (by kernel_rfl) (fun _ _ _ h => h) (Or.inl ⟨by rfl, ?hz6⟩) (by assumption) ?rezt6
    case hz6 => (intro w' hSw; (try dsimp only at hSw); go_simp; try with_reducible rfl)
    try simp only [Act.put, List.setIfInBounds_toArray, List.set_cons_zero, List.set_cons_succ, List.getElem_toArray, List.getElem_cons_zero, List.getElem_cons_succ]
    refine wpAnyH_ready (rs := [4]) (by kernel_rfl) (by simp) ?_
    refine AllReadyH.cons (o := _) rfl (fun K hK => ?_) AllReadyH.nil
    go_simp
    have hp0 : Sp w w2.drew n A c s := HP2.out.keep (Below.refl _ w2).drew
    go_at_call 95
    refine (ncopied_any _ A n.cs.length c n.cs rfl (by omega) (fun d hd => by have := HLOC.out d hd; omega) (HA.out.keep hp0.bel) _ rfl).mono ?_
    rintro e w6 ⟨A8, c8, rfl, hown6, hb6⟩
    have HP6 := Lib.hid (hp0.keep hb6)
    have hsz0 := hp0.bel.size
    have HO6 := Lib.hid (hown6.mono (show w.heap.size ≤ _ from hsz0))
    clear hown6 hp0
    refine hK.out _ _ ?_ (fun hHeld => ?_)
    · exact HP6.out
    clear hK K
    try simp only [Act.put, List.setIfInBounds_toArray, List.set_cons_zero, List.set_cons_succ, List.getElem_toArray, List.getElem_cons_zero, List.getElem_cons_succ]
    refine' wpAnyH_take (i := 7) (oi := _) (v := _) rfl (by kernel_rfl) (by kernel_rfl) (by kernel_rfl) (fun _ _ _ h => h) (Or.inl ⟨by rfl, ?hz7⟩) (by assumption) ?rezt7
    case hz7 => (intro w' hSw; (try dsimp only at hSw); go_simp; try with_reducible rfl)
    try simp only [Act.put, List.setIfInBounds_toArray, List.set_cons_zero, List.set_cons_succ, List.getElem_toArray, List.getElem_cons_zero, List.getElem_cons_succ]
    have hlen6 : n.cs.length ≤ c8 ∧ c8 ≤ maxLen := HO6.out.cap
    obtain ⟨w7, hw7⟩ : ∃ W, W = w6.alloc (.cells #[.int .i64 n.kind, .slice A8 n.cs.length c8, .int .i64 n.right] 69) := ⟨_, rfl⟩
    have hb67 : Below w6.heap.size w6 w7 := by rw [hw7]; exact (Below.refl _ _).alloc (Nat.le_refl _) _
    have HP7 := Lib.hid (HP6.out.keep hb67)
    have HO7 := Lib.hid (HO6.out.keep hb67)
    have hl6 : w.heap.size ≤ w6.heap.size := HP6.out.bel.size
    have HY7 := Lib.hid (show TyAt w7 w6.heap.size 69 by rw [hw7]; exact TyAt.new w6 _ _)
    have HS7 := Lib.hid (show SpSt w.heap.size w7 (some ⟨w6.heap.size, 0, none⟩) 1 [n] none 0 [] from by
      refine ⟨⟨ndC n A8 c8, ⟨rfl, .inr ⟨w6.heap.size, 1, #[.int .i64 n.kind, .slice A8 n.cs.length c8, .int .i64 n.right], rfl, hl6, by rw [hw7]; exact heap_alloc_new w6 _, Nat.le_refl _, by unfold maxLen; omega, rfl, rfl⟩⟩, ?_⟩, ⟨[], World.ownsRow_nil _ _ _ _, rfl, fun i hi => by simp at hi⟩⟩
      refine NdVals.snoc (ns := []) (vs := []) ⟨rfl, fun i hi => by simp at hi⟩ hlen6.1 hlen6.2 ?_
      refine (HO6.out.rdX (bad := []) (fun g hg => by simp at hg)).go (SameBut.below hb67 _) (fun g hg => .inr ?_)
      have : g = w6.heap.size := by simpa [blkO] using hg
      omega)
    refine wpAnyH_ready (rs := [8]) (by kernel_rfl) (by simp) ?_
    refine AllReadyH.cons (o := _) rfl (fun K hK => ?_) AllReadyH.nil
    go_simp
    rw [← hw7]
    refine hK.out _ _ ?_ (fun hHeld => ?_)
    · exact HP7.out
    clear hK K
    try simp only [Act.put, List.setIfInBounds_toArray, List.set_cons_zero, List.set_cons_succ, List.getElem_toArray, List.getElem_cons_zero, List.getElem_cons_succ]
    refine' wpAnyH_take (i := 9) (oi := _) (v := _) rfl (by kernel_rfl) (by kernel_rfl) (by kernel_rfl) (fun _ _ _ h => h) (Or.inl ⟨by rfl, ?hz8⟩) (by assumption) ?rezt8
    case hz8 => (intro w' hSw; (try dsimp only at hSw); go_simp; try with_reducible rfl)
    try simp only [Act.put, List.setIfInBounds_toArray, List.set_cons_zero, List.set_cons_succ, List.getElem_toArray, List.getElem_cons_zero, List.getElem_cons_succ]
    refine' wpAnyH_take (i := 10) (oi := _) (v := _) rfl (by kernel_rfl) (by kernel_rfl) (by kernel_rfl) (fun _ _ _ h => h) (Or.inl ⟨by rfl, ?hz9⟩) (by assumption) ?rezt9
    case hz9 => (intro w' hSw; (try dsimp only at hSw); go_simp; try with_reducible rfl)
    try simp only [Act.put, List.setIfInBounds_toArray, List.set_cons_zero, List.set_cons_succ, List.getElem_toArray, List.getElem_cons_zero, List.getElem_cons_succ]
    refine' wpAnyH_take (i := 11) (oi := _) (v := _) rfl (by kernel_rfl) (by kernel_rfl) (by kernel_rfl) (fun _ _ _ h => h) (Or.inl ⟨by rfl, ?hz10⟩) (by assumption) ?rezt10
    case hz10 => (intro w' hSw; (try dsimp only at hSw); go_simp; try with_reducible rfl)
    try simp only [Act.put, List.setIfInBounds_toArray, List.set_cons_zero, List.set_cons_succ, List.getElem_toArray, List.getElem_cons_zero, List.getElem_cons_succ]
    refine wpAnyH_done (by kernel_rfl) ?_ _
    clear F0 F1 F2
    go_wp2_with fail
    rw [HR.out]
    exact ⟨HP7.out.bel, .inr ⟨HOKN.out, _, _, [n], _, _, [], 0, rfl, HS7.out, .inl ⟨HFIT.out, rfl, rfl, rfl⟩⟩⟩
  rw [decide_eq_false hfit]
  have HFIT := Lib.hid (show ¬ fitN n s from hfit)
  obtain ⟨N, hN0, hN1, hN2⟩ := hN
  subst hN0
  obtain ⟨most, hms⟩ : ∃ m, N - 10 = m := ⟨_, rfl⟩
  have HMS := Lib.hid hms
  have hms' : (N : Int) - 10 = (most : Int) := by omega
  have HBIG := Lib.hid (show most < takesN n.kind n.cs by omega)
  have hms1 : most ≤ 4096 := by omega
  have HTK := Lib.hid (fun (d : Cl) (hd : d ∈ n.cs) => (show tkC n.kind d ≤ 1000000 by unfold tkC; have := encC_len (k := n.kind) (HOK.out.2.2 d hd).1 (HLOC.out d hd); omega))
  have HW1 := Lib.hid (fun (W : World) (hp : Sp w W n A c (N : Int)) => split1_any W n A c w.heap.size hp.x HOK.out.2.2 HLOC.out)
  have hmf : ∀ (fn : Fn) (first cap : Array Value) (w : World), (Instr.makeFunc fn first cap).run Try.prog w = .ok (.func fn first cap) w := fun _ _ _ _ => rfl
  have hst : ∀ (x : Addr) (fn : Fn) (first cap : Array Value) (w : World), (store x (.func fn first cap)).run Try.prog w = stored Try.prog w x (.func fn first cap) .plain := fun _ _ _ _ _ => run_store _ _ _ _ _ rfl
  have HMP := Lib.hid hms'
  clear hfit hms hms'
  obtain ⟨w3, hw3⟩ : ∃ W, W = w2.alloc (.cells #[.func (.func 96) #[] #[.pointer (some ⟨w.heap.size, 0, none⟩)]] 132) := ⟨_, rfl⟩
  have hb3 : Below w2.heap.size w2 w3 := by rw [hw3]; exact (Below.refl _ _).alloc (Nat.le_refl _) _
  have HFN3 := Lib.hid (show w3.cell? ⟨w2.heap.size, 0, none⟩ = some (.func (.func 96) #[] #[.pointer (some ⟨w.heap.size, 0, none⟩)]) by rw [hw3, heap_cell (heap_alloc_new _ _)]; rfl)
  have HP3 := Lib.hid (HP2.out.keep hb3)
  have HW3 := Lib.hid hw3
  have hz2 := HP2.out.sz
  obtain ⟨g7, hg7⟩ : ∃ x, w2.heap.size = x := ⟨_, rfl⟩
  have HG7 := Lib.hid hg7
  rw [hg7] at HFN3
  have HCF := Lib.hid (containsF2_any w3 A n.cs.length c n.cs 99 (.pointer (some ⟨g7, 0, none⟩)) (.pointer (some ⟨w.heap.size + 1, 0, none⟩)) (fun d => decide (N / 4 - 8 < (encC n.kind d).length)) rfl (by omega) (HA.out.keep HP3.out.bel)
    (split2_any w3 n.kind N g7 (w.heap.size + 1) 96 (.pointer (some ⟨w.heap.size, 0, none⟩)) n.cs HFN3.out HP3.out.y ⟨hN1, hN2⟩ HTK.out (HW1.out w3 HP3.out) (fun _ _ => by rfl)) (fun _ _ => by rfl))
  clear hw3 hb3 hg7
  go_upto_region 6 with fail
  rw [← HW3.out, HG7.out]
  clear HW3
  have m1 := HP3.out.x.all.2.1
  go_wp2_with fail
  refine HCF.out.mono ?_
  rintro e w4 ⟨rfl, hb4⟩
  have HP4 := Lib.hid (HP3.out.keep hb4)
  have HFN4 := Lib.hid ((hb4.cell (p := ⟨g7, 0, none⟩) (World.block_lt_of_cell? w3 ⟨g7, 0, none⟩ HFN3.out)).trans HFN3.out)
  have hg7l : g7 < w4.heap.size := World.block_lt_of_cell? w4 ⟨g7, 0, none⟩ HFN4.out
  obtain ⟨bv, hbv⟩ : ∃ b, (n.cs.any fun d => decide (N / 4 - 8 < (encC n.kind d).length)) = b := ⟨_, rfl⟩
  rw [hbv]
  have HBV := Lib.hid (show bv = true ↔ ¬ shortN n N by
    rw [← hbv, List.any_eq_true]
    unfold shortN
    refine ⟨fun ⟨d, h1, h2⟩ h => ?_, fun h => ?_⟩
    · have := h d h1; have := of_decide_eq_true h2; omega
    · by_cases hx : ∃ d, d ∈ n.cs ∧ decide (N / 4 - 8 < (encC n.kind d).length) = true
      · exact hx
      · exact absurd (fun d hd => by
          by_cases hy : N / 4 - 8 < (encC n.kind d).length
          · exact absurd ⟨d, hd, decide_eq_true hy⟩ hx
          · omega) h)
  clear hbv HCF hb4 HFN3 HP3 m1 hmf hst
  cases bv
  case true =>
    have HF := Lib.hid (HBV.out.1 rfl)
    go_wp2_with fail
    rw [HR.out]
    exact ⟨HP4.out.bel, .inr ⟨HOKN.out, none, 0, [], none, 0, [], 5, rfl, SpSt.nil _ _, .inr (.inl ⟨HFIT.out, by rw [Int.toNat_natCast]; exact HF.out, rfl, rfl, rfl⟩)⟩⟩
  have HSH := Lib.hid (show shortN n N from Classical.byContradiction fun h => by have := HBV.out.2 h; cases this)
  clear HBV
  go_wp2_with fail
  go_loopw [8, 9, 10] (SpRel w w4 n most) (fun _ _ a _ => n.cs.length - (intOf a).toNat)
  case atStart => exact ⟨[], none, 0, none, 0, 0, rfl, Chain.nil _ _, Nat.zero_le _, rfl, rfl, SpSt.nil _ _, Nat.le_refl _, Below.refl _ _⟩
  case round =>
    rename World => wk
    obtain ⟨ps, NA, nc, SA, sc, a, rfl, hch, hal, rfl, rfl, hst, hpl, hbk⟩ := hrel
    have HCH := Lib.hid hch
    have HST := Lib.hid hst
    have hzk := hbk.size
    have HPk := Lib.hid (HP4.out.keep hbk)
    have HFNk := Lib.hid ((hbk.cell (p := ⟨g7, 0, none⟩) hg7l).trans HFN4.out)
    have m1 := HPk.out.x.all.2.1
    clear hch hst
    by_cases hlt : a < n.cs.length
    · have hlt' : (a : Int) < (n.cs.length : Int) := by omega
      have i0 : (0 : Int) ≤ (a : Int) := by omega
      have hcut := run_cutC_from A n.cs.length c a hal
      have HCUT := Lib.hid (sgC_to n.cs a ▸ HA.out.cut c (a := a) (Nat.le_refl _) hlc : RdCl w (cutC A c a) (n.cs.drop a))
      have HSUB := Lib.hid (fun (d : Cl) (hd : d ∈ n.cs.drop a) => (List.mem_of_mem_drop hd : d ∈ n.cs))
      have F1 : ∀ W : World, (Below wk.heap.size wk W) → W.cell? ⟨w.heap.size, 1, none⟩ = some (.slice A n.cs.length c) := fun W hW => (HPk.out.keep hW).x.all.2.1
      have F3 : ∀ W : World, (Below wk.heap.size wk W) → W.cell? ⟨w.heap.size + 1, 0, none⟩ = some (.int .i64 (N : Int)) := fun W hW => (HPk.out.keep hW).y
      have F7 : ∀ W : World, (Below wk.heap.size wk W) → W.cell? ⟨g7, 0, none⟩ = some (.func (.func 96) #[] #[.pointer (some ⟨w.heap.size, 0, none⟩)]) := fun W hW => (hW.cell (p := ⟨g7, 0, none⟩) (by have := hg7l; show g7 < _; omega)).trans HFNk.out
      go_upto_region 12 with fail
      clear m1
      refine wp_region_held_drew (S := (fun W => Below wk.heap.size wk W)) (by kernel_rfl) ?_ (fun hHeld => ?_)
      · exact (Below.refl _ wk).drew
      refine' wpAnyH_take (i := 0) (oi := _) (v := _) rfl (by kernel_rfl) (by kernel_rfl) (by kernel_rfl) (fun _ _ _ h => h) (Or.inl ⟨by rfl, ?hz11⟩) (by assumption) ?rezt11
      case hz11 => (intro w' hSw; (try dsimp only at hSw); go_simp; try with_reducible rfl)
      try simp only [Act.put, List.setIfInBounds_toArray, List.set_cons_zero, List.set_cons_succ, List.getElem_toArray, List.getElem_cons_zero, List.getElem_cons_succ]
      refine' wpAnyH_take (i := 1) (oi := _) (v := _) rfl (by kernel_rfl) (by kernel_rfl) (by kernel_rfl) (fun _ _ _ h => h) (Or.inl ⟨by rfl, ?hz12⟩) (by assumption) ?rezt12
      case hz12 => (intro w' hSw; (try dsimp only at hSw); go_simp; try with_reducible rfl)
      try simp only [Act.put, List.setIfInBounds_toArray, List.set_cons_zero, List.set_cons_succ, List.getElem_toArray, List.getElem_cons_zero, List.getElem_cons_succ]
      refine' wpAnyH_take (i := 2) (oi := _) (v := _) rfl (by kernel_rfl) (by kernel_rfl) (by kernel_rfl) (fun _ _ _ h => h) (Or.inl ⟨by rfl, ?hz13⟩) (by assumption) ?rezt13
      case hz13 => (intro w' hSw; (try dsimp only at hSw); go_simp; try with_reducible rfl)
      try simp only [Act.put, List.setIfInBounds_toArray, List.set_cons_zero, List.set_cons_succ, List.getElem_toArray, List.getElem_cons_zero, List.getElem_cons_succ]
      refine' wpAnyH_take (i := 3) (oi := _) (v := _) rfl (by kernel_rfl) (by kernel_rfl) (by kernel_rfl) (fun _ _ _ h => h) (Or.inl ⟨by rfl, ?hz14⟩) (by assumption) ?rezt14
      case hz14 => (intro w' hSw; (try dsimp only at hSw); go_simp; try with_reducible rfl)
      try simp only [Act.put, List.setIfInBounds_toArray, List.set_cons_zero, List.set_cons_succ, List.getElem_toArray, List.getElem_cons_zero, List.getElem_cons_succ]
      refine' wpAnyH_take (i := 4) (oi := _) (v := _) rfl (by kernel_rfl) (by kernel_rfl) (by kernel_rfl) (fun _ _ _ h => h) (Or.inl ⟨by rfl, ?hz15⟩) (by assumption) ?rezt15
      case hz15 => (intro w' hSw; (try dsimp only at hSw); go_simp; try with_reducible rfl)
      try simp only [Act.put, List.setIfInBounds_toArray, List.set_cons_zero, List.set_cons_succ, List.getElem_toArray, List.getElem_cons_zero, List.getElem_cons_succ]
      refine' wpAnyH_take (i := 5) (oi := _) (v := _) rfl (by kernel_rfl) (by kernel_rfl) (by kernel_rfl) (fun _ _ _ h => h) (Or.inl ⟨by rfl, ?hz16⟩) (by assumption) ?rezt16
      case hz16 => (intro w' hSw; (try dsimp only at hSw); go_simp; try with_reducible rfl)
      try simp only [Act.put, List.setIfInBounds_toArray, List.set_cons_zero, List.set_cons_succ, List.getElem_toArray, List.getElem_cons_zero, List.getElem_cons_succ]
      refine' wpAnyH_take (i := 6) (oi := _) (v := _) rfl (by kernel_rfl) (by kernel_rfl) (by kernel_rfl) (fun _ _ _ h => h) (Or.inl ⟨by rfl, ?hz17⟩) (by assumption) ?rezt17
      case hz17 => (intro w' hSw; (try dsimp only at hSw); go_simp; try with_reducible rfl)
      try simp only [Act.put, List.setIfInBounds_toArray, List.set_cons_zero, List.set_cons_succ, List.getElem_toArray, List.getElem_cons_zero, List.getElem_cons_succ]
      refine' wpAnyH_take (i := 7) (oi := _) (v := _) rfl (by kernel_rfl) (by kernel_rfl) (by kernel_rfl) (fun _ _ _ h => h) (Or.inl ⟨by rfl, ?hz18⟩) (by assumption) ?rezt18
      case hz18 => (intro w' hSw; (try dsimp only at hSw); go_simp; try with_reducible rfl)
      try simp only [Act.put, List.setIfInBounds_toArray, List.set_cons_zero, List.set_cons_succ, List.getElem_toArray, List.getElem_cons_zero, List.getElem_cons_succ]
      refine wpAnyH_ready (rs := [8]) (by kernel_rfl) (by simp) ?_
      refine AllReadyH.cons (o := _) rfl (fun K hK => ?_) AllReadyH.nil
      go_simp
      have hbd : Below wk.heap.size wk wk.drew := (Below.refl _ wk).drew
      rw [HMP.out, IntWalk.i64_in (most : Int) (by omega)]
      go_at_call 100
      refine (run_any _ (cutC A c a) (n.cs.length - a) (c - a) (n.cs.drop a) most 96 (.pointer (some ⟨w.heap.size, 0, none⟩)) n.kind List.length_drop (by omega) (by omega) (fun d hd => HTK.out d (HSUB.out d hd)) (HCUT.out.keep (HPk.out.keep hbd).bel) ((HW1.out _ (HPk.out.keep hbd)).sub HSUB.out) (fun _ _ => by rfl) _ rfl).mono ?_
      rintro e w5 ⟨r, rfl, hrun, hb5⟩
      have hbk5 : Below wk.heap.size wk w5 := hbd.trans (hb5.mono (Nat.le_refl _))
      have HRUN := Lib.hid hrun
      have hrl : r ≤ n.cs.length - a := by have := hrun.1; rwa [List.length_drop] at this
      clear hrun hb5 hbd
      refine hK.out _ _ ?_ (fun hHeld => ?_)
      · exact hbk5
      clear hK K
      try simp only [Act.put, List.setIfInBounds_toArray, List.set_cons_zero, List.set_cons_succ, List.getElem_toArray, List.getElem_cons_zero, List.getElem_cons_succ]
      refine' wpAnyH_take (i := 9) (oi := _) (v := _) rfl (by kernel_rfl) (by kernel_rfl) (by kernel_rfl) (fun _ _ _ h => h) (Or.inl ⟨by rfl, ?hz19⟩) (by assumption) ?rezt19
      case hz19 => (intro w' hSw; (try dsimp only at hSw); go_simp; try with_reducible rfl)
      try simp only [Act.put, List.setIfInBounds_toArray, List.set_cons_zero, List.set_cons_succ, List.getElem_toArray, List.getElem_cons_zero, List.getElem_cons_succ]
      refine' wpAnyH_take (i := 10) (oi := _) (v := _) rfl (by kernel_rfl) (by kernel_rfl) (by kernel_rfl) (fun _ _ _ h => h) (Or.inl ⟨by rfl, ?hz20⟩) (by assumption) ?rezt20
      case hz20 => (intro w' hSw; (try dsimp only at hSw); go_simp; try with_reducible rfl)
      try simp only [Act.put, List.setIfInBounds_toArray, List.set_cons_zero, List.set_cons_succ, List.getElem_toArray, List.getElem_cons_zero, List.getElem_cons_succ]
      refine wpAnyH_done (by kernel_rfl) ?_ _
      have m1 := (HPk.out.keep hbk5).x.all.2.1
      have m0 := (HPk.out.keep hbk5).x.all.1
      clear F1 F3 F7
      go_upto_region 13 with fail
      obtain ⟨t0, ht0⟩ : ∃ x, a + r = x := ⟨_, rfl⟩
      have hw0 : IntKind.i64.wrap ((a : Int) + (r : Int)) = (t0 : Int) := by rw [IntWalk.i64_in _ (by omega)]; omega
      rw [hw0]
      have HT0 := Lib.hid ht0
      have ht0l : t0 ≤ n.cs.length := by omega
      have ht0a : a ≤ t0 := by omega
      clear hw0 ht0
      go_cut [71] from 39 to 99 (fun v wx => v = .bool (decide (t0 < n.cs.length ∧ n.kind ≠ 1 ∧ t0 + 1 = n.cs.length)) ∧ wx = w5)
      case first =>
        by_cases h1 : t0 < n.cs.length
        · have h1' : (t0 : Int) < (n.cs.length : Int) := by omega
          by_cases h2 : n.kind = 1
          · have q : (n.kind != 1) = false := by simp [h2]
            have HF := Lib.hid (decide_eq_false (show ¬ (t0 < n.cs.length ∧ n.kind ≠ 1 ∧ t0 + 1 = n.cs.length) from fun h => h.2.1 h2))
            clear h2
            go_wp2_with fail
            go_meet
            exact ⟨by rw [HF.out], rfl⟩
          · have q : (n.kind != 1) = true := by simp [h2]
            by_cases h3 : t0 + 1 = n.cs.length
            · have q3 : ((t0 : Int) == (n.cs.length : Int) - 1) = true := by simp; omega
              have HF := Lib.hid (decide_eq_true (show (t0 < n.cs.length ∧ n.kind ≠ 1 ∧ t0 + 1 = n.cs.length) from ⟨h1, h2, h3⟩))
              clear h2 h3
              go_wp2_with fail
              go_meet
              exact ⟨by rw [HF.out], rfl⟩
            · have q3 : ((t0 : Int) == (n.cs.length : Int) - 1) = false := by simp; omega
              have HF := Lib.hid (decide_eq_false (show ¬ (t0 < n.cs.length ∧ n.kind ≠ 1 ∧ t0 + 1 = n.cs.length) from fun h => h3 h.2.2))
              clear h2 h3
              go_wp2_with fail
              go_meet
              exact ⟨by rw [HF.out], rfl⟩
        · have h1' : ¬ (t0 : Int) < (n.cs.length : Int) := by omega
          have HF := Lib.hid (decide_eq_false (show ¬ (t0 < n.cs.length ∧ n.kind ≠ 1 ∧ t0 + 1 = n.cs.length) from fun h => h1 h.1))
          go_wp2_with fail
          go_meet
          exact ⟨by rw [HF.out], rfl⟩
      case rest =>
        rename World => wc
        obtain ⟨rfl, rfl⟩ := hcut
        obtain ⟨t, ht⟩ : ∃ t, t = if t0 < n.cs.length ∧ n.kind ≠ 1 ∧ t0 + 1 = n.cs.length then t0 - 1 else t0 := ⟨_, rfl⟩
        have HPO := Lib.hid (pair_run (q := N / 4 - 4) (fun d hd => by have := HSH.out d hd; unfold tkC; omega) (by have := HMS.out; omega) hlt HRUN.out t (by rw [HT0.out]; exact ht))
        have hpo := HPO.out
        have hat : a < t := hpo.1
        have htl : t ≤ n.cs.length := hpo.2.1
        have HT := Lib.hid ht
        clear hpo ht
        go_upto_if 71 with fail
        go_cut [11] from 39 to 99 (fun v wx => v = .int .i64 (t : Int) ∧ wx = wc)
        case first =>
          by_cases hD : t0 < n.cs.length ∧ n.kind ≠ 1 ∧ t0 + 1 = n.cs.length
          · rw [decide_eq_true hD]
            have e : (t0 : Int) - 1 = (t : Int) := by
              have := HT.out
              rw [if_pos hD] at this
              omega
            have HE := Lib.hid e
            clear hD e
            go_wp2_with fail
            go_meet
            exact ⟨by rw [HE.out], rfl⟩
          · rw [decide_eq_false hD]
            have HE := Lib.hid (show t = t0 by have := HT.out; rwa [if_neg hD] at this)
            clear hD
            go_wp2_with fail
            go_meet
            exact ⟨by rw [HE.out], rfl⟩
        case rest =>
          rename World => wd
          obtain ⟨rfl, rfl⟩ := hcut
          have HPd := Lib.hid (HPk.out.keep hbk5)
          have HSd := Lib.hid (HST.out.keep hbk5)
          have hzd := hbk5.size
          clear m0 m1 HPk HST
          go_upto_region 15 with fail
          go_step
          refine wp_load_nd rfl _ rfl w.heap.size n A c rfl HPd.out.x ?_
          go_wp2_with fail
          refine (part_any _ n A c a t hat htl hlc hcm (by omega) HLOC.out (HA.out.keep HPd.out.bel) _ rfl).mono ?_
          rintro e w6 ⟨A8, c8, X, d, x, rfl, hsx, hown, hloc, hxd, hdm, hb6⟩
          obtain ⟨m, hm⟩ : ∃ m, nodeI n a t = m := ⟨_, rfl⟩
          rw [hm] at hown
          rw [hm]
          have HMI := Lib.hid hm
          have HSX := Lib.hid hsx
          have HOW := Lib.hid hown
          have HLO := Lib.hid hloc
          have HP6 := Lib.hid (HPd.out.keep hb6)
          have HS6 := Lib.hid (HSd.out.keep hb6)
          have HBAD := Lib.hid (fun g hg => (HSd.out.ty g hg).1.2)
          have hz6 := hb6.size
          have hbk6 : Below wk.heap.size wk w6 := hbk5.trans (hb6.mono hzd)
          clear hm hsx hown hloc hb6 HPd HSd
          simp only []
          iterate 16 go_step
          obtain ⟨W7, hW7⟩ : ∃ W, W = (w6.alloc (.cells #[.int .i64 0, .slice none 0 0, .int .i64 0] 69)).alloc (.cells #[.int .i64 0, .int .i64 0, .int .i64 0, .slice none 0 0, .int .i64 0] 55) := ⟨_, rfl⟩
          have hs1 : (w6.alloc (.cells #[.int .i64 0, .slice none 0 0, .int .i64 0] 69)).heap.size = w6.heap.size + 1 := by simp
          have b1 : ∀ (X : World) (o : Obj), Below X.heap.size X (X.alloc o) := fun X o => (Below.refl _ _).alloc (Nat.le_refl _) _
          have HT12 := Lib.hid (show W7.there w6.heap.size 0 3 by rw [hW7]; exact there_keepR (there_new3 w6 _ _ _ _) (b1 _ _) (by rw [hs1]; omega))
          have HT13 := Lib.hid (show W7.there (w6.heap.size + 1) 0 5 by
            have := there_new5 (w6.alloc (.cells #[.int .i64 0, .slice none 0 0, .int .i64 0] 69)) (.int .i64 0) (.int .i64 0) (.int .i64 0) (.slice none 0 0) (.int .i64 0) 55
            rw [hs1] at this
            rw [hW7]; exact this)
          have hb67 : Below w6.heap.size w6 W7 := by rw [hW7]; exact (b1 w6 _).trans ((b1 _ _).mono (by rw [hs1]; omega))
          have hl7 : w6.heap.size + 2 ≤ W7.heap.size := by rw [hW7]; simp
          rw [← hW7]
          clear hW7 hs1
          refine wp_store_nd rfl _ _ rfl w6.heap.size m A8 c8 rfl rfl HT12.out ?_
          refine wp_store_cl rfl _ _ rfl (w6.heap.size + 1) x X x.loc.length d rfl rfl (World.there_setCells HT13.out _ _ _) ?_
          obtain ⟨w8, hw8⟩ : ∃ W, W = (W7.setCells w6.heap.size 0 (ndC m A8 c8)).setCells (w6.heap.size + 1) 0 (clC x X x.loc.length d) := ⟨_, rfl⟩
          have HN12 := Lib.hid (show NdAt w8 w6.heap.size m A8 c8 by rw [hw8]; exact (NdAt.stored HT12.out m A8 c8).ne (heap_setCells_ne _ _ _ _ (by omega)))
          have HC13 := Lib.hid (show w8.rangeAt (w6.heap.size + 1) 0 (clC x X x.loc.length d) by rw [hw8]; exact World.rangeAt_setCells_same _ _ _ _ (World.there_setCells HT13.out _ _ _))
          have hb8 : Below w6.heap.size w6 w8 := by rw [hw8]; exact below_setCellsR (below_setCellsR hb67 (Nat.le_refl _) _ _) (Nat.le_succ _) _ _
          have hl8 : w6.heap.size + 2 ≤ w8.heap.size := by rw [hw8, size_setCells, size_setCells]; exact hl7
          have HP8 := Lib.hid (HP6.out.keep hb8)
          have HS8 := Lib.hid (HS6.out.keep hb8)
          have HO8 := Lib.hid (HOW.out.keep hb8)
          have HL8 := Lib.hid (HLO.out.keep hb8)
          have hbk8 : Below wk.heap.size wk w8 := hbk6.trans (hb8.mono hbk6.size)
          rw [← hw8]
          obtain ⟨g12, hg12⟩ : ∃ x, w6.heap.size = x := ⟨_, rfl⟩
          rw [hg12] at HN12 HC13 hl8 hz6 ⊢
          clear hw8 hb67 HT12 HT13 HP6 HS6 HOW HLO hg12 hl7 hb8 hbk6 b1
          go_upto_region 16 with fail
          iterate 4 go_step
          refine wp_load_nda rfl _ rfl g12 m A8 c8 rfl HN12.out ?_
          iterate 3 go_step
          obtain ⟨w9, hw9⟩ : ∃ W, W = w8.alloc (.cells #[.int .i64 m.kind, .slice A8 m.cs.length c8, .int .i64 m.right] 69) := ⟨_, rfl⟩
          have hb9 : Below w8.heap.size w8 w9 := by rw [hw9]; exact (Below.refl _ _).alloc (Nat.le_refl _) _
          have HN9 := Lib.hid (show NdAt w9 w8.heap.size m A8 c8 by rw [hw9]; exact NdAt.made w8 m A8 c8 _)
          have HP9 := Lib.hid (HP8.out.keep hb9)
          have HS9 := Lib.hid (HS8.out.keep hb9)
          have HO9 := Lib.hid (HO8.out.keep hb9)
          have HL9 := Lib.hid (HL8.out.keep hb9)
          have HC9 := Lib.hid (rangeKeep HC13.out hb9 (by omega))
          have hl9 : w8.heap.size ≤ w9.heap.size := hb9.size
          have hbk9 : Below wk.heap.size wk w9 := hbk8.trans (hb9.mono hbk8.size)
          rw [← hw9]
          clear hw9 hb9 HN12 HC13 HP8 HS8 HO8 HL8 hbk8
          obtain ⟨vs, hvs1, hvs2⟩ := HS9.out.nrow
          have HV1 := Lib.hid hvs1
          have HV2 := Lib.hid hvs2
          have hcap8 := HO9.out.cap
          have HRX := Lib.hid (HO9.out.rdX (bad := blkO NA ++ blkO SA) (fun g hg => ⟨HBAD.out g hg, (HS9.out.ty g hg).2⟩))
          have hw49 : w4.heap.size ≤ w9.heap.size := by omega
          have hnl := nodesOf_len n ps
          have hsl := sepsOf_len n ps
          have HNL := Lib.hid hnl
          have hnl1 : (nodesOf n ps).length ≤ 400 := by omega
          have hsl1 : (sepsOf n ps).length ≤ 400 := by omega
          clear hvs1 hvs2 hnl
          refine wp_append_k 83 69 _ 3 40 Try.underlying83 info_nd rfl (by decide) (by decide) rfl (.tmp 81) (.tmp 83) rfl w4.heap.size NA (nodesOf n ps).length nc vs rfl HV1.out ⟨w8.heap.size, 0, none⟩ 1 1 (ndC m A8 c8) rfl rfl (fun j u hu => by
            have := HN9.out j u hu
            rw [Nat.zero_add] at this
            simpa [Addr.add_lit] using this) (ndC_one m A8 c8) (by omega) hw49 ?_
          intro NA' nc' w10 hrow10 hb10 hk10
          have HS10 := Lib.hid (HS9.out.node HV1.out HV2.out hcap8.1 hcap8.2 HRX.out hrow10 hk10)
          have hbk10 : Below w4.heap.size w4 w10 := hbk.trans ((hbk9.mono hzk).trans hb10)
          have HP10 := Lib.hid (HP4.out.keep hbk10)
          have HL10 := Lib.hid (HL9.out.kept HV1.out (by decide) hk10)
          have HC10 := Lib.hid (show w10.rangeAt (g12 + 1) 0 (clC x X x.loc.length d) from rangeNe HC9.out (hk10.1 (g12 + 1) (by omega) (fun b hb e => by
            have := HBAD.out b.block (by subst hb; simp [blkO])
            omega)))
          have HTY10 := Lib.hid (fun g hg => (HS10.out.ty g hg))
          have hlen10 : (nodesOf n ps).length + 1 = (nodesOf n (ps ++ [(a, t)])).length := by rw [nodesOf_app, List.length_append]; rfl
          have HNO := Lib.hid (show nodesOf n ps ++ [m] = nodesOf n (ps ++ [(a, t)]) by rw [nodesOf_app, HMI.out])
          have HLEN := Lib.hid hlen10
          rw [HNO.out] at HS10
          rw [hlen10]
          have m1 := HP10.out.x.all.2.1
          have m0 := HP10.out.x.all.1
          have hpl' : (ps ++ [(a, t)]).length = ps.length + 1 := by simp
          have HPL := Lib.hid hpl'
          have HCS := Lib.hid (HCH.out.step hlt HPO.out)
          clear hrow10 hk10 HS9 HV1 HV2 HRX HO9 HL9 HC9 HN9 hlen10 HP9 hpl'
          by_cases htn : t < n.cs.length
          · have htn' : (t : Int) < (n.cs.length : Int) := by omega
            have HTN := Lib.hid htn
            go_upto_region 19 with fail
            iterate 4 go_step
            clear m1 m0
            refine wp_load_clg5 rfl _ rfl (g12 + 1) x X x.loc.length d rfl HC10.out ?_
            iterate 3 go_step
            obtain ⟨w11, hw11⟩ : ∃ W, W = w10.alloc (.cells #[.int .i64 x.key, .int .i64 x.child, .int .i64 x.total, .slice X x.loc.length d, .int .i64 x.spill] 55) := ⟨_, rfl⟩
            have hb11 : Below w10.heap.size w10 w11 := by rw [hw11]; exact (Below.refl _ _).alloc (Nat.le_refl _) _
            have HC11 := Lib.hid (show w11.rangeAt w10.heap.size 0 (clC x X x.loc.length d) by
              rw [hw11]
              intro j u hu
              rw [Nat.zero_add, heap_cell (heap_alloc_new w10 _)]
              simpa [clC] using hu)
            have HS11 := Lib.hid (HS10.out.keep hb11)
            have HL11 := Lib.hid (HL10.out.keep hb11)
            have hz10 := hbk10.size
            have hbk11 : Below w4.heap.size w4 w11 := hbk10.trans (hb11.mono hz10)
            have hw411 : w4.heap.size ≤ w11.heap.size := hbk11.size
            rw [← hw11]
            clear hw11 hb11 HC10 HL10 HS10
            obtain ⟨us, hus1, hus2⟩ := HS11.out.srow
            have HV1 := Lib.hid hus1
            have HV2 := Lib.hid hus2
            have HRG := Lib.hid (HL11.out.rdTy (bad := blkO NA' ++ blkO SA) (fun g hg => (HS11.out.ty g hg).2))
            clear hus1 hus2
            refine wp_append_k 67 55 _ 5 56 Try.underlying67 info_cl rfl (by decide) (by decide) rfl (.tmp 91) (.tmp 93) rfl w4.heap.size SA (sepsOf n ps).length sc us rfl HV1.out ⟨w10.heap.size, 0, none⟩ 1 1 (clC x X x.loc.length d) rfl rfl (fun j u hu => by
              have := HC11.out j u hu
              rw [Nat.zero_add] at this
              simpa [Addr.add_lit] using this) (clC_one x X x.loc.length d) (by omega) hw411 ?_
            intro SA' sc' w12 hrow12 hb12 hk12
            have HS12 := Lib.hid (HS11.out.sep HV1.out HV2.out hxd hdm HRG.out hrow12 hk12)
            have hbk12 : Below w4.heap.size w4 w12 := hbk11.trans hb12
            have HP12 := Lib.hid (HP4.out.keep hbk12)
            have HSE := Lib.hid (show sepsOf n ps ++ [x] = sepsOf n (ps ++ [(a, t)]) by rw [sepsOf_yes n ps HTN.out, HSX.out HTN.out])
            have hlen12 : (sepsOf n ps).length + 1 = (sepsOf n (ps ++ [(a, t)])).length := by rw [← HSE.out, List.length_append]; rfl
            rw [HSE.out] at HS12
            rw [hlen12]
            have m0 := HP12.out.x.all.1
            clear hrow12 hk12 hb12 HS11 HV1 HV2 HRG HL11 HC11 hlen12
            by_cases hk : n.kind = 1
            · have q : (n.kind != 1) = false := by simp [hk]
              have HG := Lib.hid (show goOn n t = t by unfold goOn nxt; rw [if_pos htn, if_pos hk])
              clear hk htn
              go_wp2_with fail
              go_roundw
              case rel =>
                exact ⟨ps ++ [(a, t)], NA', nc', SA', sc', t, by go_num, by have := HCS.out; rwa [HG.out] at this, htl, rfl, rfl, HS12.out, by rw [HPL.out]; omega, hbk12⟩
              case measure => simp [intOf]; omega
            · have q : (n.kind != 1) = true := by simp [hk]
              have HG := Lib.hid (show goOn n t = t + 1 by unfold goOn nxt; rw [if_pos htn, if_neg hk])
              clear hk htn
              go_wp2_with fail
              go_roundw
              case rel =>
                exact ⟨ps ++ [(a, t)], NA', nc', SA', sc', t + 1, by go_num, by have := HCS.out; rwa [HG.out] at this, by have := HTN.out; omega, rfl, rfl, HS12.out, by rw [HPL.out]; omega, hbk12⟩
              case measure => simp [intOf]; omega
          · have htn' : ¬ (t : Int) < (n.cs.length : Int) := by omega
            have HTN := Lib.hid htn
            have HG := Lib.hid (show goOn n t = t by unfold goOn; rw [if_neg htn])
            have HSE := Lib.hid (sepsOf_no n ps (a := a) htn)
            clear htn
            go_wp2_with fail
            go_roundw
            case rel =>
              exact ⟨ps ++ [(a, t)], NA', nc', SA, sc, t, by go_num, by have := HCS.out; rwa [HG.out] at this, htl, rfl, by rw [HSE.out], by rw [HSE.out]; exact HS10.out, by rw [HPL.out]; omega, hbk10⟩
            case measure => simp [intOf]; omega
    · have HF := Lib.hid hlt
      clear hlt
      go_wp2_with fail
      rw [HR.out]
      exact ⟨HPk.out.bel, .inr ⟨HOKN.out, NA, nc, _, SA, sc, _, 0, rfl, HST.out.mono (Nat.le_trans HP4.out.bel.size (Nat.le_refl _)), .inr (.inr ⟨HFIT.out, by rw [Int.toNat_natCast]; exact HSH.out, rfl, ps, by rw [Int.toNat_natCast, HMS.out]; exact HCH.out.parts HF.out HBIG.out, rfl, rfl⟩)⟩⟩
end
end Go.Proofs.Ytoeaffmlolapnaa
