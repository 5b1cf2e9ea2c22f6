/- Several texts of this proof as one: SrL, SrK, SrQ, SrR. Laid by merge.py. -/
import Derived.Test.YtoeaffmlolapnaaNmA
import Derived.Test.YtoeaffmlolapnaaNmB
import Derived.Test.YtoeaffmlolapnaaNmJ
import Derived.Test.YtoeaffmlolapnaaNmK
import Derived.Test.YtoeaffmlolapnaaNmL
import Derived.ArgAppend
import Derived.BigQuiet
import Derived.ChangeOld
import Derived.Deep.DeepCutAuto
import Derived.Deep.Matrix
import Derived.Deep.MidRow
import Derived.Deep.QuietTactic
import Derived.Deep.RegionHeld3
import Derived.Deep.Slices
import Derived.Handy
import Derived.Laws.CopyOwn
import Derived.Laws.ResultCell
import Derived.Lib.AppendStr
import Derived.Lib.Hide
import Derived.Lib.SliceRun
import Derived.Lib.SmallJoins
import Derived.Maps.AppendAt
import Derived.OpenShut
import Derived.ProofKit
import Derived.ShutString
import Derived.SizedLaws
import Derived.Test.YtoeaffmlolapnaaProg
import Derived.WalkKit
import Derived.WalkSpells
namespace Go.Proofs.Ytoeaffmlolapnaa
section
open Go.RowKit
set_option maxRecDepth 100000
set_option linter.unusedVariables false
set_option linter.unusedSimpArgs false
set_option linter.unnecessarySimpa false
/-- A page is the page of its bytes. -/
theorem IsP.mdl {L : List Int} {M : Mdl} (g : Good M) (p : IsP L M) : mdlOf L M.h = M := by
  have hk : kOf L M.h = M.k := by unfold kOf; rw [p.many]; rfl
  have hp : ∀ j, j < M.k → pOf L M.h j = M.pl j := fun j hj => by unfold pOf; rw [p.slots j hj]; rfl
  have hl : ∀ j, j < M.k → lOf L (M.pl j) = (M.cl j).length := fun j hj => by unfold lOf; rw [p.lens j hj]; rfl
  have hc : ∀ j, j < M.k → cOf L M.h j = M.cl j := fun j hj => by
    have h1 := g.hi j hj
    unfold cOf
    rw [hp j hj, hl j hj]
    refine eq_of_bt (by rw [List.length_take, List.length_drop, p.len]; omega) fun x hx => ?_
    rw [List.length_take] at hx
    rw [bt_dt, if_pos (by omega), p.body j hj x (by omega)]
  have hfit := g.fit
  have hu : M.used M.k = M.h + 2 + 2 * M.k := rfl
  have hF : L.take M.h = M.F := by
    refine eq_of_bt (by rw [List.length_take, p.len]; show min M.h M.n = M.h; omega) fun x hx => ?_
    have hx' : x < M.h := by rw [List.length_take] at hx; omega
    have e : bt (L.take M.h) x = bt L x := by
      unfold bt
      simp only [List.getD_eq_getElem?_getD, List.getElem?_take, if_pos hx']
    rw [e, p.front x hx']
  have hC : (List.range M.k).map (cOf L M.h) = M.C := by
    refine List.ext_getElem (by simp [Mdl.k]) fun i h1 h2 => ?_
    have hi : i < M.k := h2
    simp only [List.getElem_map, List.getElem_range]
    rw [hc i hi]
    simp [Mdl.cl, h2]
  have hP : (List.range M.k).map (pOf L M.h) = M.P := by
    refine List.ext_getElem (by simp [g.same]) fun i h1 h2 => ?_
    have hi : i < M.k := by rw [← g.same]; exact h2
    simp only [List.getElem_map, List.getElem_range]
    rw [hp i hi]
    simp [Mdl.pl, h2]
  unfold mdlOf
  rw [hk, hF, hC, hP, p.len]
theorem IsP.of {L : List Int} {M : Mdl} (g : Good M) (p : IsP L M) : ofP L M.h := by
  unfold ofP
  rw [p.mdl g]
  exact ⟨g, p⟩
theorem OwnB.ne {w w' : World} {base n c bb t : Nat} {l : List Int} (h : OwnB w base (some ⟨bb, 0, none⟩) n c l) (e : ∀ k, k ≠ t → k < w.heap.size → w'.heap[k]? = w.heap[k]?) (hne : bb ≠ t) : OwnB w' base (some ⟨bb, 0, none⟩) n c l := by
  refine ⟨h.1, ?_⟩
  rcases h.2 with hv | ⟨g, cap, cur, hv, hbg, hgg, rest⟩
  · exact .inl hv
  · obtain rfl : bb = g := by injection hv with e1; injection e1 with e1; injection e1
    exact .inr ⟨bb, cap, cur, hv, hbg, (e bb hne (Array.getElem?_eq_some_iff.1 hgg).1).trans hgg, rest⟩
end
section
open Go.RowKit
set_option maxRecDepth 100000
set_option linter.unusedVariables false
set_option linter.unusedSimpArgs false
set_option linter.unnecessarySimpa false
theorem OwnB.mut {w w' : World} {gb base n c : Nat} {A : Option Addr} {l : List Int} (h : OwnB w base A n c l) (hm : Mut w gb w') (hg : gb < base) : OwnB w' base A n c l := by
  refine ⟨h.1, ?_⟩
  rcases h.2 with hv | ⟨g, cap, cur, hv, hbg, hgg, rest⟩
  · exact .inl hv
  · exact .inr ⟨g, cap, cur, hv, hbg, (hm.block g (Array.getElem?_eq_some_iff.1 hgg).1 (by omega)).trans hgg, rest⟩
theorem OwnG.mut {E : TypeId} {w w' : World} {gb base n c : Nat} {A : Option Addr} {vs : List Value} (h : OwnG E w base A n c vs) (hm : Mut w gb w') (hg : gb < base) : OwnG E w' base A n c vs := by
  refine ⟨h.1, h.2.1, ?_⟩
  rcases h.2.2 with hv | ⟨g, cap, cur, hv, hbg, hgg, rest⟩
  · exact .inl hv
  · exact .inr ⟨g, cap, cur, hv, hbg, (hm.block g (Array.getElem?_eq_some_iff.1 hgg).1 (by omega)).trans hgg, rest⟩
theorem OwnB.apartG {w : World} {b1 b2 n1 c1 n2 c2 : Nat} {A1 A2 : Option Addr} {l : List Int} {vs : List Value} (h : OwnB w b1 A1 n1 c1 l) (k : OwnG 29 w b2 A2 n2 c2 vs) : ∀ b, A1 = some b → ∀ a, A2 = some a → a.block ≠ b.block := by
  intro b hb a ha e
  rcases h.2 with ⟨hv, _⟩ | ⟨g, cap, cur, hv, hbg, hgg, rest⟩
  · injection hv with e1; rw [e1] at hb; cases hb
  · injection hv with e1
    rw [e1] at hb
    injection hb with hb
    subst hb
    rcases k.2.2 with ⟨hv2, _⟩ | ⟨g2, cap2, cur2, hv2, hbg2, hgg2, rest2⟩
    · injection hv2 with e2; rw [e2] at ha; cases ha
    · injection hv2 with e2
      rw [e2] at ha
      injection ha with ha
      subst ha
      have e : g2 = g := e
      subst e
      rw [hgg] at hgg2
      injection hgg2 with q
      injection q with _ q2 _
      exact absurd q2 (by decide)
/-- Rows of bytes of one's own. -/
structure Was (w : World) (base : Nat) (B : Option Addr) (j cB : Nat) (S : List Sl) (C : List (List Int)) : Prop where
  own : OwnG 29 w base B j cB (rowC S)
  len : S.length = j
  rows : ∀ i, i < j → ∃ s, S[i]? = some s ∧ OwnB w base s.A s.n s.c (C.getD i [])
theorem Was.keep {w w' : World} {base j cB : Nat} {B : Option Addr} {S : List Sl} {C : List (List Int)} (h : Was w base B j cB S C) (hb : Below w.heap.size w w') : Was w' base B j cB S C :=
  ⟨h.own.keep hb, h.len, fun i hi => by obtain ⟨s, h1, h2⟩ := h.rows i hi; exact ⟨s, h1, h2.keep hb⟩⟩
theorem Was.mut {w w' : World} {base j cB gb : Nat} {B : Option Addr} {S : List Sl} {C : List (List Int)} (h : Was w base B j cB S C) (hm : Mut w gb w') (hg : gb < base) : Was w' base B j cB S C :=
  ⟨h.own.mut hm hg, h.len, fun i hi => by obtain ⟨s, h1, h2⟩ := h.rows i hi; exact ⟨s, h1, h2.mut hm hg⟩⟩
end
section
open Go.RowKit
set_option maxRecDepth 100000
set_option linter.unusedVariables false
set_option linter.unusedSimpArgs false
set_option linter.unnecessarySimpa false
theorem good_of {L : List Int} {h : Nat} (hB : IsB L) (hm : mayP (L.length : Int) (h : Int)) (ha : h + 2 + 2 * kOf L h ≤ L.length)
    (hb : ∀ j, j < kOf L h → h + 2 + 2 * kOf L h ≤ pOf L h j ∧ pOf L h j + 2 + lOf L (pOf L h j) ≤ L.length)
    (hcv : ∀ x, cnt L h (kOf L h) x ≤ 1) : Good (mdlOf L h) := by
  obtain ⟨n0, n1, _, h1⟩ := hm
  have hh : (mdlOf L h).h = h := mdlOf_h (by omega)
  have hk := mdlOf_k L h
  have hus : ∀ j, (mdlOf L h).used j = h + 2 + 2 * j := fun j => by unfold Mdl.used; rw [hh]
  have hn : (mdlOf L h).n = L.length := rfl
  have hlen : ∀ j, j < kOf L h → ((mdlOf L h).cl j).length = lOf L (pOf L h j) := fun j hj => by rw [mdlOf_cl hj]; exact cOf_len (hb j hj).2
  refine ⟨?_, ?_, ?_, ?_, ?_, fun j hj => ?_, fun j hj => ?_, fun i j hij hj => ?_, fun x hx => hB x (List.mem_of_mem_take hx), fun c hc' => ?_, ?_⟩
  · rw [hn]; omega
  · rw [hn]; omega
  · rw [hh]; omega
  · simp [mdlOf, Mdl.k]
  · rw [hus, hk, hn]; exact ha
  · rw [hk] at hj
    rw [hus, hk, mdlOf_pl hj]; exact (hb j hj).1
  · rw [hk] at hj
    rw [mdlOf_pl hj, hlen j hj, hn]; exact (hb j hj).2
  · rw [hk] at hj
    rw [mdlOf_pl hj, mdlOf_pl (show i < kOf L h by omega), hlen j hj, hlen i (by omega)]
    refine apart_of fun x hx => ?_
    have := cnt_pair hij hj hx.1 hx.2
    have := hcv x
    omega
  · obtain ⟨j, _, rfl⟩ := List.mem_map.1 hc'
    exact isB_dt hB _ _
  · rw [hus, hk, hn]
    have e := sum_cnt L h (kOf L h) fun j hj => (hb j hj).2
    have e2 : sumN (cnt L h (kOf L h)) L.length ≤ L.length - (h + 2 + 2 * kOf L h) := by
      refine sumN_le _ _ _ (fun x _ => hcv x) fun x hx _ => ?_
      by_cases h0 : cnt L h (kOf L h) x = 0
      · exact h0
      · exfalso
        obtain ⟨j, hj, hcj⟩ := cnt_pos (show 1 ≤ cnt L h (kOf L h) x by omega)
        have := (hb j hj).1
        unfold covers at hcj
        omega
    rw [e] at e2
    show h + 2 + 2 * kOf L h + sz ((List.range (kOf L h)).map (cOf L h)) ≤ L.length
    omega

theorem rows_apart {w : World} {b1 b2 n1 c1 n2 c2 m1 m2 : Nat} {A1 A2 : Option Addr} {E1 E2 : TypeId} {vs us : List Value} (hE : E1 ≠ E2) (h : w.ownsRow b1 E1 1 (.slice A1 n1 c1) m1 vs) (k : w.ownsRow b2 E2 1 (.slice A2 n2 c2) m2 us) : ∀ b, A1 = some b → ∀ a, A2 = some a → a.block ≠ b.block := by
  intro b hb a ha e
  rcases h.2 with ⟨hv, _⟩ | ⟨g, cap, cur, hv, hbg, hgg, rest⟩
  · injection hv with e1; rw [e1] at hb; cases hb
  · injection hv with e1
    rw [e1] at hb
    injection hb with hb
    subst hb
    rcases k.2 with ⟨hv2, _⟩ | ⟨g2, cap2, cur2, hv2, hbg2, hgg2, rest2⟩
    · injection hv2 with e2; rw [e2] at ha; cases ha
    · injection hv2 with e2
      rw [e2] at ha
      injection ha with ha
      subst ha
      have e : g2 = g := e
      subst e
      rw [hgg] at hgg2
      injection hgg2 with q
      injection q with _ q2 _
      exact absurd q2 hE
theorem ownsRow_kept {w w' : World} {A A' B : Option Addr} {E : TypeId} {base n c m : Nat} {vs : List Value} (h : w.ownsRow base E 1 (.slice B n c) m vs) (hk : Kept w A w' A') (hne : ∀ b, B = some b → ∀ a, A = some a → a.block ≠ b.block) : w'.ownsRow base E 1 (.slice B n c) m vs := by
  refine ⟨h.1, ?_⟩
  rcases h.2 with hv | ⟨g, cap, cur, hv, hbg, hg, rest⟩
  · exact .inl hv
  · have e : B = some ⟨g, 0, none⟩ := by injection hv
    exact .inr ⟨g, cap, cur, hv, hbg, (hk.1 g (Array.getElem?_eq_some_iff.1 hg).1 (fun a ha => hne _ e a ha)).trans hg, rest⟩
theorem ownsRow_ne {w w' : World} {B : Option Addr} {E : TypeId} {base n c m t : Nat} {vs : List Value} (h : w.ownsRow base E 1 (.slice B n c) m vs) (e : ∀ k, k ≠ t → k < w.heap.size → w'.heap[k]? = w.heap[k]?) (ht : t < base) : w'.ownsRow base E 1 (.slice B n c) m vs := by
  refine ⟨h.1, ?_⟩
  rcases h.2 with hv | ⟨g, cap, cur, hv, hbg, hg, rest⟩
  · exact .inl hv
  · exact .inr ⟨g, cap, cur, hv, hbg, (e g (by omega) (Array.getElem?_eq_some_iff.1 hg).1).trans hg, rest⟩
theorem Was.ne {w w' : World} {base j cB t : Nat} {B : Option Addr} {S : List Sl} {C : List (List Int)} (h : Was w base B j cB S C) (e : ∀ k, k ≠ t → k < w.heap.size → w'.heap[k]? = w.heap[k]?) (ht : t < base) : Was w' base B j cB S C :=
  ⟨⟨h.own.1, ownsRow_ne h.own.2 e ht⟩, h.len, fun i hi => by obtain ⟨s, h1, h2⟩ := h.rows i hi; exact ⟨s, h1, ownsRow_ne h2 e ht⟩⟩
/-- Another row grows. -/
theorem Was.grow {w w' : World} {base b2 j cB n2 c2 : Nat} {B A2 A2' : Option Addr} {S : List Sl} {C : List (List Int)} {us : List Value} (h : Was w base B j cB S C) (k : OwnG 3 w b2 A2 n2 c2 us) (hk : Kept w A2 w' A2') : Was w' base B j cB S C :=
  ⟨⟨h.own.1, ownsRow_kept h.own.2 hk (rows_apart (by decide) h.own.2 k.2)⟩, h.len, fun i hi => by
    obtain ⟨s, h1, h2⟩ := h.rows i hi
    exact ⟨s, h1, ownsRow_kept h2 hk (rows_apart (by decide) h2 k.2)⟩⟩
theorem Was.rows2 {w : World} {base B j cB S C} (h : Was w base B j cB S C) {bad : List Nat} (hb : ∀ g ∈ bad, g < base) (hC : C.length = j) : Rows2 w bad S C := by
  have hl : S.length = C.length := by rw [h.len, hC]
  have hr : ∀ i, i < C.length → ∃ s, S[i]? = some s ∧ SlIs w bad s (C.getD i []) := fun i hi => by
    obtain ⟨s, h1, h2⟩ := h.rows i (by omega)
    exact ⟨s, h1, h2.len.symm, h2.cap.1, h2.cap.2, h2.rdG hb⟩
  clear h hC
  induction S generalizing C with
  | nil =>
    cases C with
    | nil => trivial
    | cons c C => simp at hl
  | cons s S ih =>
    cases C with
    | nil => simp at hl
    | cons c C =>
      refine ⟨?_, ih (by simpa using hl) fun i hi => ?_⟩
      · obtain ⟨s', h1, h2⟩ := hr 0 (by simp)
        have e : s = s' := by simpa using h1
        rw [e]
        simpa using h2
      · obtain ⟨s', h1, h2⟩ := hr (i + 1) (by simpa using hi)
        exact ⟨s', by simpa using h1, by simpa using h2⟩
/-- A row of bools. -/
def BRow (w : World) (g n : Nat) (f : Nat → Bool) : Prop := ∀ x, x < n → w.cell? ⟨g, x, none⟩ = some (.bool (f x)) ∧ w.frozen? ⟨g, x, none⟩ = false
theorem BRow.ne {w w' : World} {g n : Nat} {f : Nat → Bool} (h : BRow w g n f) (e : w'.heap[g]? = w.heap[g]?) : BRow w' g n f := fun x hx => by
  obtain ⟨h1, h2⟩ := h x hx
  refine ⟨?_, ?_⟩
  · rw [← h1]; simp [World.cell?, e]
  · rw [← h2]; simp [World.frozen?, e]
theorem BRow.set {w : World} {g n : Nat} {f : Nat → Bool} (h : BRow w g n f) {k : Nat} (hk : k < n) (v : Bool) : BRow (w.setCell ⟨g, k, none⟩ (.bool v)) g n (fun x => if x = k then v else f x) := fun x hx => by
  obtain ⟨h1, h2⟩ := h x hx
  refine ⟨?_, by rw [World.frozen?_setCell]; exact h2⟩
  dsimp only
  by_cases e : x = k
  · subst e
    rw [if_pos rfl, World.cell?_setCell_same _ _ _ h1]
  · rw [if_neg e, World.cell?_setCell_other _ _ _ _ (by first | (simp; done) | (simp; omega))]; exact h1
theorem BRow.congr {w : World} {g n : Nat} {f f' : Nat → Bool} (h : BRow w g n f) (e : ∀ x, x < n → f x = f' x) : BRow w g n f' := fun x hx => by rw [← e x hx]; exact h x hx
theorem info_bool9 : (Try.prog.info? 4).map (fun i => (i.zero, i.size, i.bytes)) = some (some (.bool false), 1, 1) := by kernel_rfl
def zrb (n : Nat) : Array Value := madeCells (Value.cells (.bool false)) n
theorem run_mkb (n : Nat) (hn : n ≤ 100000) (w : World) :
    (Instr.makeSlice 102 (.int .i64 (n : Int)) (.int .i64 (n : Int))).run Try.prog w = .ok (.slice (some ⟨w.heap.size, 0, none⟩) n n) (w.alloc (.cells (zrb n) 4)) := by
  obtain ⟨i, hi, hz, hsz, hby⟩ := info_parts info_bool9
  have h := run_make (P := Try.prog) w 102 4 i (.bool false) Try.underlying102 hi hz .i64 .i64 n n (by omega) (by omega) (by rw [hby]; omega) (by omega)
  simpa [hsz, zrb] using h
theorem BRow.made (w : World) (n : Nat) : BRow (w.alloc (.cells (zrb n) 4)) w.heap.size n (fun _ => false) := fun x hx => by
  refine ⟨?_, ?_⟩
  · rw [heap_cell (heap_alloc_new w _)]
    simp [zrb, madeCells, Value.cells, hx, Nat.mod_one]
  · simp [go_sem]
set_option maxHeartbeats 4000000 in
theorem two9_any (w : World) (A : Option Addr) (n c : Nat) (L : List Int) (hn : L.length = n) (hnm : n ≤ 1000000) (hA : Rd w A L) (hB : IsB L) (i : Nat) (hi : i + 2 ≤ n) :
    Calls Try.prog 65 #[.slice A n c, .int .i64 (i : Int)] w fun e w' => e = .returned (.int .i64 (tw L i)) ∧ Below w.heap.size w w' := by
  obtain ⟨b, off, rfl, _, hc⟩ := hA.at (by omega)
  have h0 := IsB.bt hB i
  have h1 := IsB.bt hB (i + 1)
  have c0 := hc i (by omega)
  have c1 := hc (i + 1) (by omega)
  have HT := Lib.hid (show tw L i = 256 * bt L i + bt L (i + 1) from rfl)
  obtain ⟨x, hx⟩ : ∃ x, bt L i = x := ⟨_, rfl⟩
  obtain ⟨y, hy⟩ : ∃ y, bt L (i + 1) = y := ⟨_, rfl⟩
  rw [hx] at c0 h0 HT
  rw [hy] at c1 h1 HT
  have i0 : (0 : Int) ≤ (i : Int) := by omega
  have hlt : b < w.heap.size := World.block_lt_of_cell? w ⟨b, off + i, none⟩ c0
  clear hc hx hy hA hB hn
  go_enter Try.func65, Try.ntmps65
  have e1 : IntKind.i64.wrap (256 * x) = 256 * x := IntWalk.i64_in _ (by omega)
  have e2 : IntKind.i64.wrap (256 * x + y) = 256 * x + y := IntWalk.i64_in _ (by omega)
  have e3 : IntKind.i64.wrap x = x := IntWalk.i64_in _ (by omega)
  have e4 : IntKind.i64.wrap y = y := IntWalk.i64_in _ (by omega)
  have e5 : IntKind.i64.wrap ((i : Int) + 1) = (i : Int) + 1 := IntWalk.i64_in _ (by omega)
  go_upto_region 1 with fail
  go_quiet (fail)
  go_wp2_with fail
  go_ret
  exact ⟨ret_int (by rw [HT.out]), below_drewN (Below.refl _ _) nq⟩

set_option maxHeartbeats 4000000 in
theorem rused_h (w : World) (M : Mdl) (r : RV) (hh : M.h ≤ 64) (i : Int) (i0 : -70000 ≤ i) (i1 : i ≤ 70000) :
    Calls Try.prog 66 #[r.val M, .int .i64 i] w fun e w' => e = .returned (.int .i64 ((M.h : Int) + 2 + 2 * i)) ∧ Below w.heap.size w w' := by
  obtain ⟨W0, hW0⟩ : ∃ W, W = w.alloc (.cells #[.int .i64 (M.n : Int), .slice r.FA M.h r.fc, .slice r.CA M.k r.cc, .slice r.PA M.P.length r.pc] 33) := ⟨_, rfl⟩
  have hB0 : Below w.heap.size w W0 := by rw [hW0]; exact (Below.refl _ _).alloc (Nat.le_refl _) _
  have hR0 : RpAt W0 w.heap.size r M := by rw [hW0]; exact RpAt.made w r M _
  obtain ⟨m0, m1, m2, m3⟩ := hR0.all
  have HW := Lib.hid hW0
  clear hW0 hR0 m0 m2 m3
  unfold RV.val
  go_enter Try.func66, Try.ntmps66
  go_upto_region 1 with fail
  rw [← HW.out]
  clear HW
  go_wp2_with fail
  go_ret
  exact ⟨rfl, hB0⟩
def NewFull (w : World) (N D : Nat) (e : Ending) (w' : World) : Prop := ∃ FA fc, e = .returned (.tuple #[(⟨FA, fc, none, 0, none, 0, []⟩ : RV).val (newM N D), .int .i64 0]) ∧ Below w.heap.size w w'
set_option maxHeartbeats 8000000 in
theorem rNew_full (w : World) (N D : Nat) (hm : mayP (N : Int) (D : Int)) (R : Ending → World → Prop) (hR : R = NewFull w N D) :
    Calls Try.prog 18 #[.int .i64 (N : Int), .int .i64 (D : Int)] w R := by
  have HR := Lib.hid hR; clear hR
  obtain ⟨W1, hW1⟩ : ∃ W, W = w.alloc (.cells #[.int .i64 0, .slice none 0 0, .slice none 0 0, .slice none 0 0] 33) := ⟨_, rfl⟩
  have hb1 : Below w.heap.size w W1 := by rw [hW1]; exact (Below.refl _ _).alloc (Nat.le_refl _) _
  have hT1 : W1.there w.heap.size 0 4 := by rw [hW1]; exact there_new4 w _ _ _ _ _
  have HT1 := Lib.hid hT1
  have HW := Lib.hid hW1
  clear hW1 hT1
  obtain ⟨h1, h2, h3, h4⟩ := hm
  have hD : D ≤ 64 := by omega
  have hmk := run_mk D D (Nat.le_refl _) (by omega)
  obtain ⟨W2, hW2⟩ : ∃ W, W = W1.alloc (.cells (zrs D) 5) := ⟨_, rfl⟩
  have hb2 : Below W1.heap.size W1 W2 := by rw [hW2]; exact (Below.refl _ _).alloc (Nat.le_refl _) _
  have hz1 := hb1.size
  have hl1 : w.heap.size < W1.heap.size := by rw [HW.out]; simp
  have HT2 := Lib.hid (there_keepR HT1.out hb2 hl1)
  have HW2 := Lib.hid hW2
  clear hW2
  obtain ⟨r, hr⟩ : ∃ r : RV, r = ⟨some ⟨W1.heap.size, 0, none⟩, D, none, 0, none, 0, []⟩ := ⟨_, rfl⟩
  have HVAL := Lib.hid (show Value.agg #[.int .i64 (N : Int), .slice (some ⟨W1.heap.size, 0, none⟩) D D, .slice none 0 0, .slice none 0 0] = r.val (newM N D) by rw [hr]; simp [RV.val, newM, Mdl.h, Mdl.k])
  have HRE := Lib.hid hr
  clear hr
  go_enter Try.func18, Try.ntmps18
  go_upto_region 1 with fail
  rw [← HW.out]
  clear HW
  go_upto_region 3 with fail
  iterate 13 go_step
  clear hmk
  rw [← HW2.out]
  clear HW2
  refine wp_store_rp rfl _ _ rfl w.heap.size r (newM N D) rfl HVAL.out HT2.out ?_
  repeat go_step
  refine ret_rp rfl rfl (RpAt.stored HT2.out r (newM N D)) rfl ?_
  rw [HR.out]
  have hbe : Below w.heap.size w (W2.setCells w.heap.size 0 (rpC r (newM N D))) := below_setCellsR (hb1.trans (hb2.mono hz1)) (Nat.le_refl _) _ _
  exact ⟨some ⟨W1.heap.size, 0, none⟩, D, by rw [HRE.out]; rfl, hbe⟩

def Mo (L : List Int) (D j : Nat) : Mdl := ⟨L.length, L.take D, (List.range j).map (cOf L D), (List.range j).map (pOf L D)⟩
theorem Mo_h {L : List Int} {D j : Nat} (h : D ≤ L.length) : (Mo L D j).h = D := by simp [Mo, Mdl.h]; omega
theorem Mo_k (L : List Int) (D j : Nat) : (Mo L D j).k = j := by simp [Mo, Mdl.k]
theorem Mo_P (L : List Int) (D j : Nat) : (Mo L D j).P.length = j := by simp [Mo]
theorem Mo_all (L : List Int) (D : Nat) : Mo L D (kOf L D) = mdlOf L D := rfl
structure OfSt (w w5 wr : World) (base pb tb : Nat) (L : List Int) (D j : Nat) (FA : Option Addr) (fc : Nat) (r : RV) : Prop where
  at_ : RpAt wr pb r (Mo L D j)
  there : wr.there pb 0 4
  fa : r.FA = FA ∧ r.fc = fc
  cells : Was wr base r.CA j r.cc r.S ((List.range j).map (cOf L D))
  places : OwnG 3 wr base r.PA j r.pc (natC ((List.range j).map (pOf L D)))
  row : BRow wr tb L.length (fun x => decide (0 < cnt L D j x))
  fr : ∀ k, k < base → k ≠ pb → k ≠ tb → wr.heap[k]? = w5.heap[k]?
  size : base ≤ wr.heap.size
  bel : Below w.heap.size w wr
  lt : pb < base ∧ tb < base ∧ pb ≠ tb ∧ w.heap.size ≤ pb ∧ w.heap.size ≤ tb
theorem OfSt.keep {w w5 wr w' : World} {base pb tb : Nat} {L : List Int} {D j : Nat} {FA : Option Addr} {fc : Nat} {r : RV} (s : OfSt w w5 wr base pb tb L D j FA fc r) (hb : Below wr.heap.size wr w') : OfSt w w5 w' base pb tb L D j FA fc r := by
  have hsz := s.size
  have hlt := s.lt
  exact ⟨s.at_.keep hb, there_keepR s.there hb (by omega), s.fa, s.cells.keep hb, s.places.keep hb, s.row.ne (hb.block tb (by omega)), fun k h1 h2 h3 => (hb.block k (by omega)).trans (s.fr k h1 h2 h3), by have := hb.size; omega, s.bel.trans (hb.mono s.bel.size), hlt⟩
/-- Bools were set. -/
theorem OfSt.frame {w w5 wr w' : World} {base pb tb : Nat} {L : List Int} {D j : Nat} {FA : Option Addr} {fc : Nat} {r : RV} (s : OfSt w w5 wr base pb tb L D j FA fc r) (e : ∀ k, k ≠ tb → k < wr.heap.size → w'.heap[k]? = wr.heap[k]?) (hs : wr.heap.size ≤ w'.heap.size) (hb : Below w.heap.size w w') :
    RpAt w' pb r (Mo L D j) ∧ w'.there pb 0 4 ∧ Was w' base r.CA j r.cc r.S ((List.range j).map (cOf L D)) ∧ OwnG 3 w' base r.PA j r.pc (natC ((List.range j).map (pOf L D))) ∧ (∀ k, k < base → k ≠ pb → k ≠ tb → w'.heap[k]? = w5.heap[k]?) ∧ base ≤ w'.heap.size := by
  have hsz := s.size
  have hlt := s.lt
  have ep := e pb hlt.2.2.1 (by omega)
  refine ⟨fun i u hu => ?_, there_blk ep s.there, s.cells.ne e hlt.2.1, ⟨s.places.1, ownsRow_ne s.places.2 e hlt.2.1⟩, fun k h1 h2 h3 => (e k h3 (by omega)).trans (s.fr k h1 h2 h3), by omega⟩
  rw [← s.at_ i u hu]
  simp [World.cell?, ep]
theorem RpAt.setF {w : World} {g : Nat} {r : RV} {M : Mdl} (h : RpAt w g r M) (B : Option Addr) (c : Nat) (F : List Int) : RpAt (w.setCell ⟨g, 1, none⟩ (.slice B F.length c)) g { r with FA := B, fc := c } { M with F := F } := by
  obtain ⟨m0, m1, m2, m3⟩ := h.all
  intro i u hu
  have hi : i < 4 := (List.getElem?_eq_some_iff.1 hu).1
  rcases (by omega : i = 0 ∨ i = 1 ∨ i = 2 ∨ i = 3) with rfl | rfl | rfl | rfl
  · rw [World.cell?_setCell_other _ _ _ _ (by simp), m0]; exact hu
  · rw [World.cell?_setCell_same _ _ _ m1]; exact hu
  · rw [World.cell?_setCell_other _ _ _ _ (by simp), m2]; exact hu
  · rw [World.cell?_setCell_other _ _ _ _ (by simp), m3]; exact hu
end
section
open Go.RowKit
set_option maxRecDepth 100000
set_option linter.unusedVariables false
set_option linter.unusedSimpArgs false
set_option linter.unnecessarySimpa false
theorem sz_by (w : World) : (sizeOf (Try.prog.elem 29)).run Try.prog w = .ok 1 w := by kernel_rfl
def ROfBack (w : World) (bad : List Nat) (L : List Int) (h : Int) (e : Ending) (w' : World) : Prop :=
  Below w.heap.size w w' ∧ ∃ r' M z, e = .returned (.tuple #[r'.val M, .int .i64 z]) ∧ RefV w' bad M r' ∧ ((¬ mayP (L.length : Int) h ∧ M = zeroM ∧ z = 1) ∨ (mayP (L.length : Int) h ∧ ¬ ofP L h.toNat ∧ M = zeroM ∧ z = 14) ∨ (mayP (L.length : Int) h ∧ ofP L h.toNat ∧ M = mdlOf L h.toNat ∧ z = 0))
def OfRel (w w5 : World) (base pb tb : Nat) (L : List Int) (D : Nat) (FA : Option Addr) (fc : Nat) (iv : Value) (wr : World) : Prop :=
  ∃ (j : Nat) (r : RV), j ≤ kOf L D ∧ iv = .int .i64 j ∧ OfSt w w5 wr base pb tb L D j FA fc r ∧ (∀ t, t < j → D + 2 + 2 * kOf L D ≤ pOf L D t ∧ pOf L D t + 2 + lOf L (pOf L D t) ≤ L.length) ∧ (∀ x, cnt L D j x ≤ 1)
def OfRel2 (w wq : World) (tb : Nat) (L : List Int) (D j : Nat) (kv : Value) (wr : World) : Prop :=
  ∃ k : Nat, pOf L D j ≤ k ∧ k ≤ pOf L D j + 2 + lOf L (pOf L D j) ∧ kv = .int .i64 k ∧ BRow wr tb L.length (fun x => decide (0 < cntK L D j k x)) ∧ (∀ x, cntK L D j k x ≤ 1) ∧ (∀ i, i ≠ tb → i < wq.heap.size → wr.heap[i]? = wq.heap[i]?) ∧ wq.heap.size ≤ wr.heap.size ∧ Below w.heap.size w wr

set_option maxHeartbeats 64000000 in
theorem rOf_any (w : World) (bad : List Nat) (hbad : ∀ g ∈ bad, g < w.heap.size) (A : Option Addr) (n c : Nat) (L : List Int) (hn : L.length = n) (hnc : n ≤ c) (hnm : n ≤ 1000000) (hA : Rd w A L) (hB : IsB L) (h : Int) (hh : i64b h) (R : Ending → World → Prop) (hR : R = ROfBack w bad L h) :
    Calls Try.prog 24 #[.slice A n c, .int .i64 h] w R := by
  have HRR := Lib.hid hR; clear hR
  have HBAD := Lib.hid hbad
  have HA := Lib.hid hA
  have HN := Lib.hid hn
  obtain ⟨W1, hW1⟩ : ∃ W, W = w.alloc (.cells #[.int .i64 0, .slice none 0 0, .slice none 0 0, .slice none 0 0] 33) := ⟨_, rfl⟩
  have hb1 : Below w.heap.size w W1 := by rw [hW1]; exact (Below.refl _ _).alloc (Nat.le_refl _) _
  have hs1 : w.heap.size < W1.heap.size := by rw [hW1]; simp
  have HT1 := Lib.hid (show W1.there w.heap.size 0 4 by rw [hW1]; exact there_new4 w _ _ _ _ _)
  have HW := Lib.hid hW1
  clear hW1 hbad hA
  by_cases hm : mayP (n : Int) h
  case neg =>
    have HM := Lib.hid (show ¬ mayP (L.length : Int) h by rw [hn]; exact hm)
    clear hn
    go_enter Try.func24, Try.ntmps24
    go_upto_region 1 with fail
    rw [← HW.out]
    clear HW
    go_wp2_with fail
    refine (rNew_any _ [] (n : Int) h (by omega) hh (by simp) _ rfl).mono ?_
    rintro e w2 ⟨hb2, r, M, z, rfl, hv, ⟨_, rfl, rfl⟩ | ⟨h', _⟩⟩
    case inr => exact absurd h' hm
    have hb02 : Below w.heap.size w w2 := hb1.trans (hb2.mono (by omega))
    have q2 : ((1 : Int) != 0) = true := rfl
    have HT2 := Lib.hid (there_keepR HT1.out hb2 hs1)
    obtain ⟨W3, hW3⟩ : ∃ W, W = w2.alloc (.cells #[.int .i64 0, .slice none 0 0, .slice none 0 0, .slice none 0 0] 33) := ⟨_, rfl⟩
    have hb3 : Below w2.heap.size w2 W3 := by rw [hW3]; exact (Below.refl _ _).alloc (Nat.le_refl _) _
    have HT3 := Lib.hid (show W3.there w2.heap.size 0 4 by rw [hW3]; exact there_new4 w2 _ _ _ _ _)
    have HW3 := Lib.hid hW3
    clear hW3 hm
    simp only []
    iterate 13 go_step
    rw [← HW3.out]
    refine wp_store_rp rfl _ _ rfl w2.heap.size r zeroM rfl rfl HT3.out ?_
    obtain ⟨w4, hw4⟩ : ∃ W, W = W3.setCells w2.heap.size 0 (rpC r zeroM) := ⟨_, rfl⟩
    have hb24 : Below w2.heap.size w2 w4 := by rw [hw4]; exact below_setCellsR hb3 (Nat.le_refl _) _ _
    have HR4 := Lib.hid (show RpAt w4 w2.heap.size r zeroM by rw [hw4]; exact RpAt.stored HT3.out r zeroM)
    have hz2 := hb2.size
    have HT4 := Lib.hid (there_keepR HT2.out hb24 (by omega))
    have hb04 : Below w.heap.size w w4 := hb02.trans (hb24.mono (by omega))
    rw [← hw4]
    clear hw4 hb24 hb3 HT3 HW3
    go_upto_region 3 with fail
    go_step
    refine wp_load_rp rfl _ rfl w2.heap.size r zeroM rfl HR4.out ?_
    iterate 3 go_step
    refine wp_store_rp rfl _ _ rfl w.heap.size r zeroM rfl rfl HT4.out ?_
    repeat go_step
    refine ret_rp rfl rfl (RpAt.stored HT4.out r zeroM) rfl ?_
    rw [HRR.out]
    have hbe : Below w.heap.size w (w4.setCells w.heap.size 0 (rpC r zeroM)) := below_setCellsR hb04 (Nat.le_refl _) _ _
    exact ⟨hbe, r, zeroM, 1, rfl, ⟨.inl rfl, ⟨Nat.zero_le _, hv.fcap.2⟩, .inl (by have := hv.rows.len; simp [zeroM] at this; simp [rowC, this]), (by have := hv.rows.len; simp [zeroM] at this; rw [this]; trivial), ⟨Nat.zero_le _, hv.ccap.2⟩, .inl rfl, ⟨Nat.zero_le _, hv.pcap.2⟩⟩, .inl ⟨HM.out, rfl, rfl⟩⟩
  obtain ⟨D, rfl⟩ := Int.eq_ofNat_of_zero_le (show 0 ≤ h from hm.2.2.1)
  have hD64 : D ≤ 64 := by have := hm.2.2.2; omega
  have hn0 : 256 ≤ n := by have := hm.1; omega
  have hn1 : n ≤ 4096 := by have := hm.2.1; omega
  have HM := Lib.hid hm
  have HMY := Lib.hid (show mayP (L.length : Int) (D : Int) by rw [hn]; exact hm)
  have hlD : D ≤ L.length := by omega
  have HLD := Lib.hid hlD
  have hcut := run_cut_toG 29 5 Try.underlying29 sz_by A n c D (by omega)
  obtain ⟨DA, hDA⟩ : ∃ X, cutA A c 0 = X := ⟨_, rfl⟩
  rw [hDA] at hcut
  have HCUT := Lib.hid (show ∀ W : World, Rd W A L → Rd W DA (L.take D) from fun W hW => by
    have := cutA_rd hW c 0 D (by rw [hn]; exact hnc)
    rw [hDA] at this
    simpa using this)
  have HTD := Lib.hid (show (L.take D).length = D by rw [List.length_take]; omega)
  have HB := Lib.hid hB
  obtain ⟨Kn, hK⟩ : ∃ Kn, kOf L D = Kn := ⟨_, rfl⟩
  have hKt : tw L D = (Kn : Int) := by rw [← hK]; exact tw_nat hB D
  have hK1 : Kn ≤ 65535 := by have := (tw_bd hB D).2; omega
  have HK := Lib.hid hK
  have HKT := Lib.hid hKt
  clear hm hDA hK hKt hn hlD hB hh
  go_enter Try.func24, Try.ntmps24
  go_upto_region 1 with fail
  rw [← HW.out]
  clear HW
  go_wp2_with fail
  refine (rNew_full _ n D HM.out _ rfl).mono ?_
  rintro e w2 ⟨FA0, fc0, rfl, hb2⟩
  have hb02 : Below w.heap.size w w2 := hb1.trans (hb2.mono (by omega))
  have hz2 := hb2.size
  have q0 : ((0 : Int) != 0) = false := rfl
  have HT2 := Lib.hid (there_keepR HT1.out hb2 hs1)
  obtain ⟨r0, hr0⟩ : ∃ r : RV, (⟨FA0, fc0, none, 0, none, 0, []⟩ : RV) = r := ⟨_, rfl⟩
  rw [hr0]
  have HR0 := Lib.hid hr0.symm
  clear hr0
  obtain ⟨M0, hM0⟩ : ∃ M, newM n D = M := ⟨_, rfl⟩
  rw [hM0]
  have HM0 := Lib.hid hM0.symm
  clear hM0
  obtain ⟨W3, hW3⟩ : ∃ W, W = w2.alloc (.cells #[.int .i64 0, .slice none 0 0, .slice none 0 0, .slice none 0 0] 33) := ⟨_, rfl⟩
  have hb3 : Below w2.heap.size w2 W3 := by rw [hW3]; exact (Below.refl _ _).alloc (Nat.le_refl _) _
  have HT3 := Lib.hid (show W3.there w2.heap.size 0 4 by rw [hW3]; exact there_new4 w2 _ _ _ _ _)
  have HW3 := Lib.hid hW3
  have hl3 : w2.heap.size < W3.heap.size := by rw [hW3]; simp
  clear hW3
  simp only []
  iterate 13 go_step
  rw [← HW3.out]
  refine wp_store_rp rfl _ _ rfl w2.heap.size r0 M0 rfl rfl HT3.out ?_
  obtain ⟨w4, hw4⟩ : ∃ W, W = W3.setCells w2.heap.size 0 (rpC r0 M0) := ⟨_, rfl⟩
  have hb24 : Below w2.heap.size w2 w4 := by rw [hw4]; exact below_setCellsR hb3 (Nat.le_refl _) _ _
  have HR4 := Lib.hid (show RpAt w4 w2.heap.size r0 M0 by rw [hw4]; exact RpAt.stored HT3.out r0 M0)
  have HTp4 := Lib.hid (show w4.there w2.heap.size 0 4 by rw [hw4]; exact World.there_setCells HT3.out _ _ _)
  have hl4 : w2.heap.size < w4.heap.size := by rw [hw4, size_setCells]; exact hl3
  have HT4 := Lib.hid (there_keepR HT2.out hb24 (by omega))
  have hb04 : Below w.heap.size w w4 := hb02.trans (hb24.mono (by omega))
  rw [← hw4]
  obtain ⟨pb, hpb⟩ : ∃ x, w2.heap.size = x := ⟨_, rfl⟩
  rw [hpb] at HR4 HTp4 hl4 ⊢
  have hpb0 : w.heap.size < pb := by omega
  clear hw4 hb24 hb3 HT3 HW3 hl3 hpb HT1 HT2 hb02 hb2 hb1
  -- its front
  have hba : Below w4.heap.size w4 (w4.alloc (.cells #[] 5)) := (Below.refl _ _).alloc (Nat.le_refl _) _
  go_upto_region 4 with fail
  iterate 13 go_step
  clear hcut
  refine wp_append rfl (.tmp 25) (.tmp 28) rfl w4.heap.size _ _ _ [] rfl (OwnB.lit w4 #[] [] _ 0 rfl rfl (Nat.le_refl _) (by decide)) DA D c (L.take D) rfl HTD.out ((HCUT.out _ (HA.out.keep (hb04.trans (hba.mono hb04.size)))) ) (by omega) (by simp) ?_
  intro FA fc w5 hown5 _ hb5
  simp only [List.nil_append, Nat.zero_add] at hown5 ⊢
  have hb45 : Below w4.heap.size w4 w5 := hba.trans hb5
  have HO5 := Lib.hid hown5
  have HR5 := Lib.hid (HR4.out.keep hb45)
  have HTp5 := Lib.hid (there_keepR HTp4.out hb45 (by omega))
  have HT5 := Lib.hid (there_keepR HT4.out hb45 (by omega))
  have hb05 : Below w.heap.size w w5 := hb04.trans (hb45.mono hb04.size)
  have hz5 := hb45.size
  clear hown5 hb5 hba hb45 HR4 HTp4 HT4
  have m1 := HR5.out.all.2.1
  have hf1 := (HTp5.out 1 (by decide)).2
  rw [Nat.zero_add] at hf1
  go_upto_region 5 with fail
  clear m1 hf1
  obtain ⟨w6, hw6⟩ : ∃ W, W = w5.setCell ⟨pb, 1, none⟩ (.slice FA D fc) := ⟨_, rfl⟩
  obtain ⟨r6, hr6⟩ : ∃ r : RV, r = ⟨FA, fc, none, 0, none, 0, []⟩ := ⟨_, rfl⟩
  have HRE6 := Lib.hid hr6
  have HR6 := Lib.hid (show RpAt w6 pb r6 (Mo L D 0) by
    have h0 := HR5.out.setF FA fc (L.take D)
    rw [HTD.out, ← hw6] at h0
    have e1 : ({ M0 with F := L.take D } : Mdl) = Mo L D 0 := by rw [HM0.out]; unfold newM Mo; rw [HN.out]; rfl
    have e2 : ({ r0 with FA := FA, fc := fc } : RV) = r6 := by rw [HR0.out, hr6]
    rwa [e1, e2] at h0)
  have HTp6 := Lib.hid (show w6.there pb 0 4 by rw [hw6]; exact there_setG HTp5.out _ _)
  have HT6 := Lib.hid (show w6.there w.heap.size 0 4 by rw [hw6]; exact there_setG HT5.out _ _)
  have hb06 : Below w.heap.size w w6 := by rw [hw6]; exact hb05.setCell (by show w.heap.size ≤ pb; omega) _
  have HO6 := Lib.hid (show OwnB w6 w4.heap.size FA D fc (L.take D) from ownsRow_ne (t := pb) HO5.out (fun k hk _ => by rw [hw6]; exact heap_setG_ne _ _ _ hk) hl4)
  have hz6 : w4.heap.size ≤ w6.heap.size := by rw [hw6, size_setG]; exact hz5
  try rw [← hw6]
  clear hw6 hr6 HO5 HR5 HTp5 HT5 hb05 hz5 HM0 HR0
  go_wp2_with fail
  refine (two9_any _ A n c L HN.out hnm (HA.out.keep hb06) HB.out D (by omega)).mono ?_
  rintro e w7 ⟨rfl, hb67⟩
  rw [HKT.out]
  have HR7 := Lib.hid (HR6.out.keep hb67)
  have HTp7 := Lib.hid (there_keepR HTp6.out hb67 (by omega))
  have HT7 := Lib.hid (there_keepR HT6.out hb67 (by omega))
  have HO7 := Lib.hid (HO6.out.keep hb67)
  have hb07 : Below w.heap.size w w7 := hb06.trans (hb67.mono hb06.size)
  have hz7 := hb67.size
  clear hb67 HR6 HTp6 HT6 HO6 hb06
  obtain ⟨M7, hM7⟩ : ∃ M, Mo L D 0 = M := ⟨_, rfl⟩
  have HM7 := Lib.hid hM7
  rw [hM7] at HR7
  have HN7 := Lib.hid (show M7.n = n by rw [← hM7]; exact HN.out)
  have HH7 := Lib.hid (show M7.h = D by rw [← hM7]; exact Mo_h HLD.out)
  clear hM7
  have K0 : ∀ W : World, Below w7.heap.size w7 W → W.cell? ⟨pb, 0, none⟩ = some (.int .i64 (M7.n : Int)) := fun W hW => (HR7.out.keep hW).all.1
  have K1 : ∀ W : World, Below w7.heap.size w7 W → W.cell? ⟨pb, 1, none⟩ = some (.slice r6.FA M7.h r6.fc) := fun W hW => (HR7.out.keep hW).all.2.1
  have K2 : ∀ W : World, Below w7.heap.size w7 W → W.cell? ⟨pb, 2, none⟩ = some (.slice r6.CA M7.k r6.cc) := fun W hW => (HR7.out.keep hW).all.2.2.1
  have K3 : ∀ W : World, Below w7.heap.size w7 W → W.cell? ⟨pb, 3, none⟩ = some (.slice r6.PA M7.P.length r6.pc) := fun W hW => (HR7.out.keep hW).all.2.2.2
  go_upto_region 6 with fail
  refine wp_region_held_drew (S := (fun W => Below w7.heap.size w7 W)) (by kernel_rfl) ?_ (fun hHeld => ?_)
  · exact (Below.refl _ w7).drew
  refine' wpAnyH_take (i := 0) (oi := _) (v := _) rfl (by kernel_rfl) (by kernel_rfl) (by kernel_rfl) (fun _ _ _ h => h) (Or.inl ⟨by rfl, ?hz1⟩) (by assumption) ?rezt1
  case hz1 => (intro w' hSw; (try dsimp only at hSw); go_simp; try with_reducible rfl)
  try simp only [Act.put, List.setIfInBounds_toArray, List.set_cons_zero, List.set_cons_succ, List.getElem_toArray, List.getElem_cons_zero, List.getElem_cons_succ]
  refine' wpAnyH_take (i := 1) (oi := _) (v := _) rfl (by kernel_rfl) (by kernel_rfl) (by kernel_rfl) (fun _ _ _ h => h) (Or.inl ⟨by rfl, ?hz2⟩) (by assumption) ?rezt2
  case hz2 => (intro w' hSw; (try dsimp only at hSw); go_simp; try with_reducible rfl)
  try simp only [Act.put, List.setIfInBounds_toArray, List.set_cons_zero, List.set_cons_succ, List.getElem_toArray, List.getElem_cons_zero, List.getElem_cons_succ]
  refine' wpAnyH_take (i := 3) (oi := _) (v := _) rfl (by kernel_rfl) (by kernel_rfl) (by kernel_rfl) (fun _ _ _ h => h) (Or.inl ⟨by rfl, ?hz3⟩) (by assumption) ?rezt3
  case hz3 => (intro w' hSw; (try dsimp only at hSw); go_simp; try with_reducible rfl)
  try simp only [Act.put, List.setIfInBounds_toArray, List.set_cons_zero, List.set_cons_succ, List.getElem_toArray, List.getElem_cons_zero, List.getElem_cons_succ]
  refine' wpAnyH_take (i := 4) (oi := _) (v := _) rfl (by kernel_rfl) (by kernel_rfl) (by kernel_rfl) (fun _ _ _ h => h) (Or.inl ⟨by rfl, ?hz4⟩) (by assumption) ?rezt4
  case hz4 => (intro w' hSw; (try dsimp only at hSw); go_simp; try with_reducible rfl)
  try simp only [Act.put, List.setIfInBounds_toArray, List.set_cons_zero, List.set_cons_succ, List.getElem_toArray, List.getElem_cons_zero, List.getElem_cons_succ]
  refine wpAnyH_ready (rs := [2]) (by kernel_rfl) (by simp) ?_
  refine AllReadyH.cons (o := _) rfl (fun K hK => ?_) AllReadyH.nil
  go_simp
  have hbd : Below w7.heap.size w7 w7.drew := (Below.refl _ w7).drew
  go_at_call 66
  refine (rused_h _ M7 r6 (by rw [HH7.out]; exact hD64) (Kn : Int) (by omega) (by omega)).mono ?_
  rintro e w8 ⟨rfl, hb8⟩
  rw [HH7.out]
  have hb78 : Below w7.heap.size w7 w8 := hbd.trans (hb8.mono (Nat.le_refl _))
  clear hb8 hbd
  refine hK.out _ _ ?_ (fun hHeld => ?_)
  · exact hb78
  clear hK K
  try simp only [Act.put, List.setIfInBounds_toArray, List.set_cons_zero, List.set_cons_succ, List.getElem_toArray, List.getElem_cons_zero, List.getElem_cons_succ]
  refine' wpAnyH_take (i := 5) (oi := _) (v := _) rfl (by kernel_rfl) (by kernel_rfl) (by kernel_rfl) (fun _ _ _ h => h) (Or.inl ⟨by rfl, ?hz5⟩) (by assumption) ?rezt5
  case hz5 => (intro w' hSw; (try dsimp only at hSw); go_simp; try with_reducible rfl)
  try simp only [Act.put, List.setIfInBounds_toArray, List.set_cons_zero, List.set_cons_succ, List.getElem_toArray, List.getElem_cons_zero, List.getElem_cons_succ]
  refine wpAnyH_done (by kernel_rfl) ?_ _
  clear K0 K1 K2 K3
  have HR8 := Lib.hid (HR7.out.keep hb78)
  have HTp8 := Lib.hid (there_keepR HTp7.out hb78 (by omega))
  have HT8 := Lib.hid (there_keepR HT7.out hb78 (by omega))
  have HO8 := Lib.hid (HO7.out.keep hb78)
  have hb08 : Below w.heap.size w w8 := hb07.trans (hb78.mono hb07.size)
  have hz8 := hb78.size
  clear hb78 HR7 HTp7 HT7 HO7 hb07
  by_cases hfit : (M7.n : Int) < (D : Int) + 2 + 2 * (Kn : Int)
  · have HF := Lib.hid (show ¬ ofP L D from fun o => by have := of_front HLD.out o; rw [HK.out, HN.out] at this; have := HN7.out; omega)
    go_upto_region 7 with fail
    iterate 4 go_step
    refine wp_store_rp rfl _ _ rfl w.heap.size zeroRV zeroM rfl rfl HT8.out ?_
    repeat go_step
    refine ret_rp rfl rfl (RpAt.stored HT8.out zeroRV zeroM) rfl ?_
    rw [HRR.out]
    have hbe : Below w.heap.size w (w8.setCells w.heap.size 0 (rpC zeroRV zeroM)) := below_setCellsR hb08 (Nat.le_refl _) _ _
    exact ⟨hbe, zeroRV, zeroM, 14, rfl, zero_ref _ _, .inr (.inl ⟨HMY.out, HF.out, rfl, rfl⟩)⟩
  have hfit' : D + 2 + 2 * Kn ≤ n := by have := HN7.out; omega
  have hKn : Kn ≤ 2047 := by omega
  -- what is taken
  have hmk := run_mkb n (by omega)
  have m0 := HR8.out.all.1
  rw [HN7.out] at m0
  obtain ⟨W9, hW9⟩ : ∃ W, W = w8.alloc (.cells (zrb n) 4) := ⟨_, rfl⟩
  have hb89 : Below w8.heap.size w8 W9 := by rw [hW9]; exact (Below.refl _ _).alloc (Nat.le_refl _) _
  have hl9 : w8.heap.size < W9.heap.size := by rw [hW9]; simp
  have HB9 := Lib.hid (show BRow W9 w8.heap.size n (fun _ => false) by rw [hW9]; exact BRow.made w8 n)
  have HW9 := Lib.hid hW9
  clear hW9
  go_wp2_with fail
  rw [← HW9.out]
  clear HW9 hmk m0
  have HR9 := Lib.hid (HR8.out.keep hb89)
  have HTp9 := Lib.hid (there_keepR HTp8.out hb89 (by omega))
  have HT9 := Lib.hid (there_keepR HT8.out hb89 (by omega))
  have HO9 := Lib.hid (HO8.out.keep hb89)
  have hb09 : Below w.heap.size w W9 := hb08.trans (hb89.mono hb08.size)
  obtain ⟨tb, htb⟩ : ∃ x, w8.heap.size = x := ⟨_, rfl⟩
  rw [htb] at HB9 hl9 ⊢
  have HSt := Lib.hid (show OfSt w W9 W9 W9.heap.size pb tb L D 0 FA fc r6 from by
    have e := HRE6.out
    have hM := HM7.out
    subst hM
    refine ⟨HR9.out, HTp9.out, by rw [e]; exact ⟨rfl, rfl⟩, ?_, ?_, ?_, fun _ _ _ _ => rfl, Nat.le_refl _, hb09, by omega, hl9, by omega, by omega, by omega⟩
    · rw [e]; exact ⟨OwnG.nil _ _ _, rfl, fun i hi => by omega⟩
    · rw [e]; exact OwnG.nil _ _ _
    · rw [HN.out]; exact HB9.out.congr fun x _ => by simp [cnt])
  have hrb9 : w.heap.size < W9.heap.size := by omega
  have hrbt : w.heap.size < tb := by omega
  have HFAT := Lib.hid (show ∀ a, FA = some a → pb < a.block ∧ a.block < tb from fun a ha => by
    have h1 := HO8.out.blkOf a ha
    have h2 := HO8.out.ltOf a ha
    omega)
  clear HR9 HTp9 HB9 HR8 HTp8 HT8 HO8 hb08 hb89 hb09 HM7 HRE6 HH7 hz8 hz7 hz6 hz2 hl4 htb HM
  have hFAb := HO9.out
  go_loopw [10] (OfRel w W9 W9.heap.size pb tb L D FA fc) (fun i _ => Kn - (intOf i).toNat)
  case atStart => exact ⟨0, r6, Nat.zero_le _, rfl, HSt.out, fun t ht => by omega, fun x => Nat.zero_le _⟩
  case round =>
    obtain ⟨j, rj, hj, rfl, hst, hlim, honce⟩ := hrel
    rw [HK.out] at hj hlim
    have HS := Lib.hid hst
    have HLIM := Lib.hid hlim
    have HONCE := Lib.hid honce
    clear hst hlim honce HSt hFAb
    have hrbe := HS.out.lt
    by_cases hlt : j < Kn
    · have hlt' : (j : Int) < (Kn : Int) := by omega
      have i0 : (0 : Int) ≤ (j : Int) := by omega
      have hqt : tw L (D + 2 + 2 * j) = (pOf L D j : Int) := tw_nat HB.out _
      have hq1 : pOf L D j ≤ 65535 := by have := (tw_bd HB.out (D + 2 + 2 * j)).2; omega
      obtain ⟨q, hq⟩ : ∃ q, pOf L D j = q := ⟨_, rfl⟩
      rw [hq] at hqt hq1
      have HQ := Lib.hid hq
      have HQT := Lib.hid hqt
      have e1 : IntKind.i64.wrap ((D : Int) + 2) = (D : Int) + 2 := IntWalk.i64_in _ (by omega)
      have e2 : IntKind.i64.wrap (2 * (j : Int)) = 2 * (j : Int) := IntWalk.i64_in _ (by omega)
      have e3 : IntKind.i64.wrap ((D : Int) + 2 + 2 * (j : Int)) = (D : Int) + 2 + 2 * (j : Int) := IntWalk.i64_in _ (by omega)
      have hcast : (D : Int) + 2 + 2 * (j : Int) = ((D + 2 + 2 * j : Nat) : Int) := by omega
      have htwo := fun W (hW : Rd W A L) => two9_any W A n c L HN.out hnm hW HB.out (D + 2 + 2 * j) (by omega)
      rw [← hcast] at htwo
      clear hq hqt hcast
      go_wp2_with fail
      refine (htwo _ (HA.out.keep HS.out.bel)).mono ?_
      clear htwo
      rintro e w1 ⟨rfl, hb1⟩
      rw [HQT.out]
      have HS1 := Lib.hid (HS.out.keep hb1)
      clear hb1 HS e1 e2 e3
      -- is it in its bounds?
      obtain ⟨Mj, hMj⟩ : ∃ M, Mo L D j = M := ⟨_, rfl⟩
      have HMj := Lib.hid hMj
      have hatj : RpAt w1 pb rj Mj := by rw [← hMj]; exact HS1.out.at_
      have HATJ := Lib.hid hatj
      have HJN := Lib.hid (show Mj.n = n by rw [← hMj]; exact HN.out)
      have HJH := Lib.hid (show Mj.h = D by rw [← hMj]; exact Mo_h HLD.out)
      have K0 : ∀ W : World, Below w1.heap.size w1 W → W.cell? ⟨pb, 0, none⟩ = some (.int .i64 (Mj.n : Int)) := fun W hW => (HATJ.out.keep hW).all.1
      have K1 : ∀ W : World, Below w1.heap.size w1 W → W.cell? ⟨pb, 1, none⟩ = some (.slice rj.FA Mj.h rj.fc) := fun W hW => (HATJ.out.keep hW).all.2.1
      have K2 : ∀ W : World, Below w1.heap.size w1 W → W.cell? ⟨pb, 2, none⟩ = some (.slice rj.CA Mj.k rj.cc) := fun W hW => (HATJ.out.keep hW).all.2.2.1
      have K3 : ∀ W : World, Below w1.heap.size w1 W → W.cell? ⟨pb, 3, none⟩ = some (.slice rj.PA Mj.P.length rj.pc) := fun W hW => (HATJ.out.keep hW).all.2.2.2
      have e4 : IntKind.i64.wrap ((q : Int) + 2) = (q : Int) + 2 := IntWalk.i64_in _ (by omega)
      have HTR1 := Lib.hid (show w1.there w.heap.size 0 4 from there_blk (HS1.out.fr w.heap.size (by omega) (by omega) (by omega)) HT9.out)
      clear hMj hatj
      go_upto_region 13 with fail
      refine wp_region_held_drew (S := (fun W => Below w1.heap.size w1 W)) (by kernel_rfl) ?_ (fun hHeld => ?_)
      · exact (Below.refl _ w1).drew
      refine' wpAnyH_take (i := 0) (oi := _) (v := _) rfl (by kernel_rfl) (by kernel_rfl) (by kernel_rfl) (fun _ _ _ h => h) (Or.inl ⟨by rfl, ?hz6⟩) (by assumption) ?rezt6
      case hz6 => (intro w' hSw; (try dsimp only at hSw); go_simp; try with_reducible rfl)
      try simp only [Act.put, List.setIfInBounds_toArray, List.set_cons_zero, List.set_cons_succ, List.getElem_toArray, List.getElem_cons_zero, List.getElem_cons_succ]
      refine' wpAnyH_take (i := 1) (oi := _) (v := _) rfl (by kernel_rfl) (by kernel_rfl) (by kernel_rfl) (fun _ _ _ h => h) (Or.inl ⟨by rfl, ?hz7⟩) (by assumption) ?rezt7
      case hz7 => (intro w' hSw; (try dsimp only at hSw); go_simp; try with_reducible rfl)
      try simp only [Act.put, List.setIfInBounds_toArray, List.set_cons_zero, List.set_cons_succ, List.getElem_toArray, List.getElem_cons_zero, List.getElem_cons_succ]
      refine' wpAnyH_take (i := 2) (oi := _) (v := _) rfl (by kernel_rfl) (by kernel_rfl) (by kernel_rfl) (fun _ _ _ h => h) (Or.inl ⟨by rfl, ?hz8⟩) (by assumption) ?rezt8
      case hz8 => (intro w' hSw; (try dsimp only at hSw); go_simp; try with_reducible rfl)
      try simp only [Act.put, List.setIfInBounds_toArray, List.set_cons_zero, List.set_cons_succ, List.getElem_toArray, List.getElem_cons_zero, List.getElem_cons_succ]
      refine wpAnyH_ready (rs := [3]) (by kernel_rfl) (by simp) ?_
      refine AllReadyH.cons (o := _) rfl (fun K hK => ?_) AllReadyH.nil
      go_simp
      have hbd : Below w1.heap.size w1 w1.drew := (Below.refl _ w1).drew
      go_at_call 66
      refine (rused_h _ Mj rj (by rw [HJH.out]; exact hD64) (Kn : Int) (by omega) (by omega)).mono ?_
      rintro e w2 ⟨rfl, hb2⟩
      rw [HJH.out]
      have hb12 : Below w1.heap.size w1 w2 := hbd.trans (hb2.mono (Nat.le_refl _))
      clear hb2 hbd
      refine hK.out _ _ ?_ (fun hHeld => ?_)
      · exact hb12
      clear hK K
      try simp only [Act.put, List.setIfInBounds_toArray, List.set_cons_zero, List.set_cons_succ, List.getElem_toArray, List.getElem_cons_zero, List.getElem_cons_succ]
      have HS2 := Lib.hid (HS1.out.keep hb12)
      have HTR2 := Lib.hid (there_keepR HTR1.out hb12 (by have := HS1.out.size; omega))
      clear HS1 HTR1
      by_cases hA1 : (q : Int) < (D : Int) + 2 + 2 * (Kn : Int)
      · have HF := Lib.hid (show ¬ ofP L D from fun o => by have := of_cell HB.out HLD.out o (j := j) (by rw [HK.out]; exact hlt); rw [HK.out, HQ.out] at this; omega)
        refine' wpAnyH_take (i := 4) (oi := _) (v := _) rfl (by kernel_rfl) (by kernel_rfl) (by kernel_rfl) (fun _ _ _ h => h) (Or.inl ⟨by rfl, ?hz9⟩) (by assumption) ?rezt9
        case hz9 => (intro w' hSw; (try dsimp only at hSw); go_simp; try with_reducible rfl)
        try simp only [Act.put, List.setIfInBounds_toArray, List.set_cons_zero, List.set_cons_succ, List.getElem_toArray, List.getElem_cons_zero, List.getElem_cons_succ]
        refine' wpAnyH_take (i := 5) (oi := _) (v := _) rfl (by kernel_rfl) (by kernel_rfl) (by kernel_rfl) (fun _ _ _ h => h) (Or.inl ⟨by rfl, ?hz10⟩) (by assumption) ?rezt10
        case hz10 => (intro w' hSw; (try dsimp only at hSw); go_simp; try with_reducible rfl)
        try simp only [Act.put, List.setIfInBounds_toArray, List.set_cons_zero, List.set_cons_succ, List.getElem_toArray, List.getElem_cons_zero, List.getElem_cons_succ]
        refine' wpAnyH_take (i := 6) (oi := _) (v := _) rfl (by kernel_rfl) (by kernel_rfl) (by kernel_rfl) (fun _ _ _ h => h) (Or.inr ⟨by rfl, rfl⟩) (by assumption) ?rezn1
        try simp only [Act.put, List.setIfInBounds_toArray, List.set_cons_zero, List.set_cons_succ, List.getElem_toArray, List.getElem_cons_zero, List.getElem_cons_succ]
        refine' wpAnyH_take (i := 7) (oi := _) (v := _) rfl (by kernel_rfl) (by kernel_rfl) (by kernel_rfl) (fun _ _ _ h => h) (Or.inr ⟨by rfl, rfl⟩) (by assumption) ?rezn2
        try simp only [Act.put, List.setIfInBounds_toArray, List.set_cons_zero, List.set_cons_succ, List.getElem_toArray, List.getElem_cons_zero, List.getElem_cons_succ]
        refine' wpAnyH_take (i := 8) (oi := _) (v := _) rfl (by kernel_rfl) (by kernel_rfl) (by kernel_rfl) (fun _ _ _ h => h) (Or.inr ⟨by rfl, rfl⟩) (by assumption) ?rezn3
        try simp only [Act.put, List.setIfInBounds_toArray, List.set_cons_zero, List.set_cons_succ, List.getElem_toArray, List.getElem_cons_zero, List.getElem_cons_succ]
        refine' wpAnyH_take (i := 9) (oi := _) (v := _) rfl (by kernel_rfl) (by kernel_rfl) (by kernel_rfl) (fun _ _ _ h => h) (Or.inr ⟨by rfl, rfl⟩) (by assumption) ?rezn4
        try simp only [Act.put, List.setIfInBounds_toArray, List.set_cons_zero, List.set_cons_succ, List.getElem_toArray, List.getElem_cons_zero, List.getElem_cons_succ]
        refine' wpAnyH_take (i := 10) (oi := _) (v := _) rfl (by kernel_rfl) (by kernel_rfl) (by kernel_rfl) (fun _ _ _ h => h) (Or.inr ⟨by rfl, rfl⟩) (by assumption) ?rezn5
        try simp only [Act.put, List.setIfInBounds_toArray, List.set_cons_zero, List.set_cons_succ, List.getElem_toArray, List.getElem_cons_zero, List.getElem_cons_succ]
        refine' wpAnyH_take (i := 11) (oi := _) (v := _) rfl (by kernel_rfl) (by kernel_rfl) (by kernel_rfl) (fun _ _ _ h => h) (Or.inl ⟨by rfl, ?hz11⟩) (by assumption) ?rezt11
        case hz11 => (intro w' hSw; (try dsimp only at hSw); go_simp; try with_reducible rfl)
        try simp only [Act.put, List.setIfInBounds_toArray, List.set_cons_zero, List.set_cons_succ, List.getElem_toArray, List.getElem_cons_zero, List.getElem_cons_succ]
        refine' wpAnyH_take (i := 12) (oi := _) (v := _) rfl (by kernel_rfl) (by kernel_rfl) (by kernel_rfl) (fun _ _ _ h => h) (Or.inl ⟨by rfl, ?hz12⟩) (by assumption) ?rezt12
        case hz12 => (intro w' hSw; (try dsimp only at hSw); go_simp; try with_reducible rfl)
        try simp only [Act.put, List.setIfInBounds_toArray, List.set_cons_zero, List.set_cons_succ, List.getElem_toArray, List.getElem_cons_zero, List.getElem_cons_succ]
        refine' wpAnyH_take (i := 13) (oi := _) (v := _) rfl (by kernel_rfl) (by kernel_rfl) (by kernel_rfl) (fun _ _ _ h => h) (Or.inr ⟨by rfl, rfl⟩) (by assumption) ?rezn6
        try simp only [Act.put, List.setIfInBounds_toArray, List.set_cons_zero, List.set_cons_succ, List.getElem_toArray, List.getElem_cons_zero, List.getElem_cons_succ]
        refine' wpAnyH_take (i := 14) (oi := _) (v := _) rfl (by kernel_rfl) (by kernel_rfl) (by kernel_rfl) (fun _ _ _ h => h) (Or.inr ⟨by rfl, rfl⟩) (by assumption) ?rezn7
        try simp only [Act.put, List.setIfInBounds_toArray, List.set_cons_zero, List.set_cons_succ, List.getElem_toArray, List.getElem_cons_zero, List.getElem_cons_succ]
        refine' wpAnyH_take (i := 15) (oi := _) (v := _) rfl (by kernel_rfl) (by kernel_rfl) (by kernel_rfl) (fun _ _ _ h => h) (Or.inr ⟨by rfl, rfl⟩) (by assumption) ?rezn8
        try simp only [Act.put, List.setIfInBounds_toArray, List.set_cons_zero, List.set_cons_succ, List.getElem_toArray, List.getElem_cons_zero, List.getElem_cons_succ]
        refine' wpAnyH_take (i := 16) (oi := _) (v := _) rfl (by kernel_rfl) (by kernel_rfl) (by kernel_rfl) (fun _ _ _ h => h) (Or.inr ⟨by rfl, rfl⟩) (by assumption) ?rezn9
        try simp only [Act.put, List.setIfInBounds_toArray, List.set_cons_zero, List.set_cons_succ, List.getElem_toArray, List.getElem_cons_zero, List.getElem_cons_succ]
        refine' wpAnyH_take (i := 17) (oi := _) (v := _) rfl (by kernel_rfl) (by kernel_rfl) (by kernel_rfl) (fun _ _ _ h => h) (Or.inr ⟨by rfl, rfl⟩) (by assumption) ?rezn10
        try simp only [Act.put, List.setIfInBounds_toArray, List.set_cons_zero, List.set_cons_succ, List.getElem_toArray, List.getElem_cons_zero, List.getElem_cons_succ]
        refine' wpAnyH_take (i := 18) (oi := _) (v := _) rfl (by kernel_rfl) (by kernel_rfl) (by kernel_rfl) (fun _ _ _ h => h) (Or.inr ⟨by rfl, rfl⟩) (by assumption) ?rezn11
        try simp only [Act.put, List.setIfInBounds_toArray, List.set_cons_zero, List.set_cons_succ, List.getElem_toArray, List.getElem_cons_zero, List.getElem_cons_succ]
        refine' wpAnyH_take (i := 19) (oi := _) (v := _) rfl (by kernel_rfl) (by kernel_rfl) (by kernel_rfl) (fun _ _ _ h => h) (Or.inr ⟨by rfl, rfl⟩) (by assumption) ?rezn12
        try simp only [Act.put, List.setIfInBounds_toArray, List.set_cons_zero, List.set_cons_succ, List.getElem_toArray, List.getElem_cons_zero, List.getElem_cons_succ]
        refine' wpAnyH_take (i := 20) (oi := _) (v := _) rfl (by kernel_rfl) (by kernel_rfl) (by kernel_rfl) (fun _ _ _ h => h) (Or.inr ⟨by rfl, rfl⟩) (by assumption) ?rezn13
        try simp only [Act.put, List.setIfInBounds_toArray, List.set_cons_zero, List.set_cons_succ, List.getElem_toArray, List.getElem_cons_zero, List.getElem_cons_succ]
        refine' wpAnyH_take (i := 21) (oi := _) (v := _) rfl (by kernel_rfl) (by kernel_rfl) (by kernel_rfl) (fun _ _ _ h => h) (Or.inr ⟨by rfl, rfl⟩) (by assumption) ?rezn14
        try simp only [Act.put, List.setIfInBounds_toArray, List.set_cons_zero, List.set_cons_succ, List.getElem_toArray, List.getElem_cons_zero, List.getElem_cons_succ]
        refine' wpAnyH_take (i := 22) (oi := _) (v := _) rfl (by kernel_rfl) (by kernel_rfl) (by kernel_rfl) (fun _ _ _ h => h) (Or.inl ⟨by rfl, ?hz13⟩) (by assumption) ?rezt13
        case hz13 => (intro w' hSw; (try dsimp only at hSw); go_simp; try with_reducible rfl)
        try simp only [Act.put, List.setIfInBounds_toArray, List.set_cons_zero, List.set_cons_succ, List.getElem_toArray, List.getElem_cons_zero, List.getElem_cons_succ]
        refine wpAnyH_done (by kernel_rfl) ?_ _
        clear K0 K1 K2 K3 e4
        go_upto_region 14 with fail
        iterate 4 go_step
        refine wp_store_rp rfl _ _ rfl w.heap.size zeroRV zeroM rfl rfl HTR2.out ?_
        repeat go_step
        refine ret_rp rfl rfl (RpAt.stored HTR2.out zeroRV zeroM) rfl ?_
        rw [HRR.out]
        have hbe : Below w.heap.size w (w2.setCells w.heap.size 0 (rpC zeroRV zeroM)) := below_setCellsR HS2.out.bel (Nat.le_refl _) _ _
        exact ⟨hbe, zeroRV, zeroM, 14, rfl, zero_ref _ _, .inr (.inl ⟨HMY.out, HF.out, rfl, rfl⟩)⟩
      have hA1' : ¬ (q : Int) < (D : Int) + 2 + 2 * (Kn : Int) := hA1
      refine' wpAnyH_take (i := 4) (oi := _) (v := _) rfl (by kernel_rfl) (by kernel_rfl) (by kernel_rfl) (fun _ _ _ h => h) (Or.inl ⟨by rfl, ?hz14⟩) (by assumption) ?rezt14
      case hz14 => (intro w' hSw; (try dsimp only at hSw); go_simp; try with_reducible rfl)
      try simp only [Act.put, List.setIfInBounds_toArray, List.set_cons_zero, List.set_cons_succ, List.getElem_toArray, List.getElem_cons_zero, List.getElem_cons_succ]
      refine' wpAnyH_take (i := 5) (oi := _) (v := _) rfl (by kernel_rfl) (by kernel_rfl) (by kernel_rfl) (fun _ _ _ h => h) (Or.inl ⟨by rfl, ?hz15⟩) (by assumption) ?rezt15
      case hz15 => (intro w' hSw; (try dsimp only at hSw); go_simp; try with_reducible rfl)
      try simp only [Act.put, List.setIfInBounds_toArray, List.set_cons_zero, List.set_cons_succ, List.getElem_toArray, List.getElem_cons_zero, List.getElem_cons_succ]
      refine' wpAnyH_take (i := 6) (oi := _) (v := _) rfl (by kernel_rfl) (by kernel_rfl) (by kernel_rfl) (fun _ _ _ h => h) (Or.inl ⟨by rfl, ?hz16⟩) (by assumption) ?rezt16
      case hz16 => (intro w' hSw; (try dsimp only at hSw); go_simp; try with_reducible rfl)
      try simp only [Act.put, List.setIfInBounds_toArray, List.set_cons_zero, List.set_cons_succ, List.getElem_toArray, List.getElem_cons_zero, List.getElem_cons_succ]
      refine' wpAnyH_take (i := 7) (oi := _) (v := _) rfl (by kernel_rfl) (by kernel_rfl) (by kernel_rfl) (fun _ _ _ h => h) (Or.inl ⟨by rfl, ?hz17⟩) (by assumption) ?rezt17
      case hz17 => (intro w' hSw; (try dsimp only at hSw); go_simp; try with_reducible rfl)
      try simp only [Act.put, List.setIfInBounds_toArray, List.set_cons_zero, List.set_cons_succ, List.getElem_toArray, List.getElem_cons_zero, List.getElem_cons_succ]
      refine' wpAnyH_take (i := 8) (oi := _) (v := _) rfl (by kernel_rfl) (by kernel_rfl) (by kernel_rfl) (fun _ _ _ h => h) (Or.inl ⟨by rfl, ?hz18⟩) (by assumption) ?rezt18
      case hz18 => (intro w' hSw; (try dsimp only at hSw); go_simp; try with_reducible rfl)
      try simp only [Act.put, List.setIfInBounds_toArray, List.set_cons_zero, List.set_cons_succ, List.getElem_toArray, List.getElem_cons_zero, List.getElem_cons_succ]
      refine' wpAnyH_take (i := 9) (oi := _) (v := _) rfl (by kernel_rfl) (by kernel_rfl) (by kernel_rfl) (fun _ _ _ h => h) (Or.inl ⟨by rfl, ?hz19⟩) (by assumption) ?rezt19
      case hz19 => (intro w' hSw; (try dsimp only at hSw); go_simp; try with_reducible rfl)
      try simp only [Act.put, List.setIfInBounds_toArray, List.set_cons_zero, List.set_cons_succ, List.getElem_toArray, List.getElem_cons_zero, List.getElem_cons_succ]
      by_cases hA2 : (Mj.n : Int) < (q : Int) + 2
      · have HF := Lib.hid (show ¬ ofP L D from fun o => by have := of_cell HB.out HLD.out o (j := j) (by rw [HK.out]; exact hlt); rw [HK.out, HQ.out, HN.out] at this; have := HJN.out; omega)
        refine' wpAnyH_take (i := 10) (oi := _) (v := _) rfl (by kernel_rfl) (by kernel_rfl) (by kernel_rfl) (fun _ _ _ h => h) (Or.inl ⟨by rfl, ?hz20⟩) (by assumption) ?rezt20
        case hz20 => (intro w' hSw; (try dsimp only at hSw); go_simp; try with_reducible rfl)
        try simp only [Act.put, List.setIfInBounds_toArray, List.set_cons_zero, List.set_cons_succ, List.getElem_toArray, List.getElem_cons_zero, List.getElem_cons_succ]
        refine' wpAnyH_take (i := 11) (oi := _) (v := _) rfl (by kernel_rfl) (by kernel_rfl) (by kernel_rfl) (fun _ _ _ h => h) (Or.inl ⟨by rfl, ?hz21⟩) (by assumption) ?rezt21
        case hz21 => (intro w' hSw; (try dsimp only at hSw); go_simp; try with_reducible rfl)
        try simp only [Act.put, List.setIfInBounds_toArray, List.set_cons_zero, List.set_cons_succ, List.getElem_toArray, List.getElem_cons_zero, List.getElem_cons_succ]
        refine' wpAnyH_take (i := 12) (oi := _) (v := _) rfl (by kernel_rfl) (by kernel_rfl) (by kernel_rfl) (fun _ _ _ h => h) (Or.inl ⟨by rfl, ?hz22⟩) (by assumption) ?rezt22
        case hz22 => (intro w' hSw; (try dsimp only at hSw); go_simp; try with_reducible rfl)
        try simp only [Act.put, List.setIfInBounds_toArray, List.set_cons_zero, List.set_cons_succ, List.getElem_toArray, List.getElem_cons_zero, List.getElem_cons_succ]
        refine' wpAnyH_take (i := 13) (oi := _) (v := _) rfl (by kernel_rfl) (by kernel_rfl) (by kernel_rfl) (fun _ _ _ h => h) (Or.inr ⟨by rfl, rfl⟩) (by assumption) ?rezn15
        try simp only [Act.put, List.setIfInBounds_toArray, List.set_cons_zero, List.set_cons_succ, List.getElem_toArray, List.getElem_cons_zero, List.getElem_cons_succ]
        refine' wpAnyH_take (i := 14) (oi := _) (v := _) rfl (by kernel_rfl) (by kernel_rfl) (by kernel_rfl) (fun _ _ _ h => h) (Or.inr ⟨by rfl, rfl⟩) (by assumption) ?rezn16
        try simp only [Act.put, List.setIfInBounds_toArray, List.set_cons_zero, List.set_cons_succ, List.getElem_toArray, List.getElem_cons_zero, List.getElem_cons_succ]
        refine' wpAnyH_take (i := 15) (oi := _) (v := _) rfl (by kernel_rfl) (by kernel_rfl) (by kernel_rfl) (fun _ _ _ h => h) (Or.inr ⟨by rfl, rfl⟩) (by assumption) ?rezn17
        try simp only [Act.put, List.setIfInBounds_toArray, List.set_cons_zero, List.set_cons_succ, List.getElem_toArray, List.getElem_cons_zero, List.getElem_cons_succ]
        refine' wpAnyH_take (i := 16) (oi := _) (v := _) rfl (by kernel_rfl) (by kernel_rfl) (by kernel_rfl) (fun _ _ _ h => h) (Or.inr ⟨by rfl, rfl⟩) (by assumption) ?rezn18
        try simp only [Act.put, List.setIfInBounds_toArray, List.set_cons_zero, List.set_cons_succ, List.getElem_toArray, List.getElem_cons_zero, List.getElem_cons_succ]
        refine' wpAnyH_take (i := 17) (oi := _) (v := _) rfl (by kernel_rfl) (by kernel_rfl) (by kernel_rfl) (fun _ _ _ h => h) (Or.inr ⟨by rfl, rfl⟩) (by assumption) ?rezn19
        try simp only [Act.put, List.setIfInBounds_toArray, List.set_cons_zero, List.set_cons_succ, List.getElem_toArray, List.getElem_cons_zero, List.getElem_cons_succ]
        refine' wpAnyH_take (i := 18) (oi := _) (v := _) rfl (by kernel_rfl) (by kernel_rfl) (by kernel_rfl) (fun _ _ _ h => h) (Or.inr ⟨by rfl, rfl⟩) (by assumption) ?rezn20
        try simp only [Act.put, List.setIfInBounds_toArray, List.set_cons_zero, List.set_cons_succ, List.getElem_toArray, List.getElem_cons_zero, List.getElem_cons_succ]
        refine' wpAnyH_take (i := 19) (oi := _) (v := _) rfl (by kernel_rfl) (by kernel_rfl) (by kernel_rfl) (fun _ _ _ h => h) (Or.inr ⟨by rfl, rfl⟩) (by assumption) ?rezn21
        try simp only [Act.put, List.setIfInBounds_toArray, List.set_cons_zero, List.set_cons_succ, List.getElem_toArray, List.getElem_cons_zero, List.getElem_cons_succ]
        refine' wpAnyH_take (i := 20) (oi := _) (v := _) rfl (by kernel_rfl) (by kernel_rfl) (by kernel_rfl) (fun _ _ _ h => h) (Or.inr ⟨by rfl, rfl⟩) (by assumption) ?rezn22
        try simp only [Act.put, List.setIfInBounds_toArray, List.set_cons_zero, List.set_cons_succ, List.getElem_toArray, List.getElem_cons_zero, List.getElem_cons_succ]
        refine' wpAnyH_take (i := 21) (oi := _) (v := _) rfl (by kernel_rfl) (by kernel_rfl) (by kernel_rfl) (fun _ _ _ h => h) (Or.inr ⟨by rfl, rfl⟩) (by assumption) ?rezn23
        try simp only [Act.put, List.setIfInBounds_toArray, List.set_cons_zero, List.set_cons_succ, List.getElem_toArray, List.getElem_cons_zero, List.getElem_cons_succ]
        refine' wpAnyH_take (i := 22) (oi := _) (v := _) rfl (by kernel_rfl) (by kernel_rfl) (by kernel_rfl) (fun _ _ _ h => h) (Or.inl ⟨by rfl, ?hz23⟩) (by assumption) ?rezt23
        case hz23 => (intro w' hSw; (try dsimp only at hSw); go_simp; try with_reducible rfl)
        try simp only [Act.put, List.setIfInBounds_toArray, List.set_cons_zero, List.set_cons_succ, List.getElem_toArray, List.getElem_cons_zero, List.getElem_cons_succ]
        refine wpAnyH_done (by kernel_rfl) ?_ _
        clear K0 K1 K2 K3 e4
        go_upto_region 14 with fail
        iterate 4 go_step
        refine wp_store_rp rfl _ _ rfl w.heap.size zeroRV zeroM rfl rfl HTR2.out ?_
        repeat go_step
        refine ret_rp rfl rfl (RpAt.stored HTR2.out zeroRV zeroM) rfl ?_
        rw [HRR.out]
        have hbe : Below w.heap.size w (w2.setCells w.heap.size 0 (rpC zeroRV zeroM)) := below_setCellsR HS2.out.bel (Nat.le_refl _) _ _
        exact ⟨hbe, zeroRV, zeroM, 14, rfl, zero_ref _ _, .inr (.inl ⟨HMY.out, HF.out, rfl, rfl⟩)⟩
      refine' wpAnyH_take (i := 10) (oi := _) (v := _) rfl (by kernel_rfl) (by kernel_rfl) (by kernel_rfl) (fun _ _ _ h => h) (Or.inl ⟨by rfl, ?hz24⟩) (by assumption) ?rezt24
      case hz24 => (intro w' hSw; (try dsimp only at hSw); go_simp; try with_reducible rfl)
      try simp only [Act.put, List.setIfInBounds_toArray, List.set_cons_zero, List.set_cons_succ, List.getElem_toArray, List.getElem_cons_zero, List.getElem_cons_succ]
      refine' wpAnyH_take (i := 11) (oi := _) (v := _) rfl (by kernel_rfl) (by kernel_rfl) (by kernel_rfl) (fun _ _ _ h => h) (Or.inl ⟨by rfl, ?hz25⟩) (by assumption) ?rezt25
      case hz25 => (intro w' hSw; (try dsimp only at hSw); go_simp; try with_reducible rfl)
      try simp only [Act.put, List.setIfInBounds_toArray, List.set_cons_zero, List.set_cons_succ, List.getElem_toArray, List.getElem_cons_zero, List.getElem_cons_succ]
      refine' wpAnyH_take (i := 12) (oi := _) (v := _) rfl (by kernel_rfl) (by kernel_rfl) (by kernel_rfl) (fun _ _ _ h => h) (Or.inl ⟨by rfl, ?hz26⟩) (by assumption) ?rezt26
      case hz26 => (intro w' hSw; (try dsimp only at hSw); go_simp; try with_reducible rfl)
      try simp only [Act.put, List.setIfInBounds_toArray, List.set_cons_zero, List.set_cons_succ, List.getElem_toArray, List.getElem_cons_zero, List.getElem_cons_succ]
      refine' wpAnyH_take (i := 13) (oi := _) (v := _) rfl (by kernel_rfl) (by kernel_rfl) (by kernel_rfl) (fun _ _ _ h => h) (Or.inl ⟨by rfl, ?hz27⟩) (by assumption) ?rezt27
      case hz27 => (intro w' hSw; (try dsimp only at hSw); go_simp; try with_reducible rfl)
      try simp only [Act.put, List.setIfInBounds_toArray, List.set_cons_zero, List.set_cons_succ, List.getElem_toArray, List.getElem_cons_zero, List.getElem_cons_succ]
      refine' wpAnyH_take (i := 14) (oi := _) (v := _) rfl (by kernel_rfl) (by kernel_rfl) (by kernel_rfl) (fun _ _ _ h => h) (Or.inl ⟨by rfl, ?hz28⟩) (by assumption) ?rezt28
      case hz28 => (intro w' hSw; (try dsimp only at hSw); go_simp; try with_reducible rfl)
      try simp only [Act.put, List.setIfInBounds_toArray, List.set_cons_zero, List.set_cons_succ, List.getElem_toArray, List.getElem_cons_zero, List.getElem_cons_succ]
      refine' wpAnyH_take (i := 15) (oi := _) (v := _) rfl (by kernel_rfl) (by kernel_rfl) (by kernel_rfl) (fun _ _ _ h => h) (Or.inl ⟨by rfl, ?hz29⟩) (by assumption) ?rezt29
      case hz29 => (intro w' hSw; (try dsimp only at hSw); go_simp; try with_reducible rfl)
      try simp only [Act.put, List.setIfInBounds_toArray, List.set_cons_zero, List.set_cons_succ, List.getElem_toArray, List.getElem_cons_zero, List.getElem_cons_succ]
      refine' wpAnyH_take (i := 16) (oi := _) (v := _) rfl (by kernel_rfl) (by kernel_rfl) (by kernel_rfl) (fun _ _ _ h => h) (Or.inl ⟨by rfl, ?hz30⟩) (by assumption) ?rezt30
      case hz30 => (intro w' hSw; (try dsimp only at hSw); go_simp; try with_reducible rfl)
      try simp only [Act.put, List.setIfInBounds_toArray, List.set_cons_zero, List.set_cons_succ, List.getElem_toArray, List.getElem_cons_zero, List.getElem_cons_succ]
      refine' wpAnyH_take (i := 19) (oi := _) (v := _) rfl (by kernel_rfl) (by kernel_rfl) (by kernel_rfl) (fun _ _ _ h => h) (Or.inl ⟨by rfl, ?hz31⟩) (by assumption) ?rezt31
      case hz31 => (intro w' hSw; (try dsimp only at hSw); go_simp; try with_reducible rfl)
      try simp only [Act.put, List.setIfInBounds_toArray, List.set_cons_zero, List.set_cons_succ, List.getElem_toArray, List.getElem_cons_zero, List.getElem_cons_succ]
      refine' wpAnyH_take (i := 20) (oi := _) (v := _) rfl (by kernel_rfl) (by kernel_rfl) (by kernel_rfl) (fun _ _ _ h => h) (Or.inl ⟨by rfl, ?hz32⟩) (by assumption) ?rezt32
      case hz32 => (intro w' hSw; (try dsimp only at hSw); go_simp; try with_reducible rfl)
      try simp only [Act.put, List.setIfInBounds_toArray, List.set_cons_zero, List.set_cons_succ, List.getElem_toArray, List.getElem_cons_zero, List.getElem_cons_succ]
      have hq2n : q + 2 ≤ n := by have := HJN.out; omega
      have hmt : tw L q = (lOf L q : Int) := tw_nat HB.out _
      have hm1 : lOf L q ≤ 65535 := by have := (tw_bd HB.out q).2; omega
      obtain ⟨m, hm⟩ : ∃ m, lOf L q = m := ⟨_, rfl⟩
      rw [hm] at hmt hm1
      have HML := Lib.hid hm
      have HMT := Lib.hid hmt
      have e5 : IntKind.i64.wrap ((q : Int) + 2 + (m : Int)) = (q : Int) + 2 + (m : Int) := IntWalk.i64_in _ (by omega)
      have htwo := fun W (hW : Rd W A L) => two9_any W A n c L HN.out hnm hW HB.out q hq2n
      clear hm hmt
      refine wpAnyH_ready (rs := [17]) (by kernel_rfl) (by simp) ?_
      refine AllReadyH.cons (o := _) rfl (fun K hK => ?_) AllReadyH.nil
      go_simp
      go_at_call 65
      refine (htwo _ (HA.out.keep HS2.out.bel)).mono ?_
      rintro e w3 ⟨rfl, hb23⟩
      rw [HMT.out]
      have hb13 : Below w1.heap.size w1 w3 := hb12.trans (hb23.mono hb12.size)
      refine hK.out _ _ ?_ (fun hHeld => ?_)
      · exact hb13
      clear hK K
      try simp only [Act.put, List.setIfInBounds_toArray, List.set_cons_zero, List.set_cons_succ, List.getElem_toArray, List.getElem_cons_zero, List.getElem_cons_succ]
      have HS3 := Lib.hid (HS2.out.keep hb23)
      have HTR3 := Lib.hid (there_keepR HTR2.out hb23 (by have := HS2.out.size; omega))
      clear HS2 HTR2 hb23 hb12
      refine' wpAnyH_take (i := 18) (oi := _) (v := _) rfl (by kernel_rfl) (by kernel_rfl) (by kernel_rfl) (fun _ _ _ h => h) (Or.inl ⟨by rfl, ?hz33⟩) (by assumption) ?rezt33
      case hz33 => (intro w' hSw; (try dsimp only at hSw); go_simp; try with_reducible rfl)
      try simp only [Act.put, List.setIfInBounds_toArray, List.set_cons_zero, List.set_cons_succ, List.getElem_toArray, List.getElem_cons_zero, List.getElem_cons_succ]
      by_cases hA3 : (Mj.n : Int) < (q : Int) + 2 + (m : Int)
      · have HF := Lib.hid (show ¬ ofP L D from fun o => by have := of_cell HB.out HLD.out o (j := j) (by rw [HK.out]; exact hlt); rw [HK.out, HQ.out, HML.out, HN.out] at this; have := HJN.out; omega)
        refine' wpAnyH_take (i := 21) (oi := _) (v := _) rfl (by kernel_rfl) (by kernel_rfl) (by kernel_rfl) (fun _ _ _ h => h) (Or.inl ⟨by rfl, ?hz34⟩) (by assumption) ?rezt34
        case hz34 => (intro w' hSw; (try dsimp only at hSw); go_simp; try with_reducible rfl)
        try simp only [Act.put, List.setIfInBounds_toArray, List.set_cons_zero, List.set_cons_succ, List.getElem_toArray, List.getElem_cons_zero, List.getElem_cons_succ]
        refine' wpAnyH_take (i := 22) (oi := _) (v := _) rfl (by kernel_rfl) (by kernel_rfl) (by kernel_rfl) (fun _ _ _ h => h) (Or.inl ⟨by rfl, ?hz35⟩) (by assumption) ?rezt35
        case hz35 => (intro w' hSw; (try dsimp only at hSw); go_simp; try with_reducible rfl)
        try simp only [Act.put, List.setIfInBounds_toArray, List.set_cons_zero, List.set_cons_succ, List.getElem_toArray, List.getElem_cons_zero, List.getElem_cons_succ]
        refine wpAnyH_done (by kernel_rfl) ?_ _
        clear K0 K1 K2 K3 e4 e5 htwo
        go_upto_region 14 with fail
        iterate 4 go_step
        refine wp_store_rp rfl _ _ rfl w.heap.size zeroRV zeroM rfl rfl HTR3.out ?_
        repeat go_step
        refine ret_rp rfl rfl (RpAt.stored HTR3.out zeroRV zeroM) rfl ?_
        rw [HRR.out]
        have hbe : Below w.heap.size w (w3.setCells w.heap.size 0 (rpC zeroRV zeroM)) := below_setCellsR HS3.out.bel (Nat.le_refl _) _ _
        exact ⟨hbe, zeroRV, zeroM, 14, rfl, zero_ref _ _, .inr (.inl ⟨HMY.out, HF.out, rfl, rfl⟩)⟩
      refine' wpAnyH_take (i := 21) (oi := _) (v := _) rfl (by kernel_rfl) (by kernel_rfl) (by kernel_rfl) (fun _ _ _ h => h) (Or.inl ⟨by rfl, ?hz36⟩) (by assumption) ?rezt36
      case hz36 => (intro w' hSw; (try dsimp only at hSw); go_simp; try with_reducible rfl)
      try simp only [Act.put, List.setIfInBounds_toArray, List.set_cons_zero, List.set_cons_succ, List.getElem_toArray, List.getElem_cons_zero, List.getElem_cons_succ]
      refine' wpAnyH_take (i := 22) (oi := _) (v := _) rfl (by kernel_rfl) (by kernel_rfl) (by kernel_rfl) (fun _ _ _ h => h) (Or.inl ⟨by rfl, ?hz37⟩) (by assumption) ?rezt37
      case hz37 => (intro w' hSw; (try dsimp only at hSw); go_simp; try with_reducible rfl)
      try simp only [Act.put, List.setIfInBounds_toArray, List.set_cons_zero, List.set_cons_succ, List.getElem_toArray, List.getElem_cons_zero, List.getElem_cons_succ]
      refine wpAnyH_done (by kernel_rfl) ?_ _
      clear K0 K1 K2 K3
      go_wp2_with fail
      refine (htwo _ (HA.out.keep HS3.out.bel)).mono ?_
      clear htwo
      rintro e w4 ⟨rfl, hb34⟩
      rw [HMT.out]
      have HS4 := Lib.hid (HS3.out.keep hb34)
      have HTR4 := Lib.hid (there_keepR HTR3.out hb34 (by have := HS3.out.size; omega))
      clear HS3 HTR3 hb34 hb13 HATJ HJH HMj
      have hqm : q + 2 + m ≤ n := by have := HJN.out; omega
      have hlo : D + 2 + 2 * Kn ≤ q := by omega
      have HK0 := Lib.hid (show ∀ x, cntK L D j q x = cnt L D j x from fun x => by unfold cntK; rw [HQ.out, if_neg (by omega), Nat.add_zero])
      go_wp2_with fail
      clear e4 e5
      go_loopw [13] (OfRel2 w w4 tb L D j) (fun i _ => q + 2 + m - (intOf i).toNat)
      case atStart => exact ⟨q, by rw [HQ.out]; exact Nat.le_refl _, by rw [HQ.out, HML.out]; omega, rfl, HS4.out.row.congr fun x _ => by rw [HK0.out], fun x => by rw [HK0.out]; exact HONCE.out x, fun _ _ _ => rfl, Nat.le_refl _, HS4.out.bel⟩
      case round =>
        rename World => wk
        obtain ⟨k, hk1, hk2, rfl, hrow, hon, hfr, hsz, hbk⟩ := hrel
        rw [HQ.out] at hk1 hk2
        rw [HML.out] at hk2
        have HROW := Lib.hid hrow
        have HON := Lib.hid hon
        have HFR := Lib.hid hfr
        clear hrow hon hfr
        by_cases hkt : k < q + 2 + m
        · have hkt' : (k : Int) < (q : Int) + 2 + (m : Int) := by omega
          have i0k : (0 : Int) ≤ (k : Int) := by omega
          have hkL : k < L.length := by rw [HN.out]; omega
          have hkn : (k : Int) < (n : Int) := by omega
          obtain ⟨c0, f0⟩ := HROW.out k hkL
          dsimp only at c0
          by_cases htk : 0 < cntK L D j k k
          · rw [decide_eq_true htk] at c0
            have HF := Lib.hid (show ¬ ofP L D from fun o => by
              have h1 := of_once HB.out HLD.out o k
              have h2 : 0 < cnt L D j k := by
                unfold cntK at htk
                rw [if_neg (by omega)] at htk
                omega
              obtain ⟨t, ht, hct⟩ := cnt_pos h2
              have h3 := cnt_pair (L := L) (h := D) (m := kOf L D) ht (by rw [HK.out]; exact hlt) hct (show covers L D j k by unfold covers; rw [HQ.out, HML.out]; omega)
              omega)
            have HTRk := Lib.hid (there_blk (HFR.out w.heap.size (by omega) (by have := HS4.out.size; omega)) HTR4.out)
            clear htk
            go_upto_region 20 with fail
            iterate 4 go_step
            refine wp_store_rp rfl _ _ rfl w.heap.size zeroRV zeroM rfl rfl HTRk.out ?_
            repeat go_step
            refine ret_rp rfl rfl (RpAt.stored HTRk.out zeroRV zeroM) rfl ?_
            rw [HRR.out]
            have hbe : Below w.heap.size w (wk.setCells w.heap.size 0 (rpC zeroRV zeroM)) := below_setCellsR hbk (Nat.le_refl _) _ _
            exact ⟨hbe, zeroRV, zeroM, 14, rfl, zero_ref _ _, .inr (.inl ⟨HMY.out, HF.out, rfl, rfl⟩)⟩
          · rw [decide_eq_false htk] at c0
            have hz : cntK L D j k k = 0 := by omega
            have HZ := Lib.hid hz
            clear htk hz
            go_wp2_with fail
            go_roundw
            case rel =>
              have hset := HROW.out.set hkL true
              refine ⟨k + 1, by rw [HQ.out]; omega, by rw [HQ.out, HML.out]; omega, by go_num, hset.congr fun x hx => ?_, fun x => ?_, fun i hi hl => ?_, ?_, hbk.setCell (by have := HS4.out.lt; exact this.2.2.2.2) _⟩
              · have hzz := HZ.out
                unfold cntK at hzz ⊢
                rw [HQ.out] at hzz ⊢
                by_cases e : x = k
                · subst e
                  rw [if_pos rfl, if_pos (by omega)]
                  simp
                · rw [if_neg e]
                  congr 2
                  by_cases h2 : q ≤ x ∧ x < k
                  · rw [if_pos h2, if_pos (by omega)]
                  · rw [if_neg h2, if_neg (by omega)]
              · have hzz := HZ.out
                have hoo := HON.out x
                unfold cntK at hzz hoo ⊢
                rw [HQ.out] at hzz hoo ⊢
                by_cases e : x = k
                · subst e
                  rw [if_pos (by omega)]
                  rw [if_neg (by omega)] at hzz
                  omega
                · by_cases h2 : q ≤ x ∧ x < k
                  · rw [if_pos h2] at hoo
                    rw [if_pos (by omega)]; exact hoo
                  · rw [if_neg h2] at hoo
                    rw [if_neg (by omega)]; exact hoo
              · rw [heap_setG_ne _ _ _ hi]; exact HFR.out i hi hl
              · rw [size_setG]; exact hsz
            case measure => simp [intOf]; omega
        · obtain rfl : k = q + 2 + m := by omega
          have HCN := Lib.hid (show ∀ x, cntK L D j (q + 2 + m) x = cnt L D (j + 1) x from fun x => by
            show cnt L D j x + (if pOf L D j ≤ x ∧ x < q + 2 + m then 1 else 0) = cnt L D j x + (if covers L D j x then 1 else 0)
            have hc : covers L D j x ↔ (pOf L D j ≤ x ∧ x < q + 2 + m) := by unfold covers; rw [HQ.out, HML.out]
            by_cases h2 : pOf L D j ≤ x ∧ x < q + 2 + m
            · rw [if_pos h2, if_pos (hc.2 h2)]
            · rw [if_neg h2, if_neg (fun h3 => h2 (hc.1 h3))])
          obtain ⟨fat, fth, fwas, fown, ffr, fsz⟩ := HS4.out.frame HFR.out hsz hbk
          have HROWk := Lib.hid (show BRow wk tb L.length (fun x => decide (0 < cnt L D (j + 1) x)) from HROW.out.congr fun x _ => by rw [HCN.out])
          have HAT := Lib.hid fat
          have HTH := Lib.hid fth
          have HWAS := Lib.hid fwas
          have HOWN := Lib.hid fown
          have HFFR := Lib.hid ffr
          have HFA := Lib.hid HS4.out.fa
          obtain ⟨hl1, hl2, hl3, hl4, hl5⟩ := HS4.out.lt
          have HPl := Lib.hid (show (Mo L D j).P.length = j from Mo_P L D j)
          clear fat fth fwas fown ffr HROW HFR HS4 HTR4
          -- its place
          have m3 := HAT.out.all.2.2.2
          rw [HPl.out] at m3
          have hba : Below wk.heap.size wk (wk.alloc (.cells #[.int .i64 (q : Int)] 3)) := (Below.refl _ _).alloc (Nat.le_refl _) _
          go_upto_region 22 with fail
          iterate 13 go_step
          clear m3
          refine wp_append_g 31 3 (.int .i64 0) 8 Try.underlying31 info_in rfl (by omega) rfl (.tmp 101) (.tmp 103) rfl W9.heap.size rj.PA j rj.pc _ rfl (HOWN.out.keep hba) _ 1 1 [.int .i64 (q : Int)] rfl rfl (RdG.one wk _ _ [] (by simp)) (by intro u hu; simp at hu; subst hu; rfl) (by omega) (by simp; omega) ?_
          intro PA' pc' wp hownp hbp hkp
          have hza : wk.heap.size ≤ (wk.alloc (.cells #[.int .i64 (q : Int)] 3)).heap.size := hba.size
          have hwasA := HWAS.out.keep hba
          have hWASp : Was wp W9.heap.size rj.CA j rj.cc rj.S ((List.range j).map (cOf L D)) := hwasA.grow (HOWN.out.keep hba) hkp
          have hblk : ∀ i, i < W9.heap.size → wp.heap[i]? = wk.heap[i]? := fun i hi => (hbp.block i hi).trans (hba.block i (by omega))
          have HATp := Lib.hid (show RpAt wp pb rj (Mo L D j) from fun i u hu => by rw [← HAT.out i u hu]; simp [World.cell?, hblk pb hl1])
          have HTHp := Lib.hid (there_blk (hblk pb hl1) HTH.out)
          have HROWp := Lib.hid (HROWk.out.ne (hblk tb hl2))
          have HWASp := Lib.hid hWASp
          have HOWNp := Lib.hid (show OwnG 3 wp W9.heap.size PA' (j + 1) pc' (natC ((List.range (j + 1)).map (pOf L D))) by
            have := hownp
            rw [List.range_succ, List.map_append, natC_app]
            have e : natC (List.map (pOf L D) [j]) = [.int .i64 (q : Int)] := by simp [natC, HQ.out]
            rw [e]
            exact this)
          have hszp : W9.heap.size ≤ wp.heap.size := by have := hbp.size; omega
          have hbelp : Below w.heap.size w wp := (hbk.trans (hba.mono hbk.size)).trans (hbp.mono (by omega))
          have HFFRp := Lib.hid (show ∀ i, i < W9.heap.size → i ≠ pb → i ≠ tb → wp.heap[i]? = W9.heap[i]? from fun i h1 h2 h3 => (hblk i h1).trans (HFFR.out i h1 h2 h3))
          clear hownp hbp hkp hwasA hWASp hblk hba hza HAT HTH HROWk HWAS HOWN HFFR
          have m3 := HATp.out.all.2.2.2
          rw [HPl.out] at m3
          have hf3 := (HTHp.out 3 (by decide)).2
          rw [Nat.zero_add] at hf3
          obtain ⟨wv, hwv⟩ : ∃ W, W = wp.setCell ⟨pb, 3, none⟩ (.slice PA' (j + 1) pc') := ⟨_, rfl⟩
          have HWV := Lib.hid hwv
          have eP : ((List.range (j + 1)).map (pOf L D)).length = j + 1 := by simp
          have hev : ∀ k, k ≠ pb → k < wp.heap.size → wv.heap[k]? = wp.heap[k]? := fun k hk _ => by rw [hwv]; exact heap_setG_ne _ _ _ hk
          obtain ⟨rv, hrv⟩ : ∃ r : RV, r = { rj with PA := PA', pc := pc' } := ⟨_, rfl⟩
          obtain ⟨Mv, hMv⟩ : ∃ M : Mdl, M = { Mo L D j with P := (List.range (j + 1)).map (pOf L D) } := ⟨_, rfl⟩
          have HATv := Lib.hid (show RpAt wv pb rv Mv by
            have := HATp.out.setP PA' pc' ((List.range (j + 1)).map (pOf L D))
            rw [eP, ← hwv, ← hrv, ← hMv] at this
            exact this)
          have HTHv := Lib.hid (show wv.there pb 0 4 by rw [hwv]; exact there_setG HTHp.out _ _)
          have HROWv := Lib.hid (HROWp.out.ne (hev tb (Ne.symm hl3) (by omega)))
          have HWASv := Lib.hid (HWASp.out.ne hev hl1)
          have HOWNv := Lib.hid (show OwnG 3 wv W9.heap.size PA' (j + 1) pc' (natC ((List.range (j + 1)).map (pOf L D))) from ⟨HOWNp.out.1, ownsRow_ne HOWNp.out.2 hev hl1⟩)
          have hszv : W9.heap.size ≤ wv.heap.size := by rw [hwv, size_setG]; exact hszp
          have hbelv : Below w.heap.size w wv := by rw [hwv]; exact hbelp.setCell (by show w.heap.size ≤ pb; exact hl4) _
          have HFFRv := Lib.hid (show ∀ i, i < W9.heap.size → i ≠ pb → i ≠ tb → wv.heap[i]? = W9.heap[i]? from fun i h1 h2 h3 => (hev i h2 (by omega)).trans (HFFRp.out i h1 h2 h3))
          have HRV := Lib.hid hrv
          have HMV := Lib.hid hMv
          have HMk := Lib.hid (show Mv.k = j by rw [hMv]; exact Mo_k L D j)
          clear hwv hev hrv hMv eP HATp HTHp HROWp HWASp HOWNp HFFRp hbelp hszp
          -- its bytes
          go_upto_region 23 with fail
          rw [← HWV.out]
          clear HWV m3 hf3
          have e4 : IntKind.i64.wrap ((q : Int) + 2) = (q : Int) + 2 := IntWalk.i64_in _ (by omega)
          have hcut := run_cut A n c (q + 2) m (by omega)
          rw [show ((q + 2 : Nat) : Int) = (q : Int) + 2 from rfl] at hcut
          obtain ⟨DA2, hDA2⟩ : ∃ X, cutA A c (q + 2) = X := ⟨_, rfl⟩
          rw [hDA2] at hcut
          have HCELL := Lib.hid (show Rd wv DA2 (cOf L D j) by
            have := cutA_rd (HA.out.keep hbelv) c (q + 2) m (by rw [HN.out]; exact hnc)
            rw [hDA2] at this
            unfold cOf
            rw [HQ.out, HML.out]
            exact this)
          have HCLN := Lib.hid (show (cOf L D j).length = m by rw [cOf_len (by rw [HQ.out, HML.out, HN.out]; exact hqm), HQ.out, HML.out])
          have K2 : ∀ W : World, Below wv.heap.size wv W → W.cell? ⟨pb, 2, none⟩ = some (.slice rv.CA j rv.cc) := fun W hW => by
            have := (HATv.out.keep hW).all.2.2.1
            rwa [HMk.out] at this
          have hrvC : rv.CA = rj.CA ∧ rv.cc = rj.cc ∧ rv.S = rj.S := by rw [HRV.out]; exact ⟨rfl, rfl, rfl⟩
          have HRVC := Lib.hid hrvC
          clear hDA2 hrvC
          refine wp_region_z (z := 12) (S := (fun W => W.cell? ⟨pb, 2, none⟩ = some (.slice rv.CA j rv.cc))) (by kernel_rfl) ?_ (fun hHeld => ?_)
          · exact K2 _ (Below.refl _ wv).drew
          refine' wpAnyZ_take (i := 0) (oi := _) (v := _) rfl (by kernel_rfl) (by kernel_rfl) (by kernel_rfl) (by kernel_rfl) (fun _ _ _ h => h) (Or.inl ⟨by rfl, ?hw1⟩) (by assumption) ?rezw1
          case hw1 => (intro w' hSw; (try dsimp only at hSw); go_simp; try with_reducible rfl)
          try simp only [Act.put, List.setIfInBounds_toArray, List.set_cons_zero, List.set_cons_succ, List.getElem_toArray, List.getElem_cons_zero, List.getElem_cons_succ]
          refine' wpAnyZ_take (i := 1) (oi := _) (v := _) rfl (by kernel_rfl) (by kernel_rfl) (by kernel_rfl) (by kernel_rfl) (fun _ _ _ h => h) (Or.inl ⟨by rfl, ?hw2⟩) (by assumption) ?rezw2
          case hw2 => (intro w' hSw; (try dsimp only at hSw); go_simp; try with_reducible rfl)
          try simp only [Act.put, List.setIfInBounds_toArray, List.set_cons_zero, List.set_cons_succ, List.getElem_toArray, List.getElem_cons_zero, List.getElem_cons_succ]
          refine' wpAnyZ_take (i := 3) (oi := _) (v := _) rfl (by kernel_rfl) (by kernel_rfl) (by kernel_rfl) (by kernel_rfl) (fun _ _ _ h => h) (Or.inl ⟨by rfl, ?hw3⟩) (by assumption) ?rezw3
          case hw3 => (intro w' hSw; (try dsimp only at hSw); go_simp; try with_reducible rfl)
          try simp only [Act.put, List.setIfInBounds_toArray, List.set_cons_zero, List.set_cons_succ, List.getElem_toArray, List.getElem_cons_zero, List.getElem_cons_succ]
          refine' wpAnyZ_take (i := 4) (oi := _) (v := _) rfl (by kernel_rfl) (by kernel_rfl) (by kernel_rfl) (by kernel_rfl) (fun _ _ _ h => h) (Or.inl ⟨by rfl, ?hw4⟩) (by assumption) ?rezw4
          case hw4 => (intro w' hSw; (try dsimp only at hSw); go_simp; try with_reducible rfl)
          try simp only [Act.put, List.setIfInBounds_toArray, List.set_cons_zero, List.set_cons_succ, List.getElem_toArray, List.getElem_cons_zero, List.getElem_cons_succ]
          refine' wpAnyZ_take (i := 5) (oi := _) (v := _) rfl (by kernel_rfl) (by kernel_rfl) (by kernel_rfl) (by kernel_rfl) (fun _ _ _ h => h) (Or.inl ⟨by rfl, ?hw5⟩) (by assumption) ?rezw5
          case hw5 => (intro w' hSw; (try dsimp only at hSw); go_simp; try with_reducible rfl)
          try simp only [Act.put, List.setIfInBounds_toArray, List.set_cons_zero, List.set_cons_succ, List.getElem_toArray, List.getElem_cons_zero, List.getElem_cons_succ]
          refine' wpAnyZ_take (i := 6) (oi := _) (v := _) rfl (by kernel_rfl) (by kernel_rfl) (by kernel_rfl) (by kernel_rfl) (fun _ _ _ h => h) (Or.inl ⟨by rfl, ?hw6⟩) (by assumption) ?rezw6
          case hw6 => (intro w' hSw; (try dsimp only at hSw); go_simp; try with_reducible rfl)
          try simp only [Act.put, List.setIfInBounds_toArray, List.set_cons_zero, List.set_cons_succ, List.getElem_toArray, List.getElem_cons_zero, List.getElem_cons_succ]
          refine' wpAnyZ_take (i := 7) (oi := _) (v := _) rfl (by kernel_rfl) (by kernel_rfl) (by kernel_rfl) (by kernel_rfl) (fun _ _ _ h => h) (Or.inl ⟨by rfl, ?hw7⟩) (by assumption) ?rezw7
          case hw7 => (intro w' hSw; (try dsimp only at hSw); go_simp; try with_reducible rfl)
          try simp only [Act.put, List.setIfInBounds_toArray, List.set_cons_zero, List.set_cons_succ, List.getElem_toArray, List.getElem_cons_zero, List.getElem_cons_succ]
          refine wpAnyZ_one (i := 2) (o := _) (by kernel_rfl) rfl (fun K hK => ?_)
          go_simp
          refine hK.out _ _ ?_ (fun hHeld => ?_)
          · exact K2 _ ((Below.refl _ wv).alloc (Nat.le_refl _) _).drew
          clear hK K
          try simp only [Act.put, List.setIfInBounds_toArray, List.set_cons_zero, List.set_cons_succ, List.getElem_toArray, List.getElem_cons_zero, List.getElem_cons_succ]
          have hba : Below wv.heap.size wv (wv.alloc (.cells #[] 5)).drew := ((Below.refl _ wv).alloc (Nat.le_refl _) _).drew
          have HOL := Lib.hid (show OwnB ((wv.alloc (.cells #[] 5)).drew) wv.heap.size (some ⟨wv.heap.size, 0, none⟩) 0 0 [] from OwnB.lit wv #[] [] _ 0 rfl rfl (Nat.le_refl _) (by decide))
          obtain ⟨WA, hWA⟩ : ∃ W, W = (wv.alloc (.cells #[] 5)).drew := ⟨_, rfl⟩
          rw [← hWA] at HOL hba ⊢
          clear hWA hcut
          refine wpAnyZ_one (i := 8) (o := _) (by kernel_rfl) rfl (fun K hK => ?_)
          refine step_append rfl (.tmp 108) (.tmp 113) rfl wv.heap.size _ _ _ [] rfl HOL.out DA2 m (c - (q + 2)) (cOf L D j) rfl HCLN.out (HCELL.out.keep hba) (by omega) hba.size ?_
          intro BA bc wb hownb _ hbb
          simp only [List.nil_append, Nat.zero_add] at hownb ⊢
          have hbvb : Below wv.heap.size wv wb := hba.trans hbb
          have HOB := Lib.hid hownb
          clear hownb hbb
          refine hK.out _ _ ?_ (fun hHeld => ?_)
          · exact K2 _ hbvb
          clear hK K
          try simp only [Act.put, List.setIfInBounds_toArray, List.set_cons_zero, List.set_cons_succ, List.getElem_toArray, List.getElem_cons_zero, List.getElem_cons_succ]
          clear hba HOL
          refine wpAnyZ_one (i := 9) (o := _) (by kernel_rfl) rfl (fun K hK => ?_)
          go_simp
          refine hK.out _ _ ?_ (fun hHeld => ?_)
          · exact K2 _ (hbvb.alloc hbvb.size _)
          clear hK K
          try simp only [Act.put, List.setIfInBounds_toArray, List.set_cons_zero, List.set_cons_succ, List.getElem_toArray, List.getElem_cons_zero, List.getElem_cons_succ]
          have hbb2 : Below wb.heap.size wb (wb.alloc (.cells #[.slice BA m bc] 29)) := (Below.refl _ _).alloc (Nat.le_refl _) _
          have HWASb := Lib.hid ((HWASv.out.keep hbvb).keep hbb2)
          have HOBb := Lib.hid (HOB.out.keep hbb2)
          have hzb : wv.heap.size ≤ wb.heap.size := hbvb.size
          refine wpAnyZ_one (i := 10) (o := _) (by kernel_rfl) rfl (fun K hK => ?_)
          refine step_append_g 30 29 (.slice none 0 0) 24 Try.underlying30 info_sl rfl (by omega) rfl (.tmp 107) (.tmp 115) rfl W9.heap.size rv.CA j rv.cc (rowC rj.S) rfl (by rw [HRVC.out.1, HRVC.out.2.1]; exact HWASb.out.own) _ 1 1 [.slice BA m bc] rfl rfl (RdG.one wb _ _ [] (by simp)) (by intro u hu; simp at hu; subst hu; rfl) (by omega) (by simp; omega) ?_
          intro CA' cc' wc hownc hbc hkc
          have hkc' : Kept (wb.alloc (.cells #[.slice BA m bc] 29)) rj.CA wc CA' := by rw [← HRVC.out.1]; exact hkc
          have HWASc := Lib.hid (show Was wc W9.heap.size CA' (j + 1) cc' (rj.S ++ [⟨BA, m, bc⟩]) ((List.range (j + 1)).map (cOf L D)) by
            refine ⟨?_, by simp [HWASb.out.len], fun i hi => ?_⟩
            · rw [rowC_app]; exact hownc
            · by_cases hik : i < j
              · obtain ⟨s, h1, h2⟩ := HWASb.out.rows i hik
                refine ⟨s, by rw [List.getElem?_append_left (by rw [HWASb.out.len]; exact hik)]; exact h1, ?_⟩
                have e1 : ((List.range (j + 1)).map (cOf L D)).getD i [] = ((List.range j).map (cOf L D)).getD i [] := by simp [hik, hi]
                rw [e1]
                exact h2.kept hkc' (h2.apartG HWASb.out.own)
              · obtain rfl : i = j := by omega
                refine ⟨⟨BA, m, bc⟩, ?_, ?_⟩
                · rw [List.getElem?_append_right (by rw [HWASb.out.len]; exact Nat.le_refl _), HWASb.out.len, Nat.sub_self]; rfl
                · have e1 : ((List.range (i + 1)).map (cOf L D)).getD i [] = cOf L D i := by simp
                  rw [e1]
                  exact OwnB.mono (HOBb.out.kept hkc' (HOBb.out.apartG HWASb.out.own)) (by omega))
          have hbA : Below wv.heap.size wv (wb.alloc (.cells #[.slice BA m bc] 29)) := hbvb.trans (hbb2.mono hzb)
          have HKEEPI := Lib.hid (show OwnG 3 wc W9.heap.size PA' (j + 1) pc' (natC ((List.range (j + 1)).map (pOf L D))) from ⟨(HOWNv.out.keep hbA).1, ownsRow_kept (HOWNv.out.keep hbA).2 hkc' (rows_apart (by decide) (HOWNv.out.keep hbA).2 HWASb.out.own.2)⟩)
          have hblk : ∀ i, i < W9.heap.size → wc.heap[i]? = wv.heap[i]? := fun i hi => (hbc.block i hi).trans (hbA.block i (by omega))
          have hbvc : Below wv.heap.size wv wc → True := fun _ => trivial
          have HATc := Lib.hid (show RpAt wc pb rv Mv from fun i u hu => by rw [← HATv.out i u hu]; simp [World.cell?, hblk pb hl1])
          have HTHc := Lib.hid (there_blk (hblk pb hl1) HTHv.out)
          have HROWc := Lib.hid (HROWv.out.ne (hblk tb hl2))
          have hszc : W9.heap.size ≤ wc.heap.size := by have := hbc.size; have := hbA.size; omega
          have hbelc : Below w.heap.size w wc := (hbelv.trans (hbA.mono hbelv.size)).trans (hbc.mono (by omega))
          have HFFRc := Lib.hid (show ∀ i, i < W9.heap.size → i ≠ pb → i ≠ tb → wc.heap[i]? = W9.heap[i]? from fun i h1 h2 h3 => (hblk i h1).trans (HFFRv.out i h1 h2 h3))
          have hKEY : Below wv.heap.size wv wc ∨ True := .inr trivial
          refine hK.out _ _ ?_ (fun hHeld => ?_)
          · have := HATc.out.all.2.2.1; rwa [HMk.out] at this
          clear hK K
          try simp only [Act.put, List.setIfInBounds_toArray, List.set_cons_zero, List.set_cons_succ, List.getElem_toArray, List.getElem_cons_zero, List.getElem_cons_succ]
          refine' wpAnyZ_take (i := 11) (oi := _) (v := _) rfl (by kernel_rfl) (by kernel_rfl) (by kernel_rfl) (by kernel_rfl) (fun _ _ _ h => h) (Or.inl ⟨by rfl, ?hw8⟩) (by assumption) ?rezw8
          case hw8 => (intro w' hSw; (try dsimp only at hSw); go_simp; try with_reducible rfl)
          try simp only [Act.put, List.setIfInBounds_toArray, List.set_cons_zero, List.set_cons_succ, List.getElem_toArray, List.getElem_cons_zero, List.getElem_cons_succ]
          clear K2 hblk hbc hkc hkc' hownc hbA hbvc hKEY hbb2 HWASb HOBb HOB hbvb HWASv HOWNv HATv HTHv HROWv HFFRv
          have m2 := HATc.out.all.2.2.1
          have hf2 := (HTHc.out 2 (by decide)).2
          rw [Nat.zero_add] at hf2
          refine wpAnyZ_last (o := _) (by kernel_rfl) rfl (by kernel_rfl) (fun K hK => ?_)
          go_simp
          refine hK _ _ ?_
          clear hK K
          try simp only [Act.put, List.setIfInBounds_toArray, List.set_cons_zero, List.set_cons_succ, List.getElem_toArray, List.getElem_cons_zero, List.getElem_cons_succ]
          clear m2 hf2
          obtain ⟨wd, hwd⟩ : ∃ W, W = wc.setCell ⟨pb, 2, none⟩ (.slice CA' (j + 1) cc') := ⟨_, rfl⟩
          rw [← hwd]
          have eC : ((List.range (j + 1)).map (cOf L D)).length = j + 1 := by simp
          have hed : ∀ k, k ≠ pb → k < wc.heap.size → wd.heap[k]? = wc.heap[k]? := fun k hk _ => by rw [hwd]; exact heap_setG_ne _ _ _ hk
          have HFIN := Lib.hid (show OfSt w W9 wd W9.heap.size pb tb L D (j + 1) FA fc { rv with CA := CA', cc := cc', S := rj.S ++ [⟨BA, m, bc⟩] } from by
            have hat := HATc.out.setC CA' cc' ((List.range (j + 1)).map (cOf L D)) (rj.S ++ [⟨BA, m, bc⟩])
            rw [eC, ← hwd] at hat
            have eM : ({ Mv with C := (List.range (j + 1)).map (cOf L D) } : Mdl) = Mo L D (j + 1) := by rw [HMV.out]; rfl
            rw [eM] at hat
            have hrp : rv.PA = PA' ∧ rv.pc = pc' ∧ rv.FA = rj.FA ∧ rv.fc = rj.fc := by rw [HRV.out]; exact ⟨rfl, rfl, rfl, rfl⟩
            refine ⟨hat, by rw [hwd]; exact there_setG HTHc.out _ _, ⟨hrp.2.2.1.trans HFA.out.1, hrp.2.2.2.trans HFA.out.2⟩, HWASc.out.ne hed hl1, ?_, HROWc.out.ne (hed tb (Ne.symm hl3) (by omega)), fun k h1 h2 h3 => (hed k h2 (by omega)).trans (HFFRc.out k h1 h2 h3), by rw [hwd, size_setG]; exact hszc, by rw [hwd]; exact hbelc.setCell (by show w.heap.size ≤ pb; exact hl4) _, hl1, hl2, hl3, hl4, hl5⟩
            show OwnG 3 wd W9.heap.size rv.PA (j + 1) rv.pc _
            rw [hrp.1, hrp.2.1]
            exact ⟨HKEEPI.out.1, ownsRow_ne HKEEPI.out.2 hed hl1⟩)
          clear hwd hed eC
          go_wp2_with fail
          go_roundw
          case rel =>
            refine ⟨j + 1, _, by rw [HK.out]; omega, by go_num, HFIN.out, fun t ht => ?_, fun x => by rw [← HCN.out]; exact HON.out x⟩
            rw [HK.out]
            by_cases e : t = j
            · rw [e, HQ.out, HML.out, HN.out]; exact ⟨hlo, hqm⟩
            · exact HLIM.out t (by omega)
          case measure => simp [intOf]; omega
    · obtain rfl : j = Kn := by omega
      have HG := Lib.hid (show Good (mdlOf L D) from good_of HB.out HMY.out (by rw [HK.out, HN.out]; exact hfit') (fun t ht => by rw [HK.out] at ht ⊢; exact HLIM.out t ht) (fun x => by rw [HK.out]; exact HONCE.out x))
      have HATm := Lib.hid (show RpAt wr pb rj (mdlOf L D) by rw [← Mo_all, HK.out]; exact HS.out.at_)
      have hFR : RdG wr (w.heap.size :: bad) FA (vb (L.take D)) := by
        rcases (HO9.out.rdG (bad := []) (by simp)) with h | ⟨b, off, hAe, _, hc⟩
        · exact .inl h
        · obtain ⟨h1, h2⟩ := HFAT.out _ hAe
          simp only at h1 h2
          refine .inr ⟨b, off, hAe, fun hm => ?_, fun i u hu => ?_⟩
          · rcases List.mem_cons.1 hm with e | e
            · omega
            · have := HBAD.out b e; omega
          · rw [← hc i u hu]
            simp [World.cell?, HS.out.fr b (by omega) (by omega) (by omega)]
      have hbb : ∀ g ∈ w.heap.size :: bad, g < W9.heap.size := fun g hg => by
        rcases List.mem_cons.1 hg with e | e
        · omega
        · have := HBAD.out g e; omega
      have HV := Lib.hid (show RefV wr (w.heap.size :: bad) (mdlOf L D) rj by
        rw [← Mo_all, HK.out]
        refine ⟨by rw [HS.out.fa.1]; exact hFR, ?_, HS.out.cells.own.rd hbb, HS.out.cells.rows2 hbb (by simp), ?_, HS.out.places.rd hbb, ?_⟩
        · rw [Mo_h HLD.out, HS.out.fa.2]; exact HO9.out.cap
        · rw [Mo_k]; exact HS.out.cells.own.cap
        · rw [Mo_P]; exact HS.out.places.cap)
      have HTRr := Lib.hid (show wr.there w.heap.size 0 4 from there_blk (HS.out.fr w.heap.size (by omega) (by omega) (by omega)) HT9.out)
      have hbr := HS.out.bel
      have hrs : w.heap.size < wr.heap.size := by have := HS.out.size; omega
      clear hFR hbb HS HLIM HONCE HO9 HFAT hrbe
      go_upto_region 24 with fail
      go_step
      refine wp_load_rp rfl _ rfl pb rj (mdlOf L D) rfl HATm.out ?_
      go_wp2_with fail
      refine (rBytes_any _ (w.heap.size :: bad) (mdlOf L D) rj HV.out HG.out _ rfl).mono ?_
      rintro e w11 ⟨L11, hi11, A11, n11, c11, rfl, hown11, hb11⟩
      have HI11 := Lib.hid hi11
      have HO11 := Lib.hid hown11
      have hbr11 : Below w.heap.size w w11 := hbr.trans (hb11.mono hbr.size)
      have hz11 := hb11.size
      have HTR11 := Lib.hid (there_keepR HTRr.out hb11 hrs)
      have HAT11 := Lib.hid (HATm.out.keep hb11)
      have HV11 := Lib.hid (HV.out.keep hb11)
      clear hi11 hown11 hb11 HTRr HATm HV
      go_wp2_with fail
      refine (same1_any _ A11 A n11 c11 n c L11 L HO11.out.len HN.out (by have := HO11.out.cap; unfold maxLen at this; omega) HO11.out.rd (HA.out.keep hbr11)).mono ?_
      rintro e w12 ⟨rfl, hb12⟩
      have hbr12 : Below w.heap.size w w12 := hbr11.trans (hb12.mono hbr11.size)
      have HTR12 := Lib.hid (there_keepR HTR11.out hb12 (by omega))
      have HAT12 := Lib.hid (HAT11.out.keep hb12)
      have HV12 := Lib.hid (HV11.out.keep hb12)
      clear hb12 HTR11 HAT11 HV11 HO11
      by_cases hLL : L11 = L
      · have HOFP := Lib.hid (show ofP L D from ⟨HG.out, hLL ▸ HI11.out⟩)
        rw [(beqL_iff _ _).2 hLL]
        clear hLL
        go_upto_region 26 with fail
        go_step
        refine wp_load_rp rfl _ rfl pb rj (mdlOf L D) rfl HAT12.out ?_
        refine wp_store_rp rfl _ _ rfl w.heap.size rj (mdlOf L D) rfl rfl HTR12.out ?_
        repeat go_step
        refine ret_rp rfl rfl (RpAt.stored HTR12.out rj (mdlOf L D)) rfl ?_
        rw [HRR.out]
        have hbe : Below w.heap.size w (w12.setCells w.heap.size 0 (rpC rj (mdlOf L D))) := below_setCellsR hbr12 (Nat.le_refl _) _ _
        refine ⟨hbe, rj, mdlOf L D, 0, rfl, ?_, .inr (.inr ⟨HMY.out, HOFP.out, rfl, rfl⟩)⟩
        exact RefV.frame (bad' := w.heap.size :: bad) HV12.out (fun i hi _ => heap_setCells_ne _ _ _ _ (fun e => hi (by rw [e]; exact List.mem_cons_self ..))) (fun g hg => List.mem_cons_of_mem _ hg)
      · have HF := Lib.hid (show ¬ ofP L D from fun o => hLL (IsP.eq HG.out HI11.out o.2))
        rw [(beqL_no _ _).2 hLL]
        clear hLL
        go_upto_region 25 with fail
        iterate 4 go_step
        refine wp_store_rp rfl _ _ rfl w.heap.size zeroRV zeroM rfl rfl HTR12.out ?_
        repeat go_step
        refine ret_rp rfl rfl (RpAt.stored HTR12.out zeroRV zeroM) rfl ?_
        rw [HRR.out]
        have hbe : Below w.heap.size w (w12.setCells w.heap.size 0 (rpC zeroRV zeroM)) := below_setCellsR hbr12 (Nat.le_refl _) _ _
        exact ⟨hbe, zeroRV, zeroM, 14, rfl, zero_ref _ _, .inr (.inl ⟨HMY.out, HF.out, rfl, rfl⟩)⟩
end
end Go.Proofs.Ytoeaffmlolapnaa
