/- The document's page of bytes: what is wanted of it. -/
import Derived.Test.YtoeaffmlolapnaaSrL
import Derived.Test.YtoeaffmlolapnaaSrK
namespace Go.Proofs.Ytoeaffmlolapnaa
open Go.RowKit
set_option maxRecDepth 100000
set_option linter.unusedVariables false
set_option linter.unusedSimpArgs false
set_option linter.unnecessarySimpa false

theorem good_of {L : List Int} {h : Nat} (hB : IsB L) (hm : mayP (L.length : Int) (h : Int)) (ha : h + 2 + 2 * kOf L h ≤ L.length)
    (hb : ∀ j, j < kOf L h → h + 2 + 2 * kOf L h ≤ pOf L h j ∧ pOf L h j + 2 + lOf L (pOf L h j) ≤ L.length)
    (hcv : ∀ x, cnt L h (kOf L h) x ≤ 1) : Good (mdlOf L h) := by
  obtain ⟨n0, n1, _, h1⟩ := hm
  have hh : (mdlOf L h).h = h := mdlOf_h (by omega)
  have hk := mdlOf_k L h
  have hus : ∀ j, (mdlOf L h).used j = h + 2 + 2 * j := fun j => by unfold Mdl.used; rw [hh]
  have hn : (mdlOf L h).n = L.length := rfl
  have hlen : ∀ j, j < kOf L h → ((mdlOf L h).cl j).length = lOf L (pOf L h j) := fun j hj => by rw [mdlOf_cl hj]; exact cOf_len (hb j hj).2
  refine ⟨?_, ?_, ?_, ?_, ?_, fun j hj => ?_, fun j hj => ?_, fun i j hij hj => ?_, fun x hx => hB x (List.mem_of_mem_take hx), fun c hc' => ?_, ?_⟩
  · rw [hn]; omega
  · rw [hn]; omega
  · rw [hh]; omega
  · simp [mdlOf, Mdl.k]
  · rw [hus, hk, hn]; exact ha
  · rw [hk] at hj
    rw [hus, hk, mdlOf_pl hj]; exact (hb j hj).1
  · rw [hk] at hj
    rw [mdlOf_pl hj, hlen j hj, hn]; exact (hb j hj).2
  · rw [hk] at hj
    rw [mdlOf_pl hj, mdlOf_pl (show i < kOf L h by omega), hlen j hj, hlen i (by omega)]
    refine apart_of fun x hx => ?_
    have := cnt_pair hij hj hx.1 hx.2
    have := hcv x
    omega
  · obtain ⟨j, _, rfl⟩ := List.mem_map.1 hc'
    exact isB_dt hB _ _
  · rw [hus, hk, hn]
    have e := sum_cnt L h (kOf L h) fun j hj => (hb j hj).2
    have e2 : sumN (cnt L h (kOf L h)) L.length ≤ L.length - (h + 2 + 2 * kOf L h) := by
      refine sumN_le _ _ _ (fun x _ => hcv x) fun x hx _ => ?_
      by_cases h0 : cnt L h (kOf L h) x = 0
      · exact h0
      · exfalso
        obtain ⟨j, hj, hcj⟩ := cnt_pos (show 1 ≤ cnt L h (kOf L h) x by omega)
        have := (hb j hj).1
        unfold covers at hcj
        omega
    rw [e] at e2
    show h + 2 + 2 * kOf L h + sz ((List.range (kOf L h)).map (cOf L h)) ≤ L.length
    omega

/-! ### rows of unlike things do not share a block -/
theorem rows_apart {w : World} {b1 b2 n1 c1 n2 c2 m1 m2 : Nat} {A1 A2 : Option Addr} {E1 E2 : TypeId} {vs us : List Value} (hE : E1 ≠ E2) (h : w.ownsRow b1 E1 1 (.slice A1 n1 c1) m1 vs) (k : w.ownsRow b2 E2 1 (.slice A2 n2 c2) m2 us) : ∀ b, A1 = some b → ∀ a, A2 = some a → a.block ≠ b.block := by
  intro b hb a ha e
  rcases h.2 with ⟨hv, _⟩ | ⟨g, cap, cur, hv, hbg, hgg, rest⟩
  · injection hv with e1; rw [e1] at hb; cases hb
  · injection hv with e1
    rw [e1] at hb
    injection hb with hb
    subst hb
    rcases k.2 with ⟨hv2, _⟩ | ⟨g2, cap2, cur2, hv2, hbg2, hgg2, rest2⟩
    · injection hv2 with e2; rw [e2] at ha; cases ha
    · injection hv2 with e2
      rw [e2] at ha
      injection ha with ha
      subst ha
      have e : g2 = g := e
      subst e
      rw [hgg] at hgg2
      injection hgg2 with q
      injection q with _ q2 _
      exact absurd q2 hE
theorem ownsRow_kept {w w' : World} {A A' B : Option Addr} {E : TypeId} {base n c m : Nat} {vs : List Value} (h : w.ownsRow base E 1 (.slice B n c) m vs) (hk : Kept w A w' A') (hne : ∀ b, B = some b → ∀ a, A = some a → a.block ≠ b.block) : w'.ownsRow base E 1 (.slice B n c) m vs := by
  refine ⟨h.1, ?_⟩
  rcases h.2 with hv | ⟨g, cap, cur, hv, hbg, hg, rest⟩
  · exact .inl hv
  · have e : B = some ⟨g, 0, none⟩ := by injection hv
    exact .inr ⟨g, cap, cur, hv, hbg, (hk.1 g (Array.getElem?_eq_some_iff.1 hg).1 (fun a ha => hne _ e a ha)).trans hg, rest⟩
theorem ownsRow_ne {w w' : World} {B : Option Addr} {E : TypeId} {base n c m t : Nat} {vs : List Value} (h : w.ownsRow base E 1 (.slice B n c) m vs) (e : ∀ k, k ≠ t → k < w.heap.size → w'.heap[k]? = w.heap[k]?) (ht : t < base) : w'.ownsRow base E 1 (.slice B n c) m vs := by
  refine ⟨h.1, ?_⟩
  rcases h.2 with hv | ⟨g, cap, cur, hv, hbg, hg, rest⟩
  · exact .inl hv
  · exact .inr ⟨g, cap, cur, hv, hbg, (e g (by omega) (Array.getElem?_eq_some_iff.1 hg).1).trans hg, rest⟩
theorem Was.ne {w w' : World} {base j cB t : Nat} {B : Option Addr} {S : List Sl} {C : List (List Int)} (h : Was w base B j cB S C) (e : ∀ k, k ≠ t → k < w.heap.size → w'.heap[k]? = w.heap[k]?) (ht : t < base) : Was w' base B j cB S C :=
  ⟨⟨h.own.1, ownsRow_ne h.own.2 e ht⟩, h.len, fun i hi => by obtain ⟨s, h1, h2⟩ := h.rows i hi; exact ⟨s, h1, ownsRow_ne h2 e ht⟩⟩
/-- Another row grows. -/
theorem Was.grow {w w' : World} {base b2 j cB n2 c2 : Nat} {B A2 A2' : Option Addr} {S : List Sl} {C : List (List Int)} {us : List Value} (h : Was w base B j cB S C) (k : OwnG 3 w b2 A2 n2 c2 us) (hk : Kept w A2 w' A2') : Was w' base B j cB S C :=
  ⟨⟨h.own.1, ownsRow_kept h.own.2 hk (rows_apart (by decide) h.own.2 k.2)⟩, h.len, fun i hi => by
    obtain ⟨s, h1, h2⟩ := h.rows i hi
    exact ⟨s, h1, ownsRow_kept h2 hk (rows_apart (by decide) h2 k.2)⟩⟩
theorem Was.rows2 {w : World} {base B j cB S C} (h : Was w base B j cB S C) {bad : List Nat} (hb : ∀ g ∈ bad, g < base) (hC : C.length = j) : Rows2 w bad S C := by
  have hl : S.length = C.length := by rw [h.len, hC]
  have hr : ∀ i, i < C.length → ∃ s, S[i]? = some s ∧ SlIs w bad s (C.getD i []) := fun i hi => by
    obtain ⟨s, h1, h2⟩ := h.rows i (by omega)
    exact ⟨s, h1, h2.len.symm, h2.cap.1, h2.cap.2, h2.rdG hb⟩
  clear h hC
  induction S generalizing C with
  | nil =>
    cases C with
    | nil => trivial
    | cons c C => simp at hl
  | cons s S ih =>
    cases C with
    | nil => simp at hl
    | cons c C =>
      refine ⟨?_, ih (by simpa using hl) fun i hi => ?_⟩
      · obtain ⟨s', h1, h2⟩ := hr 0 (by simp)
        have e : s = s' := by simpa using h1
        rw [e]
        simpa using h2
      · obtain ⟨s', h1, h2⟩ := hr (i + 1) (by simpa using hi)
        exact ⟨s', by simpa using h1, by simpa using h2⟩
/-- A row of bools. -/
def BRow (w : World) (g n : Nat) (f : Nat → Bool) : Prop := ∀ x, x < n → w.cell? ⟨g, x, none⟩ = some (.bool (f x)) ∧ w.frozen? ⟨g, x, none⟩ = false
theorem BRow.ne {w w' : World} {g n : Nat} {f : Nat → Bool} (h : BRow w g n f) (e : w'.heap[g]? = w.heap[g]?) : BRow w' g n f := fun x hx => by
  obtain ⟨h1, h2⟩ := h x hx
  refine ⟨?_, ?_⟩
  · rw [← h1]; simp [World.cell?, e]
  · rw [← h2]; simp [World.frozen?, e]
theorem BRow.set {w : World} {g n : Nat} {f : Nat → Bool} (h : BRow w g n f) {k : Nat} (hk : k < n) (v : Bool) : BRow (w.setCell ⟨g, k, none⟩ (.bool v)) g n (fun x => if x = k then v else f x) := fun x hx => by
  obtain ⟨h1, h2⟩ := h x hx
  refine ⟨?_, by rw [World.frozen?_setCell]; exact h2⟩
  dsimp only
  by_cases e : x = k
  · subst e
    rw [if_pos rfl, World.cell?_setCell_same _ _ _ h1]
  · rw [if_neg e, World.cell?_setCell_other _ _ _ _ (by first | (simp; done) | (simp; omega))]; exact h1
theorem BRow.congr {w : World} {g n : Nat} {f f' : Nat → Bool} (h : BRow w g n f) (e : ∀ x, x < n → f x = f' x) : BRow w g n f' := fun x hx => by rw [← e x hx]; exact h x hx
theorem info_bool9 : (Try.prog.info? 4).map (fun i => (i.zero, i.size, i.bytes)) = some (some (.bool false), 1, 1) := by kernel_rfl
def zrb (n : Nat) : Array Value := madeCells (Value.cells (.bool false)) n
theorem run_mkb (n : Nat) (hn : n ≤ 100000) (w : World) :
    (Instr.makeSlice 102 (.int .i64 (n : Int)) (.int .i64 (n : Int))).run Try.prog w = .ok (.slice (some ⟨w.heap.size, 0, none⟩) n n) (w.alloc (.cells (zrb n) 4)) := by
  obtain ⟨i, hi, hz, hsz, hby⟩ := info_parts info_bool9
  have h := run_make (P := Try.prog) w 102 4 i (.bool false) Try.underlying102 hi hz .i64 .i64 n n (by omega) (by omega) (by rw [hby]; omega) (by omega)
  simpa [hsz, zrb] using h
theorem BRow.made (w : World) (n : Nat) : BRow (w.alloc (.cells (zrb n) 4)) w.heap.size n (fun _ => false) := fun x hx => by
  refine ⟨?_, ?_⟩
  · rw [heap_cell (heap_alloc_new w _)]
    simp [zrb, madeCells, Value.cells, hx, Nat.mod_one]
  · simp [go_sem]
set_option maxHeartbeats 4000000 in
theorem two9_any (w : World) (A : Option Addr) (n c : Nat) (L : List Int) (hn : L.length = n) (hnm : n ≤ 1000000) (hA : Rd w A L) (hB : IsB L) (i : Nat) (hi : i + 2 ≤ n) :
    Calls Try.prog 65 #[.slice A n c, .int .i64 (i : Int)] w fun e w' => e = .returned (.int .i64 (tw L i)) ∧ Below w.heap.size w w' := by
  obtain ⟨b, off, rfl, _, hc⟩ := hA.at (by omega)
  have h0 := IsB.bt hB i
  have h1 := IsB.bt hB (i + 1)
  have c0 := hc i (by omega)
  have c1 := hc (i + 1) (by omega)
  have HT := Lib.hid (show tw L i = 256 * bt L i + bt L (i + 1) from rfl)
  obtain ⟨x, hx⟩ : ∃ x, bt L i = x := ⟨_, rfl⟩
  obtain ⟨y, hy⟩ : ∃ y, bt L (i + 1) = y := ⟨_, rfl⟩
  rw [hx] at c0 h0 HT
  rw [hy] at c1 h1 HT
  have i0 : (0 : Int) ≤ (i : Int) := by omega
  have hlt : b < w.heap.size := World.block_lt_of_cell? w ⟨b, off + i, none⟩ c0
  clear hc hx hy hA hB hn
  go_enter Try.func65, Try.ntmps65
  have e1 : IntKind.i64.wrap (256 * x) = 256 * x := IntWalk.i64_in _ (by omega)
  have e2 : IntKind.i64.wrap (256 * x + y) = 256 * x + y := IntWalk.i64_in _ (by omega)
  have e3 : IntKind.i64.wrap x = x := IntWalk.i64_in _ (by omega)
  have e4 : IntKind.i64.wrap y = y := IntWalk.i64_in _ (by omega)
  have e5 : IntKind.i64.wrap ((i : Int) + 1) = (i : Int) + 1 := IntWalk.i64_in _ (by omega)
  go_upto_region 1 with fail
  go_quiet (fail)
  go_wp2_with fail
  go_ret
  exact ⟨ret_int (by rw [HT.out]), below_drewN (Below.refl _ _) nq⟩

set_option maxHeartbeats 4000000 in
theorem rused_h (w : World) (M : Mdl) (r : RV) (hh : M.h ≤ 64) (i : Int) (i0 : -70000 ≤ i) (i1 : i ≤ 70000) :
    Calls Try.prog 66 #[r.val M, .int .i64 i] w fun e w' => e = .returned (.int .i64 ((M.h : Int) + 2 + 2 * i)) ∧ Below w.heap.size w w' := by
  obtain ⟨W0, hW0⟩ : ∃ W, W = w.alloc (.cells #[.int .i64 (M.n : Int), .slice r.FA M.h r.fc, .slice r.CA M.k r.cc, .slice r.PA M.P.length r.pc] 33) := ⟨_, rfl⟩
  have hB0 : Below w.heap.size w W0 := by rw [hW0]; exact (Below.refl _ _).alloc (Nat.le_refl _) _
  have hR0 : RpAt W0 w.heap.size r M := by rw [hW0]; exact RpAt.made w r M _
  obtain ⟨m0, m1, m2, m3⟩ := hR0.all
  have HW := Lib.hid hW0
  clear hW0 hR0 m0 m2 m3
  unfold RV.val
  go_enter Try.func66, Try.ntmps66
  go_upto_region 1 with fail
  rw [← HW.out]
  clear HW
  go_wp2_with fail
  go_ret
  exact ⟨rfl, hB0⟩
def NewFull (w : World) (N D : Nat) (e : Ending) (w' : World) : Prop := ∃ FA fc, e = .returned (.tuple #[(⟨FA, fc, none, 0, none, 0, []⟩ : RV).val (newM N D), .int .i64 0]) ∧ Below w.heap.size w w'
set_option maxHeartbeats 8000000 in
theorem rNew_full (w : World) (N D : Nat) (hm : mayP (N : Int) (D : Int)) (R : Ending → World → Prop) (hR : R = NewFull w N D) :
    Calls Try.prog 18 #[.int .i64 (N : Int), .int .i64 (D : Int)] w R := by
  have HR := Lib.hid hR; clear hR
  obtain ⟨W1, hW1⟩ : ∃ W, W = w.alloc (.cells #[.int .i64 0, .slice none 0 0, .slice none 0 0, .slice none 0 0] 33) := ⟨_, rfl⟩
  have hb1 : Below w.heap.size w W1 := by rw [hW1]; exact (Below.refl _ _).alloc (Nat.le_refl _) _
  have hT1 : W1.there w.heap.size 0 4 := by rw [hW1]; exact there_new4 w _ _ _ _ _
  have HT1 := Lib.hid hT1
  have HW := Lib.hid hW1
  clear hW1 hT1
  obtain ⟨h1, h2, h3, h4⟩ := hm
  have hD : D ≤ 64 := by omega
  have hmk := run_mk D D (Nat.le_refl _) (by omega)
  obtain ⟨W2, hW2⟩ : ∃ W, W = W1.alloc (.cells (zrs D) 5) := ⟨_, rfl⟩
  have hb2 : Below W1.heap.size W1 W2 := by rw [hW2]; exact (Below.refl _ _).alloc (Nat.le_refl _) _
  have hz1 := hb1.size
  have hl1 : w.heap.size < W1.heap.size := by rw [HW.out]; simp
  have HT2 := Lib.hid (there_keepR HT1.out hb2 hl1)
  have HW2 := Lib.hid hW2
  clear hW2
  obtain ⟨r, hr⟩ : ∃ r : RV, r = ⟨some ⟨W1.heap.size, 0, none⟩, D, none, 0, none, 0, []⟩ := ⟨_, rfl⟩
  have HVAL := Lib.hid (show Value.agg #[.int .i64 (N : Int), .slice (some ⟨W1.heap.size, 0, none⟩) D D, .slice none 0 0, .slice none 0 0] = r.val (newM N D) by rw [hr]; simp [RV.val, newM, Mdl.h, Mdl.k])
  have HRE := Lib.hid hr
  clear hr
  go_enter Try.func18, Try.ntmps18
  go_upto_region 1 with fail
  rw [← HW.out]
  clear HW
  go_upto_region 3 with fail
  iterate 13 go_step
  clear hmk
  rw [← HW2.out]
  clear HW2
  refine wp_store_rp rfl _ _ rfl w.heap.size r (newM N D) rfl HVAL.out HT2.out ?_
  repeat go_step
  refine ret_rp rfl rfl (RpAt.stored HT2.out r (newM N D)) rfl ?_
  rw [HR.out]
  have hbe : Below w.heap.size w (W2.setCells w.heap.size 0 (rpC r (newM N D))) := below_setCellsR (hb1.trans (hb2.mono hz1)) (Nat.le_refl _) _ _
  exact ⟨some ⟨W1.heap.size, 0, none⟩, D, by rw [HRE.out]; rfl, hbe⟩

/-! ### the loop -/
def Mo (L : List Int) (D j : Nat) : Mdl := ⟨L.length, L.take D, (List.range j).map (cOf L D), (List.range j).map (pOf L D)⟩
theorem Mo_h {L : List Int} {D j : Nat} (h : D ≤ L.length) : (Mo L D j).h = D := by simp [Mo, Mdl.h]; omega
theorem Mo_k (L : List Int) (D j : Nat) : (Mo L D j).k = j := by simp [Mo, Mdl.k]
theorem Mo_P (L : List Int) (D j : Nat) : (Mo L D j).P.length = j := by simp [Mo]
theorem Mo_all (L : List Int) (D : Nat) : Mo L D (kOf L D) = mdlOf L D := rfl
structure OfSt (w w5 wr : World) (base pb tb : Nat) (L : List Int) (D j : Nat) (FA : Option Addr) (fc : Nat) (r : RV) : Prop where
  at_ : RpAt wr pb r (Mo L D j)
  there : wr.there pb 0 4
  fa : r.FA = FA ∧ r.fc = fc
  cells : Was wr base r.CA j r.cc r.S ((List.range j).map (cOf L D))
  places : OwnG 3 wr base r.PA j r.pc (natC ((List.range j).map (pOf L D)))
  row : BRow wr tb L.length (fun x => decide (0 < cnt L D j x))
  fr : ∀ k, k < base → k ≠ pb → k ≠ tb → wr.heap[k]? = w5.heap[k]?
  size : base ≤ wr.heap.size
  bel : Below w.heap.size w wr
  lt : pb < base ∧ tb < base ∧ pb ≠ tb ∧ w.heap.size ≤ pb ∧ w.heap.size ≤ tb
theorem OfSt.keep {w w5 wr w' : World} {base pb tb : Nat} {L : List Int} {D j : Nat} {FA : Option Addr} {fc : Nat} {r : RV} (s : OfSt w w5 wr base pb tb L D j FA fc r) (hb : Below wr.heap.size wr w') : OfSt w w5 w' base pb tb L D j FA fc r := by
  have hsz := s.size
  have hlt := s.lt
  exact ⟨s.at_.keep hb, there_keepR s.there hb (by omega), s.fa, s.cells.keep hb, s.places.keep hb, s.row.ne (hb.block tb (by omega)), fun k h1 h2 h3 => (hb.block k (by omega)).trans (s.fr k h1 h2 h3), by have := hb.size; omega, s.bel.trans (hb.mono s.bel.size), hlt⟩
/-- Bools were set. -/
theorem OfSt.frame {w w5 wr w' : World} {base pb tb : Nat} {L : List Int} {D j : Nat} {FA : Option Addr} {fc : Nat} {r : RV} (s : OfSt w w5 wr base pb tb L D j FA fc r) (e : ∀ k, k ≠ tb → k < wr.heap.size → w'.heap[k]? = wr.heap[k]?) (hs : wr.heap.size ≤ w'.heap.size) (hb : Below w.heap.size w w') :
    RpAt w' pb r (Mo L D j) ∧ w'.there pb 0 4 ∧ Was w' base r.CA j r.cc r.S ((List.range j).map (cOf L D)) ∧ OwnG 3 w' base r.PA j r.pc (natC ((List.range j).map (pOf L D))) ∧ (∀ k, k < base → k ≠ pb → k ≠ tb → w'.heap[k]? = w5.heap[k]?) ∧ base ≤ w'.heap.size := by
  have hsz := s.size
  have hlt := s.lt
  have ep := e pb hlt.2.2.1 (by omega)
  refine ⟨fun i u hu => ?_, there_blk ep s.there, s.cells.ne e hlt.2.1, ⟨s.places.1, ownsRow_ne s.places.2 e hlt.2.1⟩, fun k h1 h2 h3 => (e k h3 (by omega)).trans (s.fr k h1 h2 h3), by omega⟩
  rw [← s.at_ i u hu]
  simp [World.cell?, ep]
theorem RpAt.setF {w : World} {g : Nat} {r : RV} {M : Mdl} (h : RpAt w g r M) (B : Option Addr) (c : Nat) (F : List Int) : RpAt (w.setCell ⟨g, 1, none⟩ (.slice B F.length c)) g { r with FA := B, fc := c } { M with F := F } := by
  obtain ⟨m0, m1, m2, m3⟩ := h.all
  intro i u hu
  have hi : i < 4 := (List.getElem?_eq_some_iff.1 hu).1
  rcases (by omega : i = 0 ∨ i = 1 ∨ i = 2 ∨ i = 3) with rfl | rfl | rfl | rfl
  · rw [World.cell?_setCell_other _ _ _ _ (by simp), m0]; exact hu
  · rw [World.cell?_setCell_same _ _ _ m1]; exact hu
  · rw [World.cell?_setCell_other _ _ _ _ (by simp), m2]; exact hu
  · rw [World.cell?_setCell_other _ _ _ _ (by simp), m3]; exact hu
end Go.Proofs.Ytoeaffmlolapnaa
