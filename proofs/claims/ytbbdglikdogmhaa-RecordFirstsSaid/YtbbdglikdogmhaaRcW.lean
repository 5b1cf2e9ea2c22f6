/- Walk: tomeref05.heads. A record's codes in a cell. -/
import Derived.Test.YtbbdglikdogmhaaRcV
import Derived.Test.YtbbdglikdogmhaaNumE
namespace Go.Proofs.Ytbbdglikdogmhaa
open Go.RowKit
set_option maxRecDepth 100000
set_option linter.unusedVariables false
set_option linter.unusedSimpArgs false
set_option linter.unnecessarySimpa false

def ptC (A : Option Addr) (m c : Nat) (p : Int) : List Value := [.slice A m c, .int .i64 p]
def PtAt (w : World) (g : Nat) (A : Option Addr) (m c : Nat) (p : Int) : Prop := w.cell? ⟨g, 0, none⟩ = some (.slice A m c) ∧ w.cell? ⟨g, 1, none⟩ = some (.int .i64 p)
theorem PtAt.keepB {w w' : World} {B g : Nat} {A : Option Addr} {m c : Nat} {p : Int} (h : PtAt w g A m c p) (hb : Below B w w') (hg : g < B) : PtAt w' g A m c p :=
  ⟨(hb.cell hg).trans h.1, (hb.cell hg).trans h.2⟩
theorem PtAt.range {w : World} {g : Nat} {A : Option Addr} {m c : Nat} {p : Int} (h : PtAt w g A m c p) : w.rangeAt g 0 (ptC A m c p) := fun j v hv => by
  rw [Nat.zero_add]
  have hj : j < 2 := (List.getElem?_eq_some_iff.1 hv).1
  rcases (by omega : j = 0 ∨ j = 1) with rfl | rfl
  · rw [h.1]; exact hv
  · rw [h.2]; exact hv
theorem PtAt.of {w : World} {g : Nat} {A : Option Addr} {m c : Nat} {p : Int} (h : w.rangeAt g 0 (ptC A m c p)) : PtAt w g A m c p := by
  have h0 := h 0 _ rfl
  have h1 := h 1 _ rfl
  exact ⟨by simpa using h0, by simpa using h1⟩
theorem PtAt.stored {w : World} {g : Nat} (h : w.there g 0 2) (A : Option Addr) (m c : Nat) (p : Int) : PtAt (w.setCells g 0 (ptC A m c p)) g A m c p := PtAt.of (World.rangeAt_setCells_same w g 0 _ h)
theorem PtAt.row {w : World} {g : Nat} {A : Option Addr} {m c : Nat} {p : Int} (h : PtAt w g A m c p) (B : Option Addr) (n d : Nat) : PtAt (w.setCell ⟨g, 0, none⟩ (.slice B n d)) g B n d p :=
  ⟨World.cell?_setCell_same _ _ _ h.1, (World.cell?_setCell_other _ _ _ _ (by simp)).trans h.2⟩
theorem PtAt.at' {w : World} {g : Nat} {A : Option Addr} {m c : Nat} {p : Int} (h : PtAt w g A m c p) (q : Int) : PtAt (w.setCell ⟨g, 1, none⟩ (.int .i64 q)) g A m c q :=
  ⟨(World.cell?_setCell_other _ _ _ _ (by simp)).trans h.1, World.cell?_setCell_same _ _ _ h.2⟩
theorem size_pt : (Try.prog.info? 68).map (·.size) = some 2 := by kernel_rfl
theorem one_pt (A : Option Addr) (m c : Nat) (p : Int) : (ptC A m c p).toArray.all (·.oneCell') = true := all_oneCell_toArray (by intro u hu; simp [ptC] at hu; rcases hu with rfl | rfl <;> rfl)
def ptV (A : Option Addr) (m c : Nat) (p : Int) : Value := .agg #[.slice A m c, .int .i64 p]
theorem wp_store_pt {ops : Array Oper} {rest : List Oper} {op : Oper} {a : Act} {w : World} {Q : Exit → Act → World → Prop} (hgd : op.guard = none) (x y : Operand) (ho : op.op = .store 68 x y) (g : Nat) (A : Option Addr) (m c : Nat) (p : Int)
    (hx : a.eval x = .pointer (some ⟨g, 0, none⟩)) (hy : a.eval y = ptV A m c p) (ht : w.there g 0 2) (h : wpList Try.prog ops Q rest (a.put op.dst undef) (w.setCells g 0 (ptC A m c p))) : wpList Try.prog ops Q (op :: rest) a w :=
  wpList_store_mid hgd 68 x y ho g 0 (ptC A m c p).toArray hx hy ht size_pt (one_pt A m c p) h
theorem wp_load_pt {ops : Array Oper} {rest : List Oper} {op : Oper} {a : Act} {w : World} {Q : Exit → Act → World → Prop} (hgd : op.guard = none) (x : Operand) (ho : op.op = .load 68 x) (g : Nat) (A : Option Addr) (m c : Nat) (p : Int)
    (hx : a.eval x = .pointer (some ⟨g, 0, none⟩)) (hc : PtAt w g A m c p) (h : wpList Try.prog ops Q rest (a.put op.dst (ptV A m c p)) w) : wpList Try.prog ops Q (op :: rest) a w :=
  wpList_load_mid hgd 68 x ho g 0 hx (ptC A m c p) _ hc.range Try.underlying68 rfl size_pt h
theorem run_loadPt (w : World) (g : Nat) (A : Option Addr) (m c : Nat) (p : Int) (hc : PtAt w g A m c p) : (loadVar 68 ⟨g, 0, none⟩).run Try.prog w = .ok (ptV A m c p) w := by
  obtain ⟨k0, k1⟩ := hc
  simp [go_sem, loadVar, k0, k1, ptV]
theorem ret_pt {fn : Func} {R : Ending → World → Prop} {a : Act} {w : World} {q u : Tmp} {g : Nat} {A : Option Addr} {m c : Nat} {p : Int} (hres : fn.results = #[.cell q 68, .tmp u]) (hp : a.tmps.getD q undef = .pointer (some ⟨g, 0, none⟩)) (hc : PtAt w g A m c p) (hd : a.defers = [])
    (hR : R (.returned (.tuple #[ptV A m c p, a.tmps.getD u undef])) w) : bodyPost Try.prog fn R .ret a w := by
  refine bodyPost_ret (v := .tuple #[ptV A m c p, a.tmps.getD u undef]) ?_ hd hR
  rw [results_cell_tmp hres, hp]
  show ((loadVar 68 ⟨g, 0, none⟩).run Try.prog w).andThen _ = _
  rw [run_loadPt w g A m c p hc]
  rfl
theorem there_setC {w : World} {g n : Nat} (h : w.there g 0 n) (a : Addr) (v : Value) : (w.setCell a v).there g 0 n := fun j hj => by
  obtain ⟨h1, h2⟩ := h j hj
  refine ⟨?_, by rw [World.frozen?_setCell]; exact h2⟩
  by_cases e : a = ⟨g, 0 + j, none⟩
  · subst e
    obtain ⟨u, hu⟩ := Option.isSome_iff_exists.1 h1
    rw [World.cell?_setCell_same _ _ _ hu]; rfl
  · rw [World.cell?_setCell_other _ _ _ _ e]; exact h1
theorem heap_setC_ne (w : World) (a : Addr) (v : Value) {i : Nat} (h : i ≠ a.block) : (w.setCell a v).heap[i]? = w.heap[i]? := by
  simp [World.setCell, Array.getElem?_modify, Ne.symm h]
theorem size_setC (w : World) (a : Addr) (v : Value) : (w.setCell a v).heap.size = w.heap.size := by simp [World.setCell]
theorem OwnI.apart {E : TypeId} {w w' : World} {base : Nat} {A : Option Addr} {n c : Nat} {l : List Int} (h : OwnI E w base A n c l) (hb : ∀ i, base ≤ i → w'.heap[i]? = w.heap[i]?) : OwnI E w' base A n c l := by
  obtain ⟨h1, h2, h3⟩ := h
  refine ⟨h1, h2, ?_⟩
  rcases h3 with hv | ⟨g, cap, cur, hv, hbg, hg, rest⟩
  · exact .inl hv
  · exact .inr ⟨g, cap, cur, hv, hbg, (hb g hbg).trans hg, rest⟩
theorem OwnI.mono {E : TypeId} {w : World} {base base' : Nat} {A : Option Addr} {n c : Nat} {l : List Int} (h : OwnI E w base A n c l) (hb : base' ≤ base) : OwnI E w base' A n c l := by
  obtain ⟨h1, h2, h3⟩ := h
  refine ⟨h1, h2, ?_⟩
  rcases h3 with hv | ⟨g, cap, cur, hv, hbg, rest⟩
  · exact .inl hv
  · exact .inr ⟨g, cap, cur, hv, by omega, rest⟩
theorem info_int : (Try.prog.info? 3).map (fun i => (i.zero, i.size, i.bytes)) = some (some (.int .i64 0), 1, 8) := by kernel_rfl

/-- The codes of a record, if it has so many. -/
def headsV (l : List Int) (t : Int) : List Int × Int × Int :=
  if (unvL l 0).2.2 ≠ 0 then ([], 0, (unvL l 0).2.2) else if (unvL l 0).1 < 0 then ([], 0, 8) else if 64 < (unvL l 0).1 then ([], 0, 3) else if (unvL l 0).1 < t then ([], 0, 4) else codesV l (unvL l 0).1.toNat (unvL l 0).2.1
def HeadsBack (w : World) (r : List Int × Int × Int) (e : Ending) (w' : World) : Prop :=
  ∃ A m c, e = .returned (.tuple #[ptV A m c r.2.1, .int .i64 r.2.2]) ∧ OwnI 3 w' w.heap.size A m c r.1 ∧ Below w.heap.size w w'
def HRel (w : World) (g0 gp : Nat) (n N : Nat) (l : List Int) (p : Nat) (a i : Value) (wr : World) : Prop :=
  ∃ (j q : Nat) (B : Option Addr) (cB : Nat) (acc : List Int), j ≤ N ∧ i = .int .i64 j ∧ a = .int .i64 q ∧ q ≤ n ∧ PtAt wr gp B j cB 0 ∧ wr.there gp 0 2 ∧ wr.there g0 0 2 ∧ OwnI 3 wr (gp + 1) B j cB acc ∧ Hid (codesV l N p = glueI acc (codesV l (N - j) q)) ∧ gp + 1 ≤ wr.heap.size ∧ Below w.heap.size w wr

set_option maxHeartbeats 8000000 in
theorem heads_any (w : World) (A : Option Addr) (n c : Nat) (l : List Int) (hn : l.length = n) (hnc : n ≤ c) (hcm : c ≤ maxLen) (hA : Rd w A l) (hB : IsB l) (t : Int) (ht : i64K t) (R : Ending → World → Prop) (hR : R = HeadsBack w (headsV l t)) :
    Calls Try.prog 35 #[.slice A n c, .int .i64 t] w R := by
  have HR := Lib.hid hR; clear hR
  have HL := Lib.hid hn; clear hn
  have HB := Lib.hid hB; clear hB
  have HA := Lib.hid hA; clear hA
  have HC := Lib.hid hcm
  have hnm : n ≤ 9223372036854775807 := by unfold maxLen at hcm; omega
  have HNM := Lib.hid hnm
  unfold maxLen at hcm
  obtain ⟨t0, t1⟩ := ht
  have hfin : ∀ W z, headsV l t = ([], 0, z) → Below w.heap.size w W → R (.returned (.tuple #[ptV none 0 0 0, .int .i64 z])) (W.setCells w.heap.size 0 (ptC none 0 0 0)) := fun W z h1 h2 => by
    rw [HR.out]
    exact ⟨none, 0, 0, by rw [h1], by rw [h1]; exact OwnI.nil _ _ _, below_setCellsV h2 (Nat.le_refl _) _ _⟩
  have HFIN := Lib.hid hfin; clear hfin
  obtain ⟨W0, hW0⟩ : ∃ W, W = w.alloc (.cells #[.slice none 0 0, .int .i64 0] 68) := ⟨_, rfl⟩
  have hB0 : Below w.heap.size w W0 := by rw [hW0]; exact (Below.refl _ _).alloc (Nat.le_refl _) _
  have hs0 : W0.heap.size = w.heap.size + 1 := by rw [hW0]; simp
  have HTH := Lib.hid (show W0.there w.heap.size 0 2 by
    rw [hW0]
    intro j hj
    rcases (by omega : j = 0 ∨ j = 1) with rfl | rfl <;> simp [go_sem])
  have HW := Lib.hid hW0
  obtain ⟨⟨v, p2, z⟩, hU⟩ : ∃ U, unvL l (0 : Int) = U := ⟨_, rfl⟩
  have HU := Lib.hid hU
  clear hU
  go_enter Try.func35, Try.ntmps35
  go_upto_region 1 with fail
  rw [← hW0]
  clear hW0 HW
  go_wp2_with fail
  refine (runv_any _ A n c l 0 HL.out HNM.out (HA.out.keep hB0) HB.out (by omega)).mono ?_
  rintro e w1 ⟨rfl, hb1⟩
  simp only [HU.out]
  have hB1 : Below w.heap.size w w1 := hB0.trans (hb1.mono hB0.size)
  have HTH1 := Lib.hid (there_keepV HTH.out hb1 (by omega))
  have hz1 := hb1.size
  clear hb1 HTH
  by_cases hz : z = 0
  rotate_left
  · have hzb : (z != 0) = true := by simp [hz]
    have HF := Lib.hid (show headsV l t = ([], 0, z) by unfold headsV; rw [HU.out]; exact if_pos hz)
    clear hz
    go_upto_region 3 with fail
    iterate 7 go_step
    refine wp_store_pt rfl _ _ rfl w.heap.size none 0 0 0 rfl rfl HTH1.out ?_
    repeat go_step
    refine ret_pt rfl rfl (PtAt.stored HTH1.out none 0 0 0) rfl ?_
    exact HFIN.out _ _ HF.out hB1
  subst hz
  obtain ⟨q2, e1, e2, e3, e4, e5⟩ := unv_at HB.out 0 (by rw [show ((0 : Nat) : Int) = 0 from rfl, HU.out])
  rw [show ((0 : Nat) : Int) = 0 from rfl, HU.out] at e1 e4 e5
  simp only at e1 e4 e5
  subst e1
  clear e4
  rw [HL.out] at e3
  obtain ⟨v0, v1⟩ := e5
  by_cases hv0 : v < 0
  · have HF := Lib.hid (show headsV l t = ([], 0, 8) by unfold headsV; rw [HU.out, if_neg (by simp)]; exact if_pos hv0)
    go_upto_region 5 with fail
    iterate 4 go_step
    refine wp_store_pt rfl _ _ rfl w.heap.size none 0 0 0 rfl rfl HTH1.out ?_
    repeat go_step
    refine ret_pt rfl rfl (PtAt.stored HTH1.out none 0 0 0) rfl ?_
    exact HFIN.out _ _ HF.out hB1
  by_cases hv64 : 64 < v
  · have HF := Lib.hid (show headsV l t = ([], 0, 3) by unfold headsV; rw [HU.out, if_neg (by simp), if_neg hv0]; exact if_pos hv64)
    go_upto_region 7 with fail
    iterate 4 go_step
    refine wp_store_pt rfl _ _ rfl w.heap.size none 0 0 0 rfl rfl HTH1.out ?_
    repeat go_step
    refine ret_pt rfl rfl (PtAt.stored HTH1.out none 0 0 0) rfl ?_
    exact HFIN.out _ _ HF.out hB1
  by_cases hvt : v < t
  · have HF := Lib.hid (show headsV l t = ([], 0, 4) by unfold headsV; rw [HU.out, if_neg (by simp), if_neg hv0, if_neg hv64]; exact if_pos hvt)
    go_upto_region 9 with fail
    iterate 4 go_step
    refine wp_store_pt rfl _ _ rfl w.heap.size none 0 0 0 rfl rfl HTH1.out ?_
    repeat go_step
    refine ret_pt rfl rfl (PtAt.stored HTH1.out none 0 0 0) rfl ?_
    exact HFIN.out _ _ HF.out hB1
  obtain ⟨N, rfl⟩ := Int.eq_ofNat_of_zero_le (show 0 ≤ v by omega)
  have hHV : headsV l t = codesV l N q2 := by unfold headsV; rw [HU.out, if_neg (by simp), if_neg hv0, if_neg hv64]; exact if_neg hvt
  have HHV := Lib.hid hHV
  clear hHV HU e2
  have hN64 : N ≤ 64 := by omega
  have hNt : ¬ (N : Int) < t := hvt
  clear hvt
  obtain ⟨W4, hW4⟩ : ∃ W, W = w1.alloc (.cells #[.slice none 0 0, .int .i64 0] 68) := ⟨_, rfl⟩
  have hB4 : Below w1.heap.size w1 W4 := by rw [hW4]; exact (Below.refl _ _).alloc (Nat.le_refl _) _
  have hz4 : W4.heap.size = w1.heap.size + 1 := by rw [hW4]; simp
  have HTP := Lib.hid (show W4.there w1.heap.size 0 2 by
    rw [hW4]
    intro j hj
    rcases (by omega : j = 0 ∨ j = 1) with rfl | rfl <;> simp [go_sem])
  have HPT := Lib.hid (show PtAt W4 w1.heap.size none 0 0 0 by rw [hW4]; exact ⟨by simp [go_sem], by simp [go_sem]⟩)
  have HTG := Lib.hid (there_keepV HTH1.out hB4 (by omega))
  have HW := Lib.hid hW4
  have HS := Lib.hid (glue_nil l N q2).symm
  go_upto_region 11 with fail
  rw [← hW4]
  clear hW4 HW
  go_wp2_with fail
  go_loopw [7, 10] (HRel w w.heap.size w1.heap.size n N l q2) (fun _ i _ => N - (intOf i).toNat)
  case atStart => exact ⟨0, q2, none, 0, [], Nat.zero_le _, rfl, rfl, e3, HPT.out, HTP.out, HTG.out, OwnI.nil _ _ _, HS, by omega, hB1.trans (hB4.mono (by omega))⟩
  case round =>
    obtain ⟨j, q, B, cB, acc, hj, rfl, rfl, hq, hpt, hth, hg, hown, HE, hzr, hb⟩ := hrel
    have HP := Lib.hid hpt
    have HT1 := Lib.hid hth; clear hth
    have HG := Lib.hid hg; clear hg
    have HO := Lib.hid hown; clear hown hpt
    by_cases hlt : j < N
    · have hk : N - j = (N - (j + 1)) + 1 := by omega
      have HE' := Lib.hid (show headsV l t = glueI acc (codesV l ((N - (j + 1)) + 1) q) by rw [HHV.out, ← hk]; exact HE.out)
      clear hk HE
      have hlt' : (j : Int) < (N : Int) := by omega
      obtain ⟨⟨v, p2, z⟩, hU⟩ : ∃ U, unvL l (q : Int) = U := ⟨_, rfl⟩
      have HU := Lib.hid hU
      clear hU
      go_wp2_with fail
      refine (runv_any _ A n c l (q : Int) HL.out HNM.out (HA.out.keep hb) HB.out (by omega)).mono ?_
      rintro e w2 ⟨rfl, hb2⟩
      simp only [HU.out]
      have hBw : Below w.heap.size w w2 := hb.trans (hb2.mono hb.size)
      have HTG2 := Lib.hid (there_keepV HG.out hb2 (by omega))
      have HTP2 := Lib.hid (there_keepV HT1.out hb2 (by omega))
      have HP2 := Lib.hid (HP.out.keepB hb2 (by omega))
      have HO2 := Lib.hid (HO.out.keep hb2)
      have hz2 := hb2.size
      clear hb2 HG HT1 HP HO
      by_cases hz : z = 0
      rotate_left
      · have hzb : (z != 0) = true := by simp [hz]
        have HF := Lib.hid (show headsV l t = ([], 0, z) by rw [HE'.out, codes_err l _ _ (by rw [HU.out]; exact hz), HU.out, glue_err _ _ hz])
        clear hz
        go_upto_region 16 with fail
        iterate 7 go_step
        refine wp_store_pt rfl _ _ rfl w.heap.size none 0 0 0 rfl rfl HTG2.out ?_
        repeat go_step
        refine ret_pt rfl rfl (PtAt.stored HTG2.out none 0 0 0) rfl ?_
        exact HFIN.out _ _ HF.out hBw
      subst hz
      obtain ⟨q3, e1, e2, e3', e4, e5⟩ := unv_at HB.out q (by rw [HU.out])
      rw [HU.out] at e1 e4 e5
      simp only at e1 e4 e5
      subst e1
      clear e4
      rw [HL.out] at e3'
      obtain ⟨v0, v1⟩ := e5
      by_cases hbad : badC v
      · have HF := Lib.hid (show headsV l t = ([], 0, 8) by rw [HE'.out, codes_bad l _ _ (by rw [HU.out]) (by rw [HU.out]; exact hbad), glue_err _ _ (by decide)])
        unfold badC at hbad
        rcases (by omega : v < 0 ∨ (0 ≤ v ∧ 8 < v ∧ v < 16)) with hv | ⟨hv, hv8, hv16⟩
        all_goals
          clear hbad
          go_upto_region 18 with fail
          iterate 4 go_step
          refine wp_store_pt rfl _ _ rfl w.heap.size none 0 0 0 rfl rfl HTG2.out ?_
          repeat go_step
          refine ret_pt rfl rfl (PtAt.stored HTG2.out none 0 0 0) rfl ?_
          exact HFIN.out _ _ HF.out hBw
      have HBAD := Lib.hid hbad
      unfold badC at hbad
      by_cases hbig : 8209 < v
      · have HF := Lib.hid (show headsV l t = ([], 0, 3) by rw [HE'.out, codes_long l _ _ (by rw [HU.out]) (by rw [HU.out]; exact HBAD.out) (by rw [HU.out]; exact hbig), glue_err _ _ (by decide)])
        clear hbad
        go_upto_region 20 with fail
        iterate 4 go_step
        refine wp_store_pt rfl _ _ rfl w.heap.size none 0 0 0 rfl rfl HTG2.out ?_
        repeat go_step
        refine ret_pt rfl rfl (PtAt.stored HTG2.out none 0 0 0) rfl ?_
        exact HFIN.out _ _ HF.out hBw
      have HF := Lib.hid (show headsV l t = glueI (acc ++ [v]) (codesV l (N - (j + 1)) q3) by
        rw [HE'.out, codes_ok l _ _ (by rw [HU.out]) (by rw [HU.out]; exact HBAD.out) (by rw [HU.out]; exact hbig), HU.out, glue_glue])
      obtain ⟨m0, m1⟩ := HP2.out
      have hf0 := (HTP2.out 0 (by decide)).2
      rw [Nat.zero_add] at hf0
      rcases (by omega : (0 ≤ v ∧ v ≤ 8) ∨ (0 ≤ v ∧ 8 < v ∧ 16 ≤ v)) with ⟨hv, hv8⟩ | ⟨hv, hv8, hv16⟩
      all_goals
        clear hbad
        go_upto_region 21 with fail
        iterate 13 go_step
        refine wp_append_i 66 3 Try.underlying66 info_int rfl (.tmp 65) (.tmp 67) rfl (w1.heap.size + 1) B j cB acc rfl (HO2.out.keep ((Below.refl _ _).alloc (Nat.le_refl _) _)) _ _ v rfl (by simp [go_sem]) (by omega) (by simp; omega) ?_
        intro A' c' w' hown hb'
        have hbX : Below (w1.heap.size + 1) w2 w' := ((Below.refl _ _).alloc (by omega) _).trans hb'
        have HO' := Lib.hid hown
        have m0' := (hbX.cell (p := ⟨w1.heap.size, 0, none⟩) (by simp only; omega)).trans m0
        have f0' := (hbX.frozen (p := ⟨w1.heap.size, 0, none⟩) (by simp only; omega)).trans hf0
        clear hown hb' m0 m1 hf0
        have hz' := hbX.size
        have hB' : Below w.heap.size w w' := hBw.trans (hbX.mono (by omega))
        go_wp2_with fail
        go_roundw
        case rel =>
          exact ⟨j + 1, q3, A', c', acc ++ [v], by omega, by go_num, rfl, e3', PtAt.row (HP2.out.keepB hbX (by omega)) _ _ _, there_setC (there_keepV HTP2.out hbX (by omega)) _ _, there_setC (there_keepV HTG2.out hbX (by omega)) _ _, HO'.out.apart (fun i hi => heap_setC_ne _ _ _ (by simp only; omega)), Lib.hid (by rw [← HHV.out]; exact HF.out), by rw [size_setC]; omega, hB'.setCell (by simp only; omega) _⟩
        case measure => simp [intOf]; omega
    · obtain rfl : j = N := by omega
      have HF := Lib.hid (show headsV l t = (acc, (q : Int), 0) by rw [HHV.out, HE.out, Nat.sub_self]; exact glue_end acc q)
      clear HE
      obtain ⟨m0, m1⟩ := HP.out
      have hf1 := (HT1.out 1 (by decide)).2
      have HP' := Lib.hid (PtAt.at' HP.out (q : Int))
      have HG' := Lib.hid (there_setC HG.out ⟨w1.heap.size, 1, none⟩ (.int .i64 q))
      have HO' := Lib.hid (HO.out.apart (w' := wr.setCell ⟨w1.heap.size, 1, none⟩ (.int .i64 q)) (fun i hi => heap_setC_ne _ _ _ (by simp only; omega)))
      have hB' : Below w.heap.size w (wr.setCell ⟨w1.heap.size, 1, none⟩ (.int .i64 q)) := hb.setCell (by simp only; omega) _
      go_upto_region 24 with fail
      go_step
      refine wp_load_pt rfl _ rfl w1.heap.size B j cB (q : Int) rfl HP'.out ?_
      refine wp_store_pt rfl _ _ rfl w.heap.size B j cB (q : Int) rfl rfl HG'.out ?_
      repeat go_step
      refine ret_pt rfl rfl (PtAt.stored HG'.out B j cB (q : Int)) rfl ?_
      rw [HR.out]
      refine ⟨B, j, cB, by rw [HF.out] <;> rfl, ?_, below_setCellsV hB' (Nat.le_refl _) _ _⟩
      rw [HF.out]
      refine (HO'.out.apart fun i hi => ?_).mono (by omega)
      simp only [ptC, World.setCells]
      rw [heap_setC_ne _ _ _ (by simp only; omega), heap_setC_ne _ _ _ (by simp only; omega)]
end Go.Proofs.Ytbbdglikdogmhaa
