/- Walk: SlotsBack. -/
import Derived.Test.YtoeaffmlolapnaaSrH
namespace Go.Proofs.Ytoeaffmlolapnaa
open Go.RowKit
set_option maxRecDepth 100000
set_option linter.unusedVariables false
set_option linter.unusedSimpArgs false
set_option linter.unnecessarySimpa false

/-- A page is the page of its bytes. -/
theorem IsP.mdl {L : List Int} {M : Mdl} (g : Good M) (p : IsP L M) : mdlOf L M.h = M := by
  have hk : kOf L M.h = M.k := by unfold kOf; rw [p.many]; rfl
  have hp : ∀ j, j < M.k → pOf L M.h j = M.pl j := fun j hj => by unfold pOf; rw [p.slots j hj]; rfl
  have hl : ∀ j, j < M.k → lOf L (M.pl j) = (M.cl j).length := fun j hj => by unfold lOf; rw [p.lens j hj]; rfl
  have hc : ∀ j, j < M.k → cOf L M.h j = M.cl j := fun j hj => by
    have h1 := g.hi j hj
    unfold cOf
    rw [hp j hj, hl j hj]
    refine eq_of_bt (by rw [List.length_take, List.length_drop, p.len]; omega) fun x hx => ?_
    rw [List.length_take] at hx
    rw [bt_dt, if_pos (by omega), p.body j hj x (by omega)]
  have hfit := g.fit
  have hu : M.used M.k = M.h + 2 + 2 * M.k := rfl
  have hF : L.take M.h = M.F := by
    refine eq_of_bt (by rw [List.length_take, p.len]; show min M.h M.n = M.h; omega) fun x hx => ?_
    have hx' : x < M.h := by rw [List.length_take] at hx; omega
    have e : bt (L.take M.h) x = bt L x := by
      unfold bt
      simp only [List.getD_eq_getElem?_getD, List.getElem?_take, if_pos hx']
    rw [e, p.front x hx']
  have hC : (List.range M.k).map (cOf L M.h) = M.C := by
    refine List.ext_getElem (by simp [Mdl.k]) fun i h1 h2 => ?_
    have hi : i < M.k := h2
    simp only [List.getElem_map, List.getElem_range]
    rw [hc i hi]
    simp [Mdl.cl, h2]
  have hP : (List.range M.k).map (pOf L M.h) = M.P := by
    refine List.ext_getElem (by simp [g.same]) fun i h1 h2 => ?_
    have hi : i < M.k := by rw [← g.same]; exact h2
    simp only [List.getElem_map, List.getElem_range]
    rw [hp i hi]
    simp [Mdl.pl, h2]
  unfold mdlOf
  rw [hk, hF, hC, hP, p.len]
theorem IsP.of {L : List Int} {M : Mdl} (g : Good M) (p : IsP L M) : ofP L M.h := by
  unfold ofP
  rw [p.mdl g]
  exact ⟨g, p⟩
theorem OwnB.ne {w w' : World} {base n c bb t : Nat} {l : List Int} (h : OwnB w base (some ⟨bb, 0, none⟩) n c l) (e : ∀ k, k ≠ t → k < w.heap.size → w'.heap[k]? = w.heap[k]?) (hne : bb ≠ t) : OwnB w' base (some ⟨bb, 0, none⟩) n c l := by
  refine ⟨h.1, ?_⟩
  rcases h.2 with hv | ⟨g, cap, cur, hv, hbg, hgg, rest⟩
  · exact .inl hv
  · obtain rfl : bb = g := by injection hv with e1; injection e1 with e1; injection e1
    exact .inr ⟨bb, cap, cur, hv, hbg, (e bb hne (Array.getElem?_eq_some_iff.1 hgg).1).trans hgg, rest⟩
theorem doM_h (M : Mdl) (d : Dd) : (doM M d).h = M.h := by
  unfold doM insM remM
  by_cases h0 : d.kd = 0
  · rw [if_pos h0]
    split
    · rfl
    · split
      · rfl
      · show (M.room1 _).h = M.h
        unfold Mdl.room1
        split <;> rfl
  · rw [if_neg h0]
    by_cases h1 : d.kd = 1
    · rw [if_pos h1]
      split <;> rfl
    · rw [if_neg h1]; rfl
theorem doAll_h (F : List Dd) : ∀ M : Mdl, (doAll M F).h = M.h := by
  induction F with
  | nil => intro M; rfl
  | cons d F ih =>
    intro M
    show (doAll (doM M d) F).h = M.h
    rw [ih, doM_h]
theorem St.more {w wr w' : World} {bad : List Nat} {g gb c q : Nat} {X : List Value} {M : Mdl} {r : RV} {L : List Int} (s : St w wr bad g gb c q X M r L) (hb : Below wr.heap.size wr w') (t : Nat) (h1 : wr.heap.size ≤ t) (h2 : t < w'.heap.size) : St w w' (t :: bad) g gb c q X M r L :=
  ⟨s.pg.keep hb, s.isp, s.good, (s.ref.more h1).keep hb, s.at_.keep hb, there_keepR s.there hb (by have := s.at_.lt; exact this), List.mem_cons_of_mem _ s.qb, List.mem_cons_of_mem _ s.gbb, s.gq, s.gbq, s.gb0, s.q0, fun i hi => by
    have := hb.size
    rcases List.mem_cons.1 hi with e | e
    · rw [e]; exact h2
    · have := s.bl i e; omega, s.bel.trans (hb.mono s.bel.size)⟩
theorem St.frame {w wr w' : World} {bad : List Nat} {g gb c q : Nat} {X : List Value} {M : Mdl} {r : RV} {L : List Int} (s : St w wr bad g gb c q X M r L) {t : Nat} (e : ∀ k, k ≠ t → k < wr.heap.size → w'.heap[k]? = wr.heap[k]?)
    (ht : t ∈ bad) (tg : g ≠ t) (tb : gb ≠ t) (tq : q ≠ t) (hb : Below w.heap.size w w') (hs : wr.heap.size ≤ w'.heap.size) : St w w' bad g gb c q X M r L := by
  have hl := s.pg.lt
  have hq := s.at_.lt
  refine ⟨⟨(e g tg hl.1).trans s.pg.head, (e gb tb hl.2).trans s.pg.row, s.pg.cap, s.pg.most, s.pg.byts⟩, s.isp, s.good, RefV.frame (bad' := bad) s.ref (fun i hi h => e i (fun e => hi (e ▸ ht)) h) (fun _ h => h), ?_, there_blk (e q tq hq) s.there, s.qb, s.gbb, s.gq, s.gbq, s.gb0, s.q0, fun i hi => ?_, hb⟩
  · intro i u hu
    rw [← s.at_ i u hu]
    simp [World.cell?, e q tq hq]
  · have := s.bl i hi
    omega
/-- A deed is done: the document's new page is put into q. -/
theorem St.put {w wr w1 : World} {bad : List Nat} {g gb c q : Nat} {X : List Value} {M M' : Mdl} {r r' : RV} {L L' : List Int} (s : St w wr bad g gb c q X M r L)
    (hp : Pg w1 g gb c M'.h L' X) (hi : IsP L' M') (hg : Good M') (hr : RefV w1 bad M' r') (hm : Mut wr gb w1) :
    St w (w1.setCells q 0 (rpC r' M')) bad g gb c q X M' r' L' ∧ w1.there q 0 4 := by
  have hlt := s.at_.lt
  have hs1 : wr.heap.size ≤ w1.heap.size := hm.size
  have hT1 : w1.there q 0 4 := there_blk (hm.block q hlt (Ne.symm s.gbq)) s.there
  have hb1 : Below w.heap.size w w1 := hm.below s.bel s.gb0 s.bel.size
  refine ⟨⟨⟨(heap_setCells_ne _ _ _ _ s.gq).trans hp.head, (heap_setCells_ne _ _ _ _ s.gbq).trans hp.row, hp.cap, hp.most, hp.byts⟩, hi, hg, ?_, RpAt.stored hT1 r' M', World.there_setCells hT1 _ _ _, s.qb, s.gbb, s.gq, s.gbq, s.gb0, s.q0, fun i hi => ?_, below_setCellsR hb1 s.q0 _ _⟩, hT1⟩
  · exact RefV.frame (bad' := bad) hr (fun i hi _ => heap_setCells_ne _ _ _ _ (fun e => hi (by rw [e]; exact s.qb))) (fun _ h => h)
  · rw [size_setCells]
    have := s.bl i hi
    omega
def BkRel1 (w : World) (bad : List Nat) (g gb c q : Nat) (X : List Value) (M0 : Mdl) (F : List Dd) (iv : Value) (wr : World) : Prop :=
  ∃ (j : Nat) (r : RV) (L : List Int), j ≤ F.length ∧ iv = .int .i64 j ∧ St w wr bad g gb c q X (doAll M0 (F.take j)) r L
/-- Two pages; the second one goes on. -/
def BkRel2 (w : World) (bad : List Nat) (g gb c q : Nat) (X : List Value) (M : Mdl) (r : RV) (L : List Int) (g2 gb2 c2 q2 : Nat) (X2 : List Value) (F : List Dd) (base bb n5 c5 : Nat) (iv : Value) (wr : World) : Prop :=
  ∃ (j : Nat) (r2 : RV) (L2 : List Int), j ≤ F.length ∧ iv = .int .i64 j ∧ St w wr bad g gb c q X M r L ∧ St w wr bad g2 gb2 c2 q2 X2 (doAll M (F.take j)) r2 L2 ∧ OwnB wr base (some ⟨bb, 0, none⟩) n5 c5 L
def BkRel3 (w : World) (bad : List Nat) (g gb c q : Nat) (X : List Value) (M : Mdl) (r : RV) (L : List Int) (g2 gb2 c2 q2 : Nat) (X2 : List Value) (M2 : Mdl) (r2 : RV) (L2 : List Int) (base bb n5 c5 : Nat) (iv : Value) (wr : World) : Prop :=
  ∃ (j : Nat) (L5 : List Int), j ≤ n5 ∧ iv = .int .i64 j ∧ St w wr bad g gb c q X M r L ∧ St w wr bad g2 gb2 c2 q2 X2 M2 r2 L2 ∧ OwnB wr base (some ⟨bb, 0, none⟩) n5 c5 L5

set_option maxHeartbeats 64000000 in
theorem slotsBack_walk (w : World) (n h : Int) (A : Option Addr) (m c : Nat) (F : List Dd) (A' : Option Addr) (m' c' : Nat) (F' : List Dd) (hn : i64b n) (hh : i64b h) (hF : F.length = m) (hmc : m ≤ c) (hcm : c ≤ maxLen) (hA : RdDd w A F) (hok : ∀ d ∈ F, DdOk d) (hF' : F'.length = m') (hmc' : m' ≤ c') (hcm' : c' ≤ maxLen) (hA' : RdDd w A' F') (hok' : ∀ d ∈ F', DdOk d) :
    Calls Try.prog 5 #[.int .i64 n, .int .i64 h, .slice A m c, .slice A' m' c'] w (LiveYes w) := by
  obtain ⟨R, hR⟩ : ∃ R, R = LiveYes w := ⟨_, rfl⟩
  rw [← hR]
  have HRR := Lib.hid hR; clear hR
  have HA := Lib.hid hA
  have HF := Lib.hid hF
  have HOK := Lib.hid hok
  have HA' := Lib.hid hA'
  have HF' := Lib.hid hF'
  have HOK' := Lib.hid hok'
  have hm63 : m ≤ 9223372036854775807 := by unfold maxLen at hcm; omega
  have hm63' : m' ≤ 9223372036854775807 := by unfold maxLen at hcm'; omega
  have hsm := small9_any w A m c F hF hmc hcm hA
  have hsm' := small9_any w A' m' c' F' hF' hmc' hcm' hA'
  clear hA hok hF hA' hok' hF'
  go_enter Try.func5, Try.ntmps5
  go_wp2_with fail
  refine hsm.mono ?_
  clear hsm
  rintro e w1 ⟨rfl, rfl⟩
  by_cases hsml : smallD F
  case neg =>
    rw [decide_eq_false hsml]
    clear hsml
    go_wp2_with fail
    refine (live_any _ _ rfl).mono ?_
    rintro e w2 ⟨rfl, hb2⟩
    go_wp2_with fail
    rw [HRR.out]
    exact ⟨rfl, hb2⟩
  rw [decide_eq_true hsml]
  have HSM := Lib.hid hsml
  have hm100 : m ≤ 100 := by rw [← HF.out]; exact hsml.1
  clear hsml
  go_wp2_with fail
  refine hsm'.mono ?_
  clear hsm'
  rintro e w1 ⟨rfl, rfl⟩
  by_cases hsml : smallD F'
  case neg =>
    rw [decide_eq_false hsml]
    clear hsml
    go_wp2_with fail
    refine (live_any _ _ rfl).mono ?_
    rintro e w2 ⟨rfl, hb2⟩
    go_wp2_with fail
    rw [HRR.out]
    exact ⟨rfl, hb2⟩
  rw [decide_eq_true hsml]
  have HSM' := Lib.hid hsml
  have hm100' : m' ≤ 100 := by rw [← HF'.out]; exact hsml.1
  clear hsml
  go_wp2_with fail
  refine (pNew_any _ n h hn hh _ rfl).mono ?_
  rintro e w2 ⟨hb2, ⟨hno, rfl⟩ | ⟨hm, g, gb, rfl, hg0, hgb0, hp⟩⟩
  · have q2 : ((1 : Int) != 0) = true := rfl
    go_wp2_with fail
    refine (live_any _ _ rfl).mono ?_
    rintro e w6 ⟨rfl, hb6⟩
    go_wp2_with fail
    rw [HRR.out]
    exact ⟨rfl, hb2.trans (hb6.mono hb2.size)⟩
  have z0 : ((0 : Int) != 0) = false := rfl
  go_wp2_with fail
  have hltp := hp.lt
  refine (rNew_any _ [gb] n h hn hh (by intro i hi; simp at hi; subst hi; exact hltp.2) _ rfl).mono ?_
  rintro e w3 ⟨hb3, r, M, z, rfl, hv, ⟨hm', _⟩ | ⟨_, rfl, rfl⟩⟩
  · exact absurd hm hm'
  obtain ⟨N, hN⟩ : ∃ N, n.toNat = N := ⟨_, rfl⟩
  obtain ⟨D, hD⟩ : ∃ D, h.toNat = D := ⟨_, rfl⟩
  rw [hN, hD] at hv hp ⊢
  have hND : mayP (N : Int) (D : Int) := by
    obtain ⟨m1, m2, m3, m4⟩ := hm
    rw [← hN, ← hD, Int.toNat_of_nonneg (by omega), Int.toNat_of_nonneg m3]
    exact ⟨m1, m2, m3, m4⟩
  have hhD : h = (D : Int) := by rw [← hD, Int.toNat_of_nonneg hm.2.2.1]
  have HMP := Lib.hid hND
  obtain ⟨M0, hM0⟩ : ∃ M, newM N D = M := ⟨_, rfl⟩
  have hh0 : M0.h = D := by rw [← hM0, new_h]
  have hg0' : Good M0 := by rw [← hM0]; exact new_good hND
  have hi0' : IsP (List.replicate N 0) M0 := by rw [← hM0]; exact new_page hND
  rw [hM0] at hv ⊢
  subst hhD
  clear hm hN hD hM0 hND
  have hb3' : Below w.heap.size w w3 := hb2.trans (hb3.mono hb2.size)
  obtain ⟨W4, hW4⟩ : ∃ W, W = w3.alloc (.cells #[.int .i64 0, .slice none 0 0, .slice none 0 0, .slice none 0 0] 33) := ⟨_, rfl⟩
  have hb4 : Below w3.heap.size w3 W4 := by rw [hW4]; exact (Below.refl _ _).alloc (Nat.le_refl _) _
  have HT4 := Lib.hid (show W4.there w3.heap.size 0 4 by rw [hW4]; exact there_new4 w3 _ _ _ _ _)
  have HW4 := Lib.hid hW4
  clear hW4
  simp only []
  iterate 13 go_step
  rw [← HW4.out]
  refine wp_store_rp rfl _ _ rfl w3.heap.size r M0 rfl rfl HT4.out ?_
  obtain ⟨w5, hw5⟩ : ∃ W, W = W4.setCells w3.heap.size 0 (rpC r M0) := ⟨_, rfl⟩
  have hb35 : Below w3.heap.size w3 w5 := by rw [hw5]; exact below_setCellsR hb4 (Nat.le_refl _) _ _
  have hz3 := hb3.size
  have HS := Lib.hid (show St w w5 [gb, w3.heap.size] g gb N w3.heap.size [] M0 r (List.replicate N 0) by
    have hl5 : w3.heap.size < w5.heap.size := by rw [hw5, size_setCells, HW4.out]; simp
    refine ⟨by rw [hh0]; exact (hp.keep hb3).keep hb35, hi0', hg0', ?_, ?_, ?_, by simp, by simp, by omega, by omega, hgb0, hb3'.size, ?_, hb3'.trans (hb35.mono hb3'.size)⟩
    · refine RefV.frame (bad' := [w3.heap.size, gb]) (w := W4) ((hv.more (Nat.le_refl _)).keep hb4) (fun i hi _ => ?_) (fun i hi => ?_)
      · rw [hw5]; exact heap_setCells_ne _ _ _ _ (fun e => hi (by rw [e]; simp))
      · simp at hi ⊢; omega
    · rw [hw5]; exact RpAt.stored HT4.out r M0
    · rw [hw5]; exact World.there_setCells HT4.out _ _ _
    · intro i hi
      simp at hi
      rcases hi with rfl | rfl <;> omega)
  rw [← hw5]
  obtain ⟨q, hq⟩ : ∃ q, w3.heap.size = q := ⟨_, rfl⟩
  rw [hq] at HS ⊢
  have HH0 := Lib.hid hh0
  clear hw5 hb35 hb3' hb3 hb4 HT4 HW4 hz3 hv hp hi0' hg0' hltp hb2 hg0 hgb0 hq hh0
  go_wp2_with fail
  go_loopw [52] (BkRel1 w [gb, q] g gb N q [] M0 F) (fun i _ => m - (intOf i).toNat)
  case atStart => exact ⟨0, r, _, Nat.zero_le _, rfl, HS.out⟩
  case round =>
    obtain ⟨j, r1, L, hj, rfl, hst⟩ := hrel
    have HST := Lib.hid hst
    rw [HF.out] at hj
    clear hst HS
    by_cases hlt : j < m
    · have hjF : j < F.length := by rw [HF.out]; exact hlt
      have hlt' : (j : Int) < (m : Int) := by omega
      have i0 : (0 : Int) ≤ (j : Int) := by omega
      obtain ⟨b, off, hAe, hcell⟩ := HA.out.at (by omega)
      obtain ⟨B, sc, hrg, hrd⟩ := (hcell j hjF).range
      have hdm : dd_ F j ∈ F := by rw [dd_lt hjF]; exact List.getElem_mem hjF
      have HDT := Lib.hid (doAll_take (M := M0) hjF)
      have HDO := Lib.hid (HOK.out _ hdm)
      have HDL := Lib.hid (HSM.out.2 _ hdm)
      obtain ⟨d, hd⟩ : ∃ d, dd_ F j = d := ⟨_, rfl⟩
      obtain ⟨Mj, hMj⟩ : ∃ M, doAll M0 (F.take j) = M := ⟨_, rfl⟩
      rw [hd] at hrg hrd HDT HDO HDL
      rw [hMj] at HST HDT
      have hblk : b < w.heap.size := World.block_lt_of_cell? w ⟨b, off + j * 3 + 0, none⟩ (hrg 0 _ rfl)
      have HNE := Lib.hid (show ∀ a, B = some a → d.b ≠ [] → a.block ≠ gb from fun a ha hne => by
        have h1 : a.block < w.heap.size := by
          rcases hrd with h | ⟨b', o', hB, hc'⟩
          · exact absurd h hne
          · rw [ha] at hB
            injection hB with hB
            subst hB
            exact World.block_lt_of_cell? w _ (hc' 0 (List.length_pos_iff.2 hne))
        have := HST.out.gb0
        omega)
      have HRG := Lib.hid (rangeKeep hrg HST.out.bel hblk)
      have HRD := Lib.hid (hrd.keep HST.out.bel)
      subst hAe
      clear hcell hrg hrd hd hMj hdm hblk
      go_upto_region 9 with fail
      iterate 4 go_step
      refine wp_load_dd rfl _ rfl b (off + j * 3) d B sc rfl HRG.out ?_
      obtain ⟨W6, hW6⟩ : ∃ W, W = wr.alloc (.cells #[.int .i64 0, .int .i64 0, .slice none 0 0] 37) := ⟨_, rfl⟩
      have hb6 : Below wr.heap.size wr W6 := by rw [hW6]; exact (Below.refl _ _).alloc (Nat.le_refl _) _
      have HT6 := Lib.hid (show W6.there wr.heap.size 0 3 by rw [hW6]; exact there_new3 wr _ _ _ _)
      have HW6 := Lib.hid hW6
      clear hW6
      iterate 3 go_step
      rw [← HW6.out]
      clear HW6
      refine wp_store_dd rfl _ _ rfl wr.heap.size d B sc rfl rfl HT6.out ?_
      obtain ⟨w7, hw7⟩ : ∃ W, W = W6.setCells wr.heap.size 0 (ddC d B sc) := ⟨_, rfl⟩
      have hb7 : Below wr.heap.size wr w7 := by rw [hw7]; exact below_setCellsR hb6 (Nat.le_refl _) _ _
      have HR7 := Lib.hid (show w7.rangeAt wr.heap.size 0 (ddC d B sc) by rw [hw7]; exact World.rangeAt_setCells_same _ _ _ _ HT6.out)
      have HS7 := Lib.hid (HST.out.keep hb7)
      have HRD7 := Lib.hid (HRD.out.keep hb7)
      rw [← hw7]
      clear hw7 hb6 hb7 HT6 HST HRD HRG
      go_upto_region 10 with fail
      iterate 4 go_step
      refine wp_load_rp rfl _ rfl q r1 Mj rfl HS7.out.at_ ?_
      refine wp_load_dd rfl _ rfl wr.heap.size 0 d B sc rfl HR7.out ?_
      go_wp2_with fail
      refine (step9_any _ [gb, q] g gb N L [] Mj Mj r1 HS7.out.pg HS7.out.isp HS7.out.good HS7.out.ref HS7.out.good.sm HS7.out.bl HS7.out.gbb d B sc HDO.out HDL.out HRD7.out HNE.out (.inr HS7.out.good) _ rfl).mono ?_
      rintro e w8 ⟨r8, bq, rfl, hv8, hbq, hg8, L8, hp8, hi8, hm8⟩
      obtain ⟨M8, hM8⟩ : ∃ M, doM Mj d = M := ⟨_, rfl⟩
      rw [hM8] at hv8 hg8 hp8 hi8 HDT ⊢
      obtain ⟨hs9, ht8⟩ := HS7.out.put hp8 hi8 hg8 hv8 hm8
      have HS9 := Lib.hid hs9
      have HT8 := Lib.hid ht8
      clear hs9 ht8 hv8 hg8 hp8 hi8 hm8 hbq HS7 HRD7 HR7 hM8
      simp only []
      iterate 10 go_step
      refine wp_store_rp rfl _ _ rfl q r8 M8 rfl rfl HT8.out ?_
      obtain ⟨w9, hw9⟩ : ∃ W, W = w8.setCells q 0 (rpC r8 M8) := ⟨_, rfl⟩
      rw [← hw9] at HS9 ⊢
      clear hw9 HT8
      go_wp2_with fail
      go_roundw
      case rel => exact ⟨j + 1, r8, L8, by omega, by go_num, by rw [HDT.out]; exact HS9.out⟩
      case measure => simp [intOf]; omega
    · obtain rfl : j = m := by omega
      rw [show F.take j = F by rw [← HF.out, List.take_length]] at HST
      have hhf : (doAll M0 F).h = D := by rw [doAll_h]; exact HH0.out
      obtain ⟨M, hM⟩ : ∃ M, doAll M0 F = M := ⟨_, rfl⟩
      rw [hM] at HST hhf
      have HHF := Lib.hid hhf
      have hnn := HST.out.good.n1
      have hnn0 := HST.out.good.n0
      have hmay : mayP (L.length : Int) (D : Int) := by
        rw [HST.out.isp.len]
        have := HST.out.good.h1
        exact ⟨by omega, by omega, by omega, by omega⟩
      have HOF := Lib.hid (show ofP L D by rw [← hhf]; exact HST.out.isp.of HST.out.good)
      have HMY := Lib.hid hmay
      have HLN := Lib.hid HST.out.isp.len
      have hD64 : D ≤ 64 := by have := HST.out.good.h1; omega
      have hltr := HST.out.pg.lt
      have hqr := HST.out.at_.lt
      have hbelr := HST.out.bel.size
      clear hM hhf hmay HH0 HMP HA HF HOK HSM
      go_wp2_with fail
      -- its bytes
      refine (pBytes_any _ g gb N _ L [] HST.out.pg (by rw [HLN.out]; exact hnn)).mono ?_
      rintro e w5 ⟨A5, n5, c5, rfl, hown5, hb5⟩
      have hn5 : n5 = M.n := by rw [← hown5.len]; exact HLN.out
      obtain ⟨bb, hA5, hbb0, hbbl⟩ := hown5.at (by omega)
      subst hA5
      have HN5 := Lib.hid hn5
      have hn51 : n5 ≤ 4096 := by omega
      clear hn5
      have HO5 := Lib.hid hown5
      have HS5 := Lib.hid (HST.out.more hb5 bb hbb0 hbbl)
      have hz5 := hb5.size
      clear hown5 hb5 HST
      go_wp2_with fail
      -- the page of them
      refine (pOf_any _ _ n5 c5 L HO5.out.len (by omega) HO5.out.rd HS5.out.isp.byts (D : Int) (by omega) _ rfl).mono ?_
      rintro e w6 ⟨hb6, h | ⟨_, h, _⟩ | ⟨_, _, g2, gb2, c2, X2, rfl, hg2, hgb2, hp2⟩⟩
      · exact absurd HMY.out h.1
      · exact absurd HOF.out h
      rw [Int.toNat_natCast, ← HHF.out] at hp2
      have hlt2 := hp2.lt
      have hz6 := hb6.size
      have HS6 := Lib.hid (HS5.out.more hb6 gb2 hgb2 hlt2.2)
      have HO6 := Lib.hid (HO5.out.keep hb6)
      have HP6 := Lib.hid hp2
      clear hp2 hb6 HS5 HO5 HOF HMY
      go_upto_region 14 with fail
      iterate 22 go_step
      refine wp_load_rpg rfl _ rfl q r1 M rfl HS6.out.at_ ?_
      go_wp2_with fail
      refine (same9_any _ _ g2 gb2 c2 L X2 M r1 HP6.out HS6.out.isp HS6.out.good HS6.out.ref _ rfl).mono ?_
      rintro e w7 ⟨rfl, hb7⟩
      have hz7 := hb7.size
      have HS7 := Lib.hid (HS6.out.keep hb7)
      have HO7 := Lib.hid (HO6.out.keep hb7)
      have HP7 := Lib.hid (HP6.out.keep hb7)
      clear hb7 HS6 HO6 HP6
      -- the document's other page
      obtain ⟨W8, hW8⟩ : ∃ W, W = w7.alloc (.cells #[.int .i64 0, .slice none 0 0, .slice none 0 0, .slice none 0 0] 33) := ⟨_, rfl⟩
      have hb78 : Below w7.heap.size w7 W8 := by rw [hW8]; exact (Below.refl _ _).alloc (Nat.le_refl _) _
      have HT8 := Lib.hid (show W8.there w7.heap.size 0 4 by rw [hW8]; exact there_new4 w7 _ _ _ _ _)
      have HW8 := Lib.hid hW8
      have hl8 : w7.heap.size < W8.heap.size := by rw [hW8]; simp
      clear hW8
      go_upto_region 16 with fail
      go_step
      refine wp_load_rp rfl _ rfl q r1 M rfl HS7.out.at_ ?_
      iterate 3 go_step
      rw [← HW8.out]
      refine wp_store_rp rfl _ _ rfl w7.heap.size r1 M rfl rfl HT8.out ?_
      obtain ⟨w8, hw8⟩ : ∃ W, W = W8.setCells w7.heap.size 0 (rpC r1 M) := ⟨_, rfl⟩
      have hb8 : Below w7.heap.size w7 w8 := by rw [hw8]; exact below_setCellsR hb78 (Nat.le_refl _) _ _
      have hl8' : w7.heap.size < w8.heap.size := by rw [hw8, size_setCells]; exact hl8
      have HS8 := Lib.hid (HS7.out.more hb8 w7.heap.size (Nat.le_refl _) hl8')
      have HQ8 := Lib.hid (show St w w8 (w7.heap.size :: gb2 :: bb :: [gb, q]) g2 gb2 c2 w7.heap.size X2 M r1 L from
        ⟨HP7.out.keep hb8, HS8.out.isp, HS8.out.good, HS8.out.ref, by rw [hw8]; exact RpAt.stored HT8.out r1 M, by rw [hw8]; exact World.there_setCells HT8.out _ _ _, by simp, by simp, by omega, by omega, by omega, by omega, HS8.out.bl, HS8.out.bel⟩)
      have HO8 := Lib.hid (HO7.out.keep hb8)
      rw [← hw8]
      obtain ⟨q2, hq2⟩ : ∃ q, w7.heap.size = q := ⟨_, rfl⟩
      rw [hq2] at HQ8 HS8 ⊢
      have n1 : g ≠ gb2 := by omega
      have n2 : gb ≠ gb2 := by omega
      have n3 : q ≠ gb2 := by omega
      have n4 : bb ≠ gb2 := by omega
      have n5' : g ≠ q2 := by omega
      have n6 : gb ≠ q2 := by omega
      have n7 : q ≠ q2 := by omega
      have n8 : bb ≠ q2 := by omega
      have n9 : g ≠ bb := by omega
      have n10 : gb ≠ bb := by omega
      have n11 : q ≠ bb := by omega
      have n12 : g2 ≠ bb := by omega
      have n13 : gb2 ≠ bb := by omega
      have n14 : q2 ≠ bb := by omega
      have nbb : w.heap.size ≤ bb := by omega
      obtain ⟨bad, hbad⟩ : ∃ b, (q2 :: gb2 :: bb :: [gb, q]) = b := ⟨_, rfl⟩
      have mb : bb ∈ bad := by rw [← hbad]; simp
      rw [hbad] at HQ8 HS8
      clear hbad hq2 hw8 hb8 hb78 hl8 hl8' HT8 HW8 HS7 HO7 HP7 hg2 hgb2 hlt2 hz5 hz6 hz7 hltr hqr hbb0 hbbl hbelr
      go_wp2_with fail
      go_loopw [87] (BkRel2 w bad g gb N q [] M r1 L g2 gb2 c2 q2 X2 F' wr.heap.size bb n5 c5) (fun i _ => m' - (intOf i).toNat)
      case atStart => exact ⟨0, r1, L, Nat.zero_le _, rfl, HS8.out, HQ8.out, HO8.out⟩
      case round =>
        rename World => wx
        obtain ⟨j, rj, Lj, hj, rfl, hsp, hsq, hob⟩ := hrel
        have HSP := Lib.hid hsp
        have HSQ := Lib.hid hsq
        have HOB := Lib.hid hob
        rw [HF'.out] at hj
        clear hsp hsq hob HS8 HQ8 HO8
        by_cases hlt : j < m'
        · have hjF : j < F'.length := by rw [HF'.out]; exact hlt
          have hlt' : (j : Int) < (m' : Int) := by omega
          have i0 : (0 : Int) ≤ (j : Int) := by omega
          obtain ⟨b, off, hAe, hcell⟩ := HA'.out.at (by omega)
          obtain ⟨B, sc, hrg, hrd⟩ := (hcell j hjF).range
          have hdm : dd_ F' j ∈ F' := by rw [dd_lt hjF]; exact List.getElem_mem hjF
          have HDT := Lib.hid (doAll_take (M := M) hjF)
          have HDO := Lib.hid (HOK'.out _ hdm)
          have HDL := Lib.hid (HSM'.out.2 _ hdm)
          obtain ⟨d, hd⟩ : ∃ d, dd_ F' j = d := ⟨_, rfl⟩
          obtain ⟨Mj, hMj⟩ : ∃ Z, doAll M (F'.take j) = Z := ⟨_, rfl⟩
          rw [hd] at hrg hrd HDT HDO HDL
          rw [hMj] at HSQ HDT
          have hblk : b < w.heap.size := World.block_lt_of_cell? w ⟨b, off + j * 3 + 0, none⟩ (hrg 0 _ rfl)
          have HNE := Lib.hid (show ∀ a, B = some a → d.b ≠ [] → a.block ≠ gb2 from fun a ha hne => by
            have h1 : a.block < w.heap.size := by
              rcases hrd with h | ⟨b', o', hB, hc'⟩
              · exact absurd h hne
              · rw [ha] at hB
                injection hB with hB
                subst hB
                exact World.block_lt_of_cell? w _ (hc' 0 (List.length_pos_iff.2 hne))
            have := HSQ.out.gb0
            omega)
          have HRG := Lib.hid (rangeKeep hrg HSQ.out.bel hblk)
          have HRD := Lib.hid (hrd.keep HSQ.out.bel)
          subst hAe
          clear hcell hrg hrd hd hMj hdm hblk
          go_upto_region 19 with fail
          iterate 4 go_step
          refine wp_load_dd rfl _ rfl b (off + j * 3) d B sc rfl HRG.out ?_
          obtain ⟨W9, hW9⟩ : ∃ W, W = wx.alloc (.cells #[.int .i64 0, .int .i64 0, .slice none 0 0] 37) := ⟨_, rfl⟩
          have hb9 : Below wx.heap.size wx W9 := by rw [hW9]; exact (Below.refl _ _).alloc (Nat.le_refl _) _
          have HT9 := Lib.hid (show W9.there wx.heap.size 0 3 by rw [hW9]; exact there_new3 wx _ _ _ _)
          have HW9 := Lib.hid hW9
          clear hW9
          iterate 3 go_step
          rw [← HW9.out]
          clear HW9
          refine wp_store_dd rfl _ _ rfl wx.heap.size d B sc rfl rfl HT9.out ?_
          obtain ⟨w10, hw10⟩ : ∃ W, W = W9.setCells wx.heap.size 0 (ddC d B sc) := ⟨_, rfl⟩
          have hb10 : Below wx.heap.size wx w10 := by rw [hw10]; exact below_setCellsR hb9 (Nat.le_refl _) _ _
          have HR10 := Lib.hid (show w10.rangeAt wx.heap.size 0 (ddC d B sc) by rw [hw10]; exact World.rangeAt_setCells_same _ _ _ _ HT9.out)
          have HSP10 := Lib.hid (HSP.out.keep hb10)
          have HSQ10 := Lib.hid (HSQ.out.keep hb10)
          have HOB10 := Lib.hid (HOB.out.keep hb10)
          have HRD10 := Lib.hid (HRD.out.keep hb10)
          rw [← hw10]
          clear hw10 hb9 hb10 HT9 HSP HSQ HOB HRD HRG
          go_upto_region 20 with fail
          iterate 4 go_step
          refine wp_load_rp rfl _ rfl q2 rj Mj rfl HSQ10.out.at_ ?_
          refine wp_load_dd rfl _ rfl wx.heap.size 0 d B sc rfl HR10.out ?_
          go_wp2_with fail
          refine (step9_any _ bad g2 gb2 c2 Lj X2 Mj Mj rj HSQ10.out.pg HSQ10.out.isp HSQ10.out.good HSQ10.out.ref HSQ10.out.good.sm HSQ10.out.bl HSQ10.out.gbb d B sc HDO.out HDL.out HRD10.out HNE.out (.inr HSQ10.out.good) _ rfl).mono ?_
          rintro e w11 ⟨r11, bq, rfl, hv11, hbq, hg11, L11, hp11, hi11, hm11⟩
          obtain ⟨M11, hM11⟩ : ∃ Z, doM Mj d = Z := ⟨_, rfl⟩
          rw [hM11] at hv11 hg11 hp11 hi11 HDT ⊢
          obtain ⟨hs12, ht11⟩ := HSQ10.out.put hp11 hi11 hg11 hv11 hm11
          have hb011 : Below w.heap.size w w11 := hm11.below HSQ10.out.bel HSQ10.out.gb0 HSQ10.out.bel.size
          have hsp11 := HSP10.out.frame (t := gb2) (fun k hk hl => hm11.block k hl hk) HSQ10.out.gbb n1 n2 n3 hb011 hm11.size
          have hob11 := HOB10.out.ne (t := gb2) (fun k hk hl => hm11.block k hl hk) n4
          have hsp12 := hsp11.frame (w' := w11.setCells q2 0 (rpC r11 M11)) (t := q2) (fun k hk _ => heap_setCells_ne _ _ _ _ hk) HSQ10.out.qb n5' n6 n7 hs12.bel (by rw [size_setCells]; exact Nat.le_refl _)
          have hob12 := hob11.ne (w' := w11.setCells q2 0 (rpC r11 M11)) (t := q2) (fun k hk _ => heap_setCells_ne _ _ _ _ hk) n8
          have HSQ12 := Lib.hid hs12
          have HSP12 := Lib.hid hsp12
          have HOB12 := Lib.hid hob12
          have HT11 := Lib.hid ht11
          clear hs12 ht11 hv11 hg11 hp11 hi11 hm11 hbq hM11 hb011 hsp11 hob11 hsp12 hob12 HSP10 HSQ10 HOB10 HRD10 HR10
          simp only []
          iterate 10 go_step
          refine wp_store_rp rfl _ _ rfl q2 r11 M11 rfl rfl HT11.out ?_
          obtain ⟨w12, hw12⟩ : ∃ W, W = w11.setCells q2 0 (rpC r11 M11) := ⟨_, rfl⟩
          rw [← hw12] at HSQ12 HSP12 HOB12 ⊢
          clear hw12 HT11
          go_wp2_with fail
          go_roundw
          case rel => exact ⟨j + 1, r11, L11, by omega, by go_num, HSP12.out, by rw [HDT.out]; exact HSQ12.out, HOB12.out⟩
          case measure => simp [intOf]; omega
        · obtain rfl : j = m' := by omega
          rw [show F'.take j = F' by rw [← HF'.out, List.take_length]] at HSQ
          obtain ⟨M2, hM2⟩ : ∃ Z, doAll M F' = Z := ⟨_, rfl⟩
          rw [hM2] at HSQ
          clear hM2 HA' HOK' HF' HSM'
          go_wp2_with fail
          go_loopw [21] (BkRel3 w bad g gb N q [] M r1 L g2 gb2 c2 q2 X2 M2 rj Lj wr.heap.size bb n5 c5) (fun i _ => n5 - (intOf i).toNat)
          case atStart => exact ⟨0, L, Nat.zero_le _, rfl, HSP.out, HSQ.out, HOB.out⟩
          case round =>
            rename World => wy
            obtain ⟨k, Lk, hk, rfl, hsp, hsq, hob⟩ := hrel
            have HSPk := Lib.hid hsp
            have HSQk := Lib.hid hsq
            have HOBk := Lib.hid hob
            clear hsp hsq hob HSP HSQ HOB
            by_cases hlt : k < n5
            · have hlt' : (k : Int) < (n5 : Int) := by omega
              have i0 : (0 : Int) ≤ (k : Int) := by omega
              have hc1 := HOBk.out.cellAt k hlt
              have hf1 := HOBk.out.frozenAt k
              obtain ⟨x, hx⟩ : ∃ x, bt Lk k = x := ⟨_, rfl⟩
              rw [hx] at hc1
              obtain ⟨y, hy⟩ : ∃ y, IntKind.u8.wrap (x + 1) = y := ⟨_, rfl⟩
              clear hx
              go_wp2_with fail
              go_roundw
              case rel =>
                have e : ∀ v i, i ≠ bb → i < wy.heap.size → (wy.setCell ⟨bb, k, none⟩ v).heap[i]? = wy.heap[i]? := fun v i hi _ => heap_setG_ne _ _ _ hi
                refine ⟨k + 1, _, by omega, by go_num, HSPk.out.frame (t := bb) (e _) mb n9 n10 n11 (HSPk.out.bel.setCell nbb _) (by rw [size_setG]; exact Nat.le_refl _), HSQk.out.frame (t := bb) (e _) mb n12 n13 n14 (HSPk.out.bel.setCell nbb _) (by rw [size_setG]; exact Nat.le_refl _), HOBk.out.stored k _⟩
              case measure => simp [intOf]; omega
            · obtain rfl : k = n5 := by omega
              clear HOBk
              go_wp2_with fail
              refine (live_any _ _ rfl).mono ?_
              rintro e w20 ⟨rfl, hb20⟩
              have HSP20 := Lib.hid (HSPk.out.keep hb20)
              have HSQ20 := Lib.hid (HSQk.out.keep hb20)
              clear hb20 HSPk HSQk
              simp only []
              iterate 6 go_step
              refine wp_load_rpg rfl _ rfl q r1 M rfl HSP20.out.at_ ?_
              go_wp2_with fail
              refine (same9_any _ bad g gb N L [] M r1 HSP20.out.pg HSP20.out.isp HSP20.out.good HSP20.out.ref _ rfl).mono ?_
              rintro e w21 ⟨rfl, hb21⟩
              have HSQ21 := Lib.hid (HSQ20.out.keep hb21)
              clear hb21 HSP20 HSQ20
              simp only []
              iterate 9 go_step
              refine wp_load_rpg rfl _ rfl q2 rj M2 rfl HSQ21.out.at_ ?_
              go_wp2_with fail
              refine (same9_any _ bad g2 gb2 c2 Lj X2 M2 rj HSQ21.out.pg HSQ21.out.isp HSQ21.out.good HSQ21.out.ref _ rfl).mono ?_
              rintro e w22 ⟨rfl, hb22⟩
              have hbf := HSQ21.out.bel.trans (hb22.mono HSQ21.out.bel.size)
              go_wp2_with fail
              rw [HRR.out]
              exact ⟨rfl, hbf⟩
end Go.Proofs.Ytoeaffmlolapnaa
