/- Walk: SlotsPlays. -/
import Derived.Test.YtoeaffmlolapnaaSrF
import Derived.Test.YtoeaffmlolapnaaSrG
namespace Go.Proofs.Ytoeaffmlolapnaa
open Go.RowKit
set_option maxRecDepth 100000
set_option linter.unusedVariables false
set_option linter.unusedSimpArgs false
set_option linter.unnecessarySimpa false

def ddC (d : Dd) (B : Option Addr) (sc : Nat) : List Value := [.int .i64 d.kd, .int .i64 d.i, .slice B d.b.length sc]
theorem size_dd : (Try.prog.info? 37).map (·.size) = some 3 := by kernel_rfl
theorem one_dd (d : Dd) (B : Option Addr) (sc : Nat) : (ddC d B sc).toArray.all (·.oneCell') = true := all_oneCell_toArray (by intro u hu; simp [ddC] at hu; rcases hu with rfl | rfl | rfl <;> rfl)
theorem wp_store_dd {ops : Array Oper} {rest : List Oper} {op : Oper} {a : Act} {w : World} {Q : Exit → Act → World → Prop} (hgd : op.guard = none) (x y : Operand) (ho : op.op = .store 37 x y) (g : Nat) (d : Dd) (B : Option Addr) (sc : Nat)
    (hx : a.eval x = .pointer (some ⟨g, 0, none⟩)) (hy : a.eval y = .agg #[.int .i64 d.kd, .int .i64 d.i, .slice B d.b.length sc]) (ht : w.there g 0 3) (h : wpList Try.prog ops Q rest (a.put op.dst undef) (w.setCells g 0 (ddC d B sc))) : wpList Try.prog ops Q (op :: rest) a w :=
  wpList_store_mid hgd 37 x y ho g 0 (ddC d B sc).toArray hx hy ht size_dd (one_dd d B sc) h
theorem wp_load_dd {ops : Array Oper} {rest : List Oper} {op : Oper} {a : Act} {w : World} {Q : Exit → Act → World → Prop} (hgd : op.guard = none) (x : Operand) (ho : op.op = .load 37 x) (g o : Nat) (d : Dd) (B : Option Addr) (sc : Nat)
    (hx : a.eval x = .pointer (some ⟨g, o, none⟩)) (hc : w.rangeAt g o (ddC d B sc)) (h : wpList Try.prog ops Q rest (a.put op.dst (.agg #[.int .i64 d.kd, .int .i64 d.i, .slice B d.b.length sc])) w) : wpList Try.prog ops Q (op :: rest) a w :=
  wpList_load_mid hgd 37 x ho g o hx (ddC d B sc) _ hc Try.underlying37 rfl size_dd h
theorem there_new3 (w : World) (a b c : Value) (t : TypeId) : (w.alloc (.cells #[a, b, c] t)).there w.heap.size 0 3 := by
  intro j hj
  rcases (by omega : j = 0 ∨ j = 1 ∨ j = 2) with rfl | rfl | rfl <;> simp [go_sem]
theorem DdCell.range {w : World} {b o : Nat} {d : Dd} (h : DdCell w b o d) : ∃ B sc, w.rangeAt b o (ddC d B sc) ∧ Rd w B d.b := by
  obtain ⟨B, sc, h1, h2, h3, _, _, h6⟩ := h
  refine ⟨B, sc, fun j v hv => ?_, h6⟩
  have hj : j < 3 := (List.getElem?_eq_some_iff.1 hv).1
  rcases (by omega : j = 0 ∨ j = 1 ∨ j = 2) with rfl | rfl | rfl
  · rw [Nat.add_zero, h1]; exact hv
  · rw [h2]; exact hv
  · rw [h3]; exact hv
theorem rangeKeep {w w' : World} {g o : Nat} {vs : List Value} {B : Nat} (h : w.rangeAt g o vs) (hb : Below B w w') (hg : g < B) : w'.rangeAt g o vs := fun j v hv => (hb.cell (p := ⟨g, o + j, none⟩) hg).trans (h j v hv)
theorem wpList_wantedR {P : Program} {ops : Array Oper} {Q : Exit → Act → World → Prop} {a : Act} {w : World} {rest : List Oper} {o : Oper} (hw : Region.wanted o (yielded ops a.tmps) = true)
    (h : ∀ K : Act → World → Prop, (∀ a w, wpList P ops Q rest a w → K a w) → o.wp P a w K Q) : wpList P ops Q (o :: rest) a w :=
  wpList_step fun K hK => by rw [if_pos hw]; exact h K hK
theorem wp_load_rpg {ops : Array Oper} {rest : List Oper} {op : Oper} {a : Act} {w : World} {Q : Exit → Act → World → Prop} (hw : Region.wanted op (yielded ops a.tmps) = true) (x : Operand) (ho : op.op = .load 33 x) (g : Nat) (r : RV) (M : Mdl)
    (hx : a.eval x = .pointer (some ⟨g, 0, none⟩)) (hc : RpAt w g r M) (h : wpList Try.prog ops Q rest (a.put op.dst (r.val M)) w) : wpList Try.prog ops Q (op :: rest) a w :=
  wpList_wantedR hw fun _ hK => wp_load_mid 33 x ho g 0 hx (rpC r M) _ hc.range Try.underlying33 rfl size_rp (hK _ _ h)

/-- A page, and the document's, which lies in block q. -/
structure St (w wr : World) (bad : List Nat) (g gb c q : Nat) (X : List Value) (M : Mdl) (r : RV) (L : List Int) : Prop where
  pg : Pg wr g gb c M.h L X
  isp : IsP L M
  good : Good M
  ref : RefV wr bad M r
  at_ : RpAt wr q r M
  there : wr.there q 0 4
  qb : q ∈ bad
  gbb : gb ∈ bad
  gq : g ≠ q
  gbq : gb ≠ q
  gb0 : w.heap.size ≤ gb
  q0 : w.heap.size ≤ q
  bl : ∀ i ∈ bad, i < wr.heap.size
  bel : Below w.heap.size w wr
theorem St.keep {w wr w' : World} {bad : List Nat} {g gb c q : Nat} {X : List Value} {M : Mdl} {r : RV} {L : List Int} (s : St w wr bad g gb c q X M r L) (hb : Below wr.heap.size wr w') : St w w' bad g gb c q X M r L :=
  ⟨s.pg.keep hb, s.isp, s.good, s.ref.keep hb, s.at_.keep hb, there_keepR s.there hb (by have := s.at_.lt; exact this), s.qb, s.gbb, s.gq, s.gbq, s.gb0, s.q0, fun i hi => by have := s.bl i hi; have := hb.size; omega, s.bel.trans (hb.mono s.bel.size)⟩
/-- A deed is done: the document's new page lies in block n, and is put into q. -/
theorem St.done {w wr w1 w2 : World} {bad : List Nat} {g gb c q : Nat} {X : List Value} {M M' : Mdl} {r r' : RV} {L L' : List Int} (s : St w wr bad g gb c q X M r L)
    (hp : Pg w1 g gb c M'.h L' X) (hi : IsP L' M') (hg : Good M') (hr : RefV w1 bad M' r') (hm : Mut wr gb w1) (h2 : w2 = ((w1.alloc (.cells #[.int .i64 0, .slice none 0 0, .slice none 0 0, .slice none 0 0] 33)).setCells w1.heap.size 0 (rpC r' M'))) :
    St w (w2.setCells q 0 (rpC r' M')) bad g gb c q X M' r' L' ∧ RpAt w2 w1.heap.size r' M' ∧ w2.there q 0 4 := by
  have hlt := s.at_.lt
  have hs1 : wr.heap.size ≤ w1.heap.size := hm.size
  have hb12 : Below w1.heap.size w1 w2 := by rw [h2]; exact below_setCellsR ((Below.refl _ _).alloc (Nat.le_refl _) _) (Nat.le_refl _) _ _
  have hT1 : w1.there q 0 4 := there_blk (hm.block q hlt (Ne.symm s.gbq)) s.there
  have hT2 : w2.there q 0 4 := there_keepR hT1 hb12 (by omega)
  have hn2 : RpAt w2 w1.heap.size r' M' := by rw [h2]; exact RpAt.stored (there_new4 w1 _ _ _ _ _) r' M'
  have hb1 : Below w.heap.size w w1 := hm.below s.bel s.gb0 s.bel.size
  have hb2 : Below w.heap.size w w2 := hb1.trans (hb12.mono (Nat.le_trans s.bel.size hs1))
  have hp2 := hp.keep hb12
  refine ⟨⟨⟨(heap_setCells_ne _ _ _ _ s.gq).trans hp2.head, (heap_setCells_ne _ _ _ _ s.gbq).trans hp2.row, hp2.cap, hp2.most, hp2.byts⟩, hi, hg, ?_, RpAt.stored hT2 r' M', World.there_setCells hT2 _ _ _, s.qb, s.gbb, s.gq, s.gbq, s.gb0, s.q0, fun i hi => ?_, below_setCellsR hb2 s.q0 _ _⟩, hn2, hT2⟩
  · exact (hr.keep hb12).frame (fun i hi _ => heap_setCells_ne _ _ _ _ (fun e => hi (by rw [e]; exact s.qb))) (fun _ h => h)
  · rw [size_setCells]
    have := s.bl i hi
    have := hb12.size
    omega
theorem St.mem {bad : List Nat} {q gb : Nat} (h : bad = [gb, q]) : q ∈ bad ∧ gb ∈ bad := by subst h; simp
def PlRel (w : World) (bad : List Nat) (g gb c q : Nat) (X : List Value) (M0 : Mdl) (F : List Dd) (iv : Value) (wr : World) : Prop :=
  ∃ (j : Nat) (r : RV) (L : List Int), j ≤ F.length ∧ iv = .int .i64 j ∧ St w wr bad g gb c q X (doAll M0 (F.take j)) r L

set_option maxHeartbeats 32000000 in
theorem slotsPlays_walk (w : World) (n h : Int) (A : Option Addr) (m c : Nat) (F : List Dd) (hn : i64b n) (hh : i64b h) (hF : F.length = m) (hmc : m ≤ c) (hcm : c ≤ maxLen) (hA : RdDd w A F) (hok : ∀ d ∈ F, DdOk d) :
    Calls Try.prog 3 #[.int .i64 n, .int .i64 h, .slice A m c] w (LiveYes w) := by
  obtain ⟨R, hR⟩ : ∃ R, R = LiveYes w := ⟨_, rfl⟩
  rw [← hR]
  have HRR := Lib.hid hR; clear hR
  have HA := Lib.hid hA
  have HF := Lib.hid hF
  have HOK := Lib.hid hok
  have hm63 : m ≤ 9223372036854775807 := by unfold maxLen at hcm; omega
  have hsm := small9_any w A m c F hF hmc hcm hA
  clear hA hok hF
  go_enter Try.func3, Try.ntmps3
  go_wp2_with fail
  refine hsm.mono ?_
  clear hsm
  rintro e w1 ⟨rfl, rfl⟩
  by_cases hsml : smallD F
  case neg =>
    rw [decide_eq_false hsml]
    clear hsml
    go_wp2_with fail
    refine (live_any _ _ rfl).mono ?_
    rintro e w2 ⟨rfl, hb2⟩
    go_wp2_with fail
    rw [HRR.out]
    exact ⟨rfl, hb2⟩
  rw [decide_eq_true hsml]
  have HSM := Lib.hid hsml
  have hm100 : m ≤ 100 := by rw [← HF.out]; exact hsml.1
  clear hsml
  go_wp2_with fail
  refine (pNew_any _ n h hn hh _ rfl).mono ?_
  rintro e w2 ⟨hb2, ⟨hno, rfl⟩ | ⟨hm, g, gb, rfl, hg0, hgb0, hp⟩⟩
  · go_wp2_with fail
    refine (rNew_any _ [] n h hn hh (by simp) _ rfl).mono ?_
    rintro e w3 ⟨hb3, r, M, z, rfl, hv, ⟨_, rfl, rfl⟩ | ⟨hm, _⟩⟩
    case inr => exact absurd hm hno
    have hb3' : Below w.heap.size w w3 := hb2.trans (hb3.mono hb2.size)
    have q1 : ((1 : Int) != 1) = false := rfl
    have q2 : ((1 : Int) != 0) = true := rfl
    obtain ⟨W4, hW4⟩ : ∃ W, W = w3.alloc (.cells #[.int .i64 0, .slice none 0 0, .slice none 0 0, .slice none 0 0] 33) := ⟨_, rfl⟩
    have hb4 : Below w3.heap.size w3 W4 := by rw [hW4]; exact (Below.refl _ _).alloc (Nat.le_refl _) _
    have HT4 := Lib.hid (show W4.there w3.heap.size 0 4 by rw [hW4]; exact there_new4 w3 _ _ _ _ _)
    have HW4 := Lib.hid hW4
    clear hW4
    simp only []
    iterate 13 go_step
    rw [← HW4.out]
    refine wp_store_rp rfl _ _ rfl w3.heap.size r zeroM rfl rfl HT4.out ?_
    obtain ⟨w5, hw5⟩ : ∃ W, W = W4.setCells w3.heap.size 0 (rpC r zeroM) := ⟨_, rfl⟩
    have hb5 : Below w.heap.size w w5 := by rw [hw5]; exact below_setCellsR (hb3'.trans (hb4.mono hb3'.size)) hb3'.size _ _
    rw [← hw5]
    clear hw5
    go_wp2_with fail
    refine (live_any _ _ rfl).mono ?_
    rintro e w6 ⟨rfl, hb6⟩
    go_wp2_with fail
    rw [HRR.out]
    exact ⟨rfl, hb5.trans (hb6.mono hb5.size)⟩
  go_wp2_with fail
  have hltp := hp.lt
  refine (rNew_any _ [gb] n h hn hh (by intro i hi; simp at hi; subst hi; exact hltp.2) _ rfl).mono ?_
  rintro e w3 ⟨hb3, r, M, z, rfl, hv, ⟨hm', _⟩ | ⟨_, rfl, rfl⟩⟩
  · exact absurd hm hm'
  have HMP := Lib.hid hm
  obtain ⟨N, hN⟩ : ∃ N, n.toNat = N := ⟨_, rfl⟩
  obtain ⟨D, hD⟩ : ∃ D, h.toNat = D := ⟨_, rfl⟩
  rw [hN, hD] at hv hp ⊢
  have hND : mayP (N : Int) (D : Int) := by
    obtain ⟨m1, m2, m3, m4⟩ := hm
    rw [← hN, ← hD, Int.toNat_of_nonneg (by omega), Int.toNat_of_nonneg m3]
    exact ⟨m1, m2, m3, m4⟩
  obtain ⟨M0, hM0⟩ : ∃ M, newM N D = M := ⟨_, rfl⟩
  have hh0 : M0.h = D := by rw [← hM0, new_h]
  have hg0' : Good M0 := by rw [← hM0]; exact new_good hND
  have hi0' : IsP (List.replicate N 0) M0 := by rw [← hM0]; exact new_page hND
  rw [hM0] at hv ⊢
  clear hm hN hD hM0 hND
  have hb3' : Below w.heap.size w w3 := hb2.trans (hb3.mono hb2.size)
  have q1 : ((0 : Int) != 0) = false := rfl
  obtain ⟨W4, hW4⟩ : ∃ W, W = w3.alloc (.cells #[.int .i64 0, .slice none 0 0, .slice none 0 0, .slice none 0 0] 33) := ⟨_, rfl⟩
  have hb4 : Below w3.heap.size w3 W4 := by rw [hW4]; exact (Below.refl _ _).alloc (Nat.le_refl _) _
  have HT4 := Lib.hid (show W4.there w3.heap.size 0 4 by rw [hW4]; exact there_new4 w3 _ _ _ _ _)
  have HW4 := Lib.hid hW4
  clear hW4
  simp only []
  iterate 13 go_step
  rw [← HW4.out]
  refine wp_store_rp rfl _ _ rfl w3.heap.size r M0 rfl rfl HT4.out ?_
  obtain ⟨w5, hw5⟩ : ∃ W, W = W4.setCells w3.heap.size 0 (rpC r M0) := ⟨_, rfl⟩
  have hb35 : Below w3.heap.size w3 w5 := by rw [hw5]; exact below_setCellsR hb4 (Nat.le_refl _) _ _
  have hz3 := hb3.size
  have HS := Lib.hid (show St w w5 [gb, w3.heap.size] g gb N w3.heap.size [] M0 r (List.replicate N 0) by
    have hl5 : w3.heap.size < w5.heap.size := by rw [hw5, size_setCells, HW4.out]; simp
    refine ⟨by rw [hh0]; exact (hp.keep hb3).keep hb35, hi0', hg0', ?_, ?_, ?_, by simp, by simp, by omega, by omega, hgb0, hb3'.size, ?_, hb3'.trans (hb35.mono hb3'.size)⟩
    · refine RefV.frame (bad' := [w3.heap.size, gb]) (w := W4) ((hv.more (Nat.le_refl _)).keep hb4) (fun i hi _ => ?_) (fun i hi => ?_)
      · rw [hw5]; exact heap_setCells_ne _ _ _ _ (fun e => hi (by rw [e]; simp))
      · simp at hi ⊢; omega
    · rw [hw5]; exact RpAt.stored HT4.out r M0
    · rw [hw5]; exact World.there_setCells HT4.out _ _ _
    · intro i hi
      simp at hi
      rcases hi with rfl | rfl <;> omega)
  rw [← hw5]
  obtain ⟨q, hq⟩ : ∃ q, w3.heap.size = q := ⟨_, rfl⟩
  rw [hq] at HS ⊢
  clear hw5 hb35 hb3' hb3 hb4 HT4 HW4 hz3 hv hp hi0' hg0' hh0 hltp hb2 hg0 hgb0 hq
  obtain ⟨bad, hbad⟩ : ∃ b, [gb, q] = b := ⟨_, rfl⟩
  rw [hbad] at HS
  clear hbad
  go_wp2_with fail
  go_loopw [50] (PlRel w bad g gb N q [] M0 F) (fun i _ => m - (intOf i).toNat)
  case atStart => exact ⟨0, r, _, Nat.zero_le _, rfl, HS.out⟩
  case round =>
    obtain ⟨j, r1, L, hj, rfl, hst⟩ := hrel
    have HST := Lib.hid hst
    rw [HF.out] at hj
    clear hst HS
    by_cases hlt : j < m
    · have hjF : j < F.length := by rw [HF.out]; exact hlt
      have hlt' : (j : Int) < (m : Int) := by omega
      have i0 : (0 : Int) ≤ (j : Int) := by omega
      obtain ⟨b, off, hAe, hcell⟩ := HA.out.at (by omega)
      obtain ⟨B, sc, hrg, hrd⟩ := (hcell j hjF).range
      have hdm : dd_ F j ∈ F := by rw [dd_lt hjF]; exact List.getElem_mem hjF
      have HDT := Lib.hid (doAll_take (M := M0) hjF)
      have HDO := Lib.hid (HOK.out _ hdm)
      have HDL := Lib.hid (HSM.out.2 _ hdm)
      obtain ⟨d, hd⟩ : ∃ d, dd_ F j = d := ⟨_, rfl⟩
      obtain ⟨Mj, hMj⟩ : ∃ M, doAll M0 (F.take j) = M := ⟨_, rfl⟩
      rw [hd] at hrg hrd HDT HDO HDL
      rw [hMj] at HST HDT
      have hblk : b < w.heap.size := World.block_lt_of_cell? w ⟨b, off + j * 3 + 0, none⟩ (hrg 0 _ rfl)
      have HNE := Lib.hid (show ∀ a, B = some a → d.b ≠ [] → a.block ≠ gb from fun a ha hne => by
        have h1 : a.block < w.heap.size := by
          rcases hrd with h | ⟨b', o', hB, hc'⟩
          · exact absurd h hne
          · rw [ha] at hB
            injection hB with hB
            subst hB
            exact World.block_lt_of_cell? w _ (hc' 0 (List.length_pos_iff.2 hne))
        have := HST.out.gb0
        omega)
      have HRG := Lib.hid (rangeKeep hrg HST.out.bel hblk)
      have HRD := Lib.hid (hrd.keep HST.out.bel)
      subst hAe
      clear hcell hrg hrd hd hMj hdm hblk
      go_upto_region 11 with fail
      iterate 4 go_step
      refine wp_load_dd rfl _ rfl b (off + j * 3) d B sc rfl HRG.out ?_
      obtain ⟨W6, hW6⟩ : ∃ W, W = wr.alloc (.cells #[.int .i64 0, .int .i64 0, .slice none 0 0] 37) := ⟨_, rfl⟩
      have hb6 : Below wr.heap.size wr W6 := by rw [hW6]; exact (Below.refl _ _).alloc (Nat.le_refl _) _
      have HT6 := Lib.hid (show W6.there wr.heap.size 0 3 by rw [hW6]; exact there_new3 wr _ _ _ _)
      have HW6 := Lib.hid hW6
      clear hW6
      iterate 3 go_step
      rw [← HW6.out]
      clear HW6
      refine wp_store_dd rfl _ _ rfl wr.heap.size d B sc rfl rfl HT6.out ?_
      obtain ⟨w7, hw7⟩ : ∃ W, W = W6.setCells wr.heap.size 0 (ddC d B sc) := ⟨_, rfl⟩
      have hb7 : Below wr.heap.size wr w7 := by rw [hw7]; exact below_setCellsR hb6 (Nat.le_refl _) _ _
      have HR7 := Lib.hid (show w7.rangeAt wr.heap.size 0 (ddC d B sc) by rw [hw7]; exact World.rangeAt_setCells_same _ _ _ _ HT6.out)
      have HS7 := Lib.hid (HST.out.keep hb7)
      have HRD7 := Lib.hid (HRD.out.keep hb7)
      rw [← hw7]
      clear hw7 hb6 hb7 HT6 HST HRD HRG
      go_upto_region 12 with fail
      iterate 4 go_step
      refine wp_load_rp rfl _ rfl q r1 Mj rfl HS7.out.at_ ?_
      refine wp_load_dd rfl _ rfl wr.heap.size 0 d B sc rfl HR7.out ?_
      go_wp2_with fail
      refine (step9_any _ bad g gb N L [] Mj Mj r1 HS7.out.pg HS7.out.isp HS7.out.good HS7.out.ref HS7.out.good.sm HS7.out.bl HS7.out.gbb d B sc HDO.out HDL.out HRD7.out HNE.out (.inr HS7.out.good) _ rfl).mono ?_
      rintro e w8 ⟨r8, bq, rfl, hv8, hbq, hg8, L8, hp8, hi8, hm8⟩
      obtain rfl : bq = true := hbq rfl
      obtain ⟨M8, hM8⟩ : ∃ M, doM Mj d = M := ⟨_, rfl⟩
      rw [hM8] at hv8 hg8 hp8 hi8 HDT ⊢
      obtain ⟨w9, hw9⟩ : ∃ W, W = ((w8.alloc (.cells #[.int .i64 0, .slice none 0 0, .slice none 0 0, .slice none 0 0] 33)).setCells w8.heap.size 0 (rpC r8 M8)) := ⟨_, rfl⟩
      obtain ⟨hs9, hr9, ht9⟩ := HS7.out.done hp8 hi8 hg8 hv8 hm8 hw9
      have HS9 := Lib.hid hs9
      have HR9 := Lib.hid hr9
      have HT9 := Lib.hid ht9
      have HW9 := Lib.hid hw9
      have HT8 := Lib.hid (there_new4 w8 (.int .i64 0) (.slice none 0 0) (.slice none 0 0) (.slice none 0 0) 33)
      clear hs9 hr9 ht9 hw9 hv8 hg8 hp8 hi8 hm8 hbq HS7 HRD7 HR7 hM8
      simp only []
      iterate 13 go_step
      refine wp_store_rp rfl _ _ rfl w8.heap.size r8 M8 rfl rfl HT8.out ?_
      rw [← HW9.out]
      clear HW9 HT8
      go_upto_region 13 with fail
      go_step
      refine wp_load_rp rfl _ rfl w8.heap.size r8 M8 rfl HR9.out ?_
      refine wp_store_rp rfl _ _ rfl q r8 M8 rfl rfl HT9.out ?_
      obtain ⟨w10, hw10⟩ : ∃ W, W = w9.setCells q 0 (rpC r8 M8) := ⟨_, rfl⟩
      rw [← hw10] at HS9 ⊢
      clear hw10 HR9 HT9
      go_upto_region 14 with fail
      iterate 12 go_step
      refine wp_load_rpg rfl _ rfl q r8 M8 rfl HS9.out.at_ ?_
      go_wp2_with fail
      refine (same9_any _ bad g gb N L8 [] M8 r8 HS9.out.pg HS9.out.isp HS9.out.good HS9.out.ref _ rfl).mono ?_
      rintro e w11 ⟨rfl, hb11⟩
      have HS11 := Lib.hid (HS9.out.keep hb11)
      clear HS9 hb11
      go_wp2_with fail
      go_roundw
      case rel => exact ⟨j + 1, r8, L8, by omega, by go_num, by rw [HDT.out]; exact HS11.out⟩
      case measure => simp [intOf]; omega
    · obtain rfl : j = m := by omega
      rw [show F.take j = F by rw [← HF.out, List.take_length]] at HST
      obtain ⟨Mf, hMf⟩ : ∃ M, doAll M0 F = M := ⟨_, rfl⟩
      rw [hMf] at HST
      clear hMf
      have hkf := HST.out.good.kle
      go_wp2_with fail
      refine (pCell_no _ g gb N L [] Mf HST.out.pg HST.out.isp HST.out.good (-1) (by omega) (.inl (by omega))).mono ?_
      rintro e w6 ⟨A6, n6, c6, rfl, _, hb6⟩
      have HS6 := Lib.hid (HST.out.keep hb6)
      clear hb6 HST
      go_wp2_with fail
      refine (pMany_any _ g gb N L [] Mf HS6.out.pg HS6.out.isp HS6.out.good).mono ?_
      rintro e w7 ⟨rfl, rfl⟩
      go_wp2_with fail
      refine (pCell_no _ g gb N L [] Mf HS6.out.pg HS6.out.isp HS6.out.good (Mf.k : Int) (by omega) (.inr (by omega))).mono ?_
      rintro e w7 ⟨A7, n7, c7, rfl, _, hb7⟩
      have HS7 := Lib.hid (HS6.out.keep hb7)
      clear hb7 HS6
      go_wp2_with fail
      refine (live_any _ _ rfl).mono ?_
      rintro e w8 ⟨rfl, hb8⟩
      have HS8 := Lib.hid (HS7.out.keep hb8)
      clear hb8 HS7
      simp only []
      iterate 6 go_step
      refine wp_load_rpg rfl _ rfl q r1 Mf rfl HS8.out.at_ ?_
      go_wp2_with fail
      refine (same9_any _ bad g gb N L [] Mf r1 HS8.out.pg HS8.out.isp HS8.out.good HS8.out.ref _ rfl).mono ?_
      rintro e w9 ⟨rfl, hb9⟩
      have HS9 := Lib.hid (HS8.out.keep hb9)
      clear HS8 hb9
      have z1 : ((1 : Int) == 1) = true := rfl
      go_wp2_with fail
      rw [HRR.out]
      exact ⟨rfl, HS9.out.bel⟩
end Go.Proofs.Ytoeaffmlolapnaa
