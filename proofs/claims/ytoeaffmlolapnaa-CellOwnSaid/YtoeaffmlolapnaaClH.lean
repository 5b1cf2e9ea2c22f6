/- Walk: (*cell.reader).load, where nothing is wrong yet. Printed by genCh.py. -/
import Derived.Test.YtoeaffmlolapnaaClG
namespace Go.Proofs.Ytoeaffmlolapnaa
open Go.RowKit
set_option maxRecDepth 100000
set_option linter.unusedSimpArgs false
set_option linter.unusedVariables false

theorem form_no2 (w : World) (g : Nat) (A : Option Addr) (n c : Nat) (at_ : Int) (hR : RrAt w g A n c at_ 0) :
    Calls Try.prog 74 #[.pointer (some ⟨g, 0, none⟩), .bool false] w fun e w' => e = .returned (.tuple #[]) ∧ RrAt w' g A n c at_ 8 ∧ Only g w w' := by
  refine (form_no w g A n c at_ hR).mono ?_
  rintro e w' ⟨rfl, rfl⟩
  exact ⟨rfl, hR.setE 8, (Only.refl g w).setCell 2 _⟩
theorem RrAt.other {w : World} {g : Nat} {A : Option Addr} {n c : Nat} {at_ e : Int} (h : RrAt w g A n c at_ e) (b o : Nat) (hb : b ≠ g) (v : Value) : RrAt (w.setCell ⟨b, o, none⟩ v) g A n c at_ e :=
  ⟨⟨(World.cell?_setCell_other _ _ _ _ (by simp [hb])).trans h.1.1, (World.cell?_setCell_other _ _ _ _ (by simp [hb])).trans h.1.2.1, (World.cell?_setCell_other _ _ _ _ (by simp [hb])).trans h.1.2.2⟩, by rw [World.frozen?_setCell]; exact h.2.1, by rw [World.frozen?_setCell]; exact h.2.2⟩
theorem ClAt.other {w : World} {g : Nat} {c : Cl} {A : Option Addr} {n d : Nat} (h : ClAt w g c A n d) (b o : Nat) (hb : b ≠ g) (v : Value) : ClAt (w.setCell ⟨b, o, none⟩ v) g c A n d :=
  ⟨(World.cell?_setCell_other _ _ _ _ (by simp [hb])).trans h.1, (World.cell?_setCell_other _ _ _ _ (by simp [hb])).trans h.2.1, (World.cell?_setCell_other _ _ _ _ (by simp [hb])).trans h.2.2.1, (World.cell?_setCell_other _ _ _ _ (by simp [hb])).trans h.2.2.2.1, (World.cell?_setCell_other _ _ _ _ (by simp [hb])).trans h.2.2.2.2⟩
theorem ClAt.setTotal {w : World} {g : Nat} {ky ch t sp : Int} {lo : List Int} {A : Option Addr} {n d : Nat} (h : ClAt w g ⟨ky, ch, t, sp, lo⟩ A n d) (x : Int) : ClAt (w.setCell ⟨g, 2, none⟩ (.int .i64 x)) g ⟨ky, ch, x, sp, lo⟩ A n d :=
  ⟨(World.cell?_setCell_other _ _ _ _ (by simp)).trans h.1, (World.cell?_setCell_other _ _ _ _ (by simp)).trans h.2.1, World.cell?_setCell_same _ _ _ h.2.2.1, (World.cell?_setCell_other _ _ _ _ (by simp)).trans h.2.2.2.1, (World.cell?_setCell_other _ _ _ _ (by simp)).trans h.2.2.2.2⟩
theorem ClAt.setLoc {w : World} {g : Nat} {ky ch t sp : Int} {lo : List Int} {A : Option Addr} {n d : Nat} (h : ClAt w g ⟨ky, ch, t, sp, lo⟩ A n d) (x : List Int) (B : Option Addr) (m e : Nat) : ClAt (w.setCell ⟨g, 3, none⟩ (.slice B m e)) g ⟨ky, ch, t, sp, x⟩ B m e :=
  ⟨(World.cell?_setCell_other _ _ _ _ (by simp)).trans h.1, (World.cell?_setCell_other _ _ _ _ (by simp)).trans h.2.1, (World.cell?_setCell_other _ _ _ _ (by simp)).trans h.2.2.1, World.cell?_setCell_same _ _ _ h.2.2.2.1, (World.cell?_setCell_other _ _ _ _ (by simp)).trans h.2.2.2.2⟩
theorem ClAt.setSpill {w : World} {g : Nat} {ky ch t sp : Int} {lo : List Int} {A : Option Addr} {n d : Nat} (h : ClAt w g ⟨ky, ch, t, sp, lo⟩ A n d) (x : Int) : ClAt (w.setCell ⟨g, 4, none⟩ (.int .i64 x)) g ⟨ky, ch, t, x, lo⟩ A n d :=
  ⟨(World.cell?_setCell_other _ _ _ _ (by simp)).trans h.1, (World.cell?_setCell_other _ _ _ _ (by simp)).trans h.2.1, (World.cell?_setCell_other _ _ _ _ (by simp)).trans h.2.2.1, (World.cell?_setCell_other _ _ _ _ (by simp)).trans h.2.2.2.1, World.cell?_setCell_same _ _ _ h.2.2.2.2⟩
theorem there_keepC {w w' : World} {B g n : Nat} (h : w.there g 0 n) (hb : Below B w w') (hg : g < B) : w'.there g 0 n := fun j hj => by
  obtain ⟨h1, h2⟩ := h j hj
  exact ⟨by rw [hb.cell (by simpa using hg)]; exact h1, by rw [hb.frozen (by simpa using hg)]; exact h2⟩
theorem there_setC {w : World} {g n : Nat} (h : w.there g 0 n) (a : Addr) (v : Value) : (w.setCell a v).there g 0 n := fun j hj => by
  obtain ⟨h1, h2⟩ := h j hj
  refine ⟨?_, by rw [World.frozen?_setCell]; exact h2⟩
  by_cases e : a = ⟨g, 0 + j, none⟩
  · subst e
    obtain ⟨u, hu⟩ := Option.isSome_iff_exists.1 h1
    rw [World.cell?_setCell_same _ _ _ hu]; rfl
  · rw [World.cell?_setCell_other _ _ _ _ e]; exact h1
theorem rd_offC {w : World} {g off : Nat} {l : List Int} (h : Rd w (some ⟨g, off, none⟩) l) (k : Nat) : Rd w (some ⟨g, off + k, none⟩) (l.drop k) := by
  rcases h with rfl | ⟨b, o, he, hc⟩
  · exact .inl (by simp)
  · cases he
    refine .inr ⟨_, _, rfl, fun i hi => ?_⟩
    simp at hi
    have := hc (k + i) (by omega)
    rw [show off + k + i = off + (k + i) by omega, this]
    simp [bt]
theorem rd_takeC {w : World} {A : Option Addr} {l : List Int} (h : Rd w A l) (n : Nat) : Rd w A (l.take n) := by
  rcases h with h | ⟨b, off, rfl, hc⟩
  · exact .inl (by simp [h])
  · refine .inr ⟨b, off, rfl, fun i hi => ?_⟩
    simp at hi
    rw [hc i (by omega)]
    simp [bt, show i < n by omega]
theorem heapC_ne (w : World) (a : Addr) (v : Value) {i : Nat} (h : i ≠ a.block) : (w.setCell a v).heap[i]? = w.heap[i]? := by
  simp [World.setCell, Array.getElem?_modify, Ne.symm h]
theorem OwnB.apartC {w w' : World} {base : Nat} {A : Option Addr} {n c : Nat} {l : List Int} (h : OwnB w base A n c l) (hb : ∀ i, base ≤ i → w'.heap[i]? = w.heap[i]?) : OwnB w' base A n c l := by
  refine ⟨h.1, ?_⟩
  rcases h.2 with hv | ⟨g, cap, cur, hv, hbg, hg, rest⟩
  · exact .inl hv
  · exact .inr ⟨g, cap, cur, hv, hbg, (hb g hbg).trans hg, rest⟩
def HeldR (g : Nat) (A : Option Addr) (n c : Nat) (at_ : Int) (wr W : World) : Prop := RrAt W g A n c at_ 0 ∧ Below g wr W
set_option maxHeartbeats 16000000 in
theorem load_any (w : World) (g gc : Nat) (A : Option Addr) (n c : Nat) (l : List Int) (a : Nat) (ky ch : Int) (hR : RrAt w g A n c a 0) (hC : ClAt w gc ⟨ky, ch, 0, 0, []⟩ none 0 0) (hT : w.there gc 0 5) (hg : g < gc) (hgc : gc < w.heap.size)
    (hn : l.length = n) (hnc : n ≤ c) (hcm : c ≤ maxLen) (hA : Rd w A l) (hAg : ∀ x, A = some x → l ≠ [] → x.block < g) (hB : IsB l) (ha : a ≤ n) (R : Ending → World → Prop) (hP : R = LoadBack w g gc A n c ky ch (payD l a)) :
    Calls Try.prog 76 #[.pointer (some ⟨g, 0, none⟩), .pointer (some ⟨gc, 0, none⟩)] w R := by
  have HP := Lib.hid hP; clear hP
  have HN := Lib.hid hn; clear hn
  have HB := Lib.hid hB; clear hB
  have HCM := Lib.hid hcm
  unfold maxLen at hcm
  have HA := Lib.hid hA; clear hA
  have HAG := Lib.hid hAg; clear hAg
  have HC := Lib.hid hC; clear hC
  have HT := Lib.hid hT; clear hT
  have HR := Lib.hid hR; clear hR
  have hfin : ∀ (W : World) (at' e' : Int), e' ≠ 0 → payD l a = py0 e' → RrAt W g A n c at' e' → Below g w W → R (.returned (.tuple #[])) W := by
    intro W at' e' h1 h2 h3 h4
    rw [HP.out]
    exact ⟨at', e', rfl, h3, by rw [h2]; rfl, fun h => absurd h h1, h4⟩
  have HFIN := Lib.hid hfin; clear hfin
  have rdOnly : ∀ W : World, Below g w W → Rd W A l := fun W hW => by
    by_cases hl0 : l = []
    · exact .inl hl0
    · exact HA.out.below hW (fun x hx => HAG.out x hx hl0)
  have RDO := Lib.hid rdOnly; clear rdOnly
  obtain ⟨⟨v, p, z⟩, hU⟩ : ∃ U, unvL l a = U := ⟨_, rfl⟩
  have HU := Lib.hid hU
  go_enter Try.func76, Try.ntmps76
  go_wp2_with fail
  by_cases hz : z = 0
  rotate_left
  · have HZE := Lib.hid hz
    have z1 : (z != 0) = true := by simp [hz]
    have z2 : (z == 0) = false := by simp [hz]
    refine (next_err _ g A n c l a v p z HR.out HN.out hnc HCM.out HA.out HB.out (by omega) hU hz).mono ?_
    rintro e w1 ⟨rfl, ⟨at1, hr1⟩, ho1⟩
    have HE := Lib.hid hr1
    have hb1 : Below g w w1 := ho1.below (Nat.le_refl _)
    clear hr1 ho1 hz hU
    go_wp2_with fail
    refine (form_bad _ g A n c _ _ _ HE.out HZE.out).mono ?_
    rintro e w0 ⟨rfl, rfl⟩
    go_wp2_with fail
    refine (next_bad _ g A n c _ _ HE.out HZE.out).mono ?_
    rintro e w0 ⟨rfl, rfl⟩
    go_wp2_with fail
    refine (form_bad _ g A n c _ _ _ HE.out HZE.out).mono ?_
    rintro e w0 ⟨rfl, rfl⟩
    obtain ⟨⟨r0, r1, r2⟩, f1, f2⟩ := HE.out
    go_upto_region 4 with fail
    go_quiet (fail)
    go_wp2
    go_end0
    exact HFIN.out _ _ _ HZE.out (pay_e1 HU.out HZE.out) (HE.out.drewN nq) (below_drewN hb1 nq)
  subst hz
  obtain ⟨q1, hq1, hq1a, hq1n, hq1v, hv1, hv2⟩ := unv_at HB.out a (by rw [hU])
  rw [hU] at hq1 hq1v hv1 hv2
  simp only at hq1 hq1v hv1 hv2
  subst hq1
  rw [HN.out] at hq1n
  clear hq1v
  refine (next_yes _ g A n c l a v q1 HR.out HN.out hnc HCM.out HA.out HB.out (by omega) hU).mono ?_
  rintro e w1 ⟨rfl, hr1, ho1⟩
  have hb1 : Below g w w1 := ho1.below (Nat.le_refl _)
  have HR1 := Lib.hid hr1
  have HO1 := Lib.hid ho1
  clear hr1 ho1 hU
  by_cases hv : v < 0 ∨ 16384 < v
  · have HV := Lib.hid hv
    have HZE := Lib.hid (show (8 : Int) ≠ 0 by decide)
    rcases hv with hv | hv
    · skip
      have hd : decide (0 ≤ v) = false := decide_eq_false (by omega)
      go_wp2_with fail
      refine (form_no2 _ g A n c _ HR1.out).mono ?_
      rintro e w2 ⟨rfl, hr2, ho2⟩
      have HE := Lib.hid hr2
      have hb2 : Below g w w2 := hb1.trans (ho2.below (Nat.le_refl _))
      clear hr2 ho2
      go_wp2_with fail
      refine (next_bad _ g A n c _ _ HE.out HZE.out).mono ?_
      rintro e w0 ⟨rfl, rfl⟩
      go_wp2_with fail
      refine (form_bad _ g A n c _ _ _ HE.out HZE.out).mono ?_
      rintro e w0 ⟨rfl, rfl⟩
      obtain ⟨⟨r0, r1, r2⟩, f1, f2⟩ := HE.out
      go_upto_region 4 with fail
      go_quiet (fail)
      go_wp2
      go_end0
      exact HFIN.out _ _ _ HZE.out (pay_f1 HU.out HV.out) (HE.out.drewN nq) (below_drewN hb2 nq)
    · skip
      have hd : decide (v ≤ 16384) = false := decide_eq_false (by omega)
      go_wp2_with fail
      refine (form_no2 _ g A n c _ HR1.out).mono ?_
      rintro e w2 ⟨rfl, hr2, ho2⟩
      have HE := Lib.hid hr2
      have hb2 : Below g w w2 := hb1.trans (ho2.below (Nat.le_refl _))
      clear hr2 ho2
      go_wp2_with fail
      refine (next_bad _ g A n c _ _ HE.out HZE.out).mono ?_
      rintro e w0 ⟨rfl, rfl⟩
      go_wp2_with fail
      refine (form_bad _ g A n c _ _ _ HE.out HZE.out).mono ?_
      rintro e w0 ⟨rfl, rfl⟩
      obtain ⟨⟨r0, r1, r2⟩, f1, f2⟩ := HE.out
      go_upto_region 4 with fail
      go_quiet (fail)
      go_wp2
      go_end0
      exact HFIN.out _ _ _ HZE.out (pay_f1 HU.out HV.out) (HE.out.drewN nq) (below_drewN hb2 nq)
  have HV := Lib.hid hv
  have hv0 : 0 ≤ v := by omega
  have hv9 : v ≤ 16384 := by omega
  clear hv
  go_wp2_with fail
  refine (form_ok _ g A n c _ _ HR1.out).mono ?_
  rintro e w2 ⟨rfl, rfl⟩
  obtain ⟨⟨m, p2, z2⟩, hU2⟩ : ∃ U, unvL l q1 = U := ⟨_, rfl⟩
  have HU2 := Lib.hid hU2
  go_wp2_with fail
  by_cases hz2 : z2 = 0
  rotate_left
  · have HZE := Lib.hid hz2
    have z1 : (z2 != 0) = true := by simp [hz2]
    have z2' : (z2 == 0) = false := by simp [hz2]
    refine (next_err _ g A n c l q1 m p2 z2 HR1.out HN.out hnc HCM.out (RDO.out _ hb1) HB.out (by omega) hU2 hz2).mono ?_
    rintro e w3 ⟨rfl, ⟨at1, hr3⟩, ho3⟩
    have HE := Lib.hid hr3
    have hb3 : Below g w w3 := hb1.trans (ho3.below (Nat.le_refl _))
    clear hr3 ho3 hz2 hU2
    go_wp2_with fail
    refine (form_bad _ g A n c _ _ _ HE.out HZE.out).mono ?_
    rintro e w0 ⟨rfl, rfl⟩
    obtain ⟨⟨r0, r1, r2⟩, f1, f2⟩ := HE.out
    go_upto_region 4 with fail
    go_quiet (fail)
    go_wp2
    go_end0
    exact HFIN.out _ _ _ HZE.out (pay_e2 HU.out HV.out HU2.out HZE.out) (HE.out.drewN nq) (below_drewN hb3 nq)
  subst hz2
  obtain ⟨q2, hq2, hq2a, hq2n, hq2v, hm1, hm2⟩ := unv_at HB.out q1 (by rw [hU2])
  rw [hU2] at hq2 hq2v hm1 hm2
  simp only at hq2 hq2v hm1 hm2
  subst hq2
  rw [HN.out] at hq2n
  clear hq2v
  refine (next_yes _ g A n c l q1 m q2 HR1.out HN.out hnc HCM.out (RDO.out _ hb1) HB.out (by omega) hU2).mono ?_
  rintro e w3 ⟨rfl, hr3, ho3⟩
  have hb3 : Below g w w3 := hb1.trans (ho3.below (Nat.le_refl _))
  have HR3 := Lib.hid hr3
  have HO3 := Lib.hid (HO1.out.trans ho3)
  clear hr3 ho3 hU2 HR1 HO1 hb1
  by_cases hm : m < 0 ∨ v < m
  · have HM := Lib.hid hm
    have HZE := Lib.hid (show (8 : Int) ≠ 0 by decide)
    rcases hm with hm | hm
    · skip
      have hd : decide (0 ≤ m) = false := decide_eq_false (by omega)
      go_wp2_with fail
      refine (form_no2 _ g A n c _ HR3.out).mono ?_
      rintro e w4 ⟨rfl, hr4, ho4⟩
      have HE := Lib.hid hr4
      have hb4 : Below g w w4 := hb3.trans (ho4.below (Nat.le_refl _))
      clear hr4 ho4
      obtain ⟨⟨r0, r1, r2⟩, f1, f2⟩ := HE.out
      go_upto_region 4 with fail
      go_quiet (fail)
      go_wp2
      go_end0
      exact HFIN.out _ _ _ HZE.out (pay_f2 HU.out HV.out HU2.out HM.out) (HE.out.drewN nq) (below_drewN hb4 nq)
    · skip
      have hd : decide (m ≤ v) = false := decide_eq_false (by omega)
      go_wp2_with fail
      refine (form_no2 _ g A n c _ HR3.out).mono ?_
      rintro e w4 ⟨rfl, hr4, ho4⟩
      have HE := Lib.hid hr4
      have hb4 : Below g w w4 := hb3.trans (ho4.below (Nat.le_refl _))
      clear hr4 ho4
      obtain ⟨⟨r0, r1, r2⟩, f1, f2⟩ := HE.out
      go_upto_region 4 with fail
      go_quiet (fail)
      go_wp2
      go_end0
      exact HFIN.out _ _ _ HZE.out (pay_f2 HU.out HV.out HU2.out HM.out) (HE.out.drewN nq) (below_drewN hb4 nq)
  have HM := Lib.hid hm
  obtain ⟨mn, rfl, hmn⟩ : ∃ mn : Nat, m = (mn : Int) ∧ (mn : Int) ≤ v := ⟨m.toNat, by omega, by omega⟩
  clear hm
  go_wp2_with fail
  refine (form_ok _ g A n c _ _ HR3.out).mono ?_
  rintro e w4 ⟨rfl, rfl⟩
  have hsub : IntKind.i64.wrap ((n : Int) - (q2 : Int)) = (n : Int) - (q2 : Int) := IntWalk.i64_in _ (by omega)
  obtain ⟨⟨r0, r1, r2⟩, f1, f2⟩ := HR3.out
  go_upto_region 4 with fail
  by_cases hs : (n : Int) - (q2 : Int) < (mn : Int)
  · go_quiet (fail)
    have HE := Lib.hid ((HR3.out.drewN nq).setE 6)
    have hb5 : Below g w ((w3.drewN nq).setCell ⟨g, 2, none⟩ (.int .i64 6)) := (below_drewN hb3 nq).setCell (Nat.le_refl _) _
    clear hsub
    go_wp2
    go_end0
    exact HFIN.out _ _ 6 (by decide) (pay_s HU.out HV.out HU2.out HM.out (by rw [HN.out]; exact hs)) HE.out hb5
  go_quiet (fail)
  obtain ⟨wr, hwr⟩ : ∃ x, x = w3.drewN nq := ⟨_, rfl⟩
  rw [← hwr]
  have hor : Only g w wr := by rw [hwr]; exact HO3.out.drewN nq
  have hbr : Below g w wr := hor.below (Nat.le_refl _)
  have hrr : RrAt wr g A n c q2 0 := by rw [hwr]; exact HR3.out.drewN nq
  clear hwr r0 r1 r2 f1 f2 hsub
  have HSS := Lib.hid hs
  have hfit : q2 + mn ≤ n := by omega
  clear hs
  have hsz := hor.size
  have hcl : ClAt wr gc ⟨ky, ch, 0, 0, []⟩ none 0 0 := by
    obtain ⟨x0, x1, x2, x3, x4⟩ := HC.out
    exact ⟨(hor.cell (by simp only; omega)).trans x0, (hor.cell (by simp only; omega)).trans x1, (hor.cell (by simp only; omega)).trans x2, (hor.cell (by simp only; omega)).trans x3, (hor.cell (by simp only; omega)).trans x4⟩
  have hth : wr.there gc 0 5 := fun j hj => by
    obtain ⟨h1, h2⟩ := HT.out j hj
    exact ⟨by rw [hor.cell (by simp only; omega)]; exact h1, by rw [hor.frozen (by simp only; omega)]; exact h2⟩
  have HRR := Lib.hid hrr
  obtain ⟨⟨r0, r1, r2⟩, f1, f2⟩ := hrr
  obtain ⟨x0, x1, x2, x3, x4⟩ := hcl
  have y2 := (hth 2 (by decide)).2
  rw [Nat.zero_add] at y2
  have HTH := Lib.hid hth
  clear hth
  go_upto_region 8 with fail
  obtain ⟨wq, hwq⟩ : ∃ x, x = wr.setCell ⟨gc, 2, none⟩ (.int .i64 v) := ⟨_, rfl⟩
  rw [← hwq]
  have hRq : RrAt wq g A n c q2 0 := by rw [hwq]; exact HRR.out.other gc 2 (by omega) _
  have hCq : ClAt wq gc ⟨ky, ch, v, 0, []⟩ none 0 0 := by rw [hwq]; exact ClAt.setTotal ⟨x0, x1, x2, x3, x4⟩ v
  have hTq : wq.there gc 0 5 := by rw [hwq]; exact there_setC HTH.out _ _
  have hbq : Below g w wq := by rw [hwq]; exact hbr.setCell (by simp only; omega) _
  have hzq : wq.heap.size = w.heap.size := by rw [hwq]; simp only [World.setCell, Array.size_modify]; exact hsz
  clear hwq r0 r1 r2 f1 f2 x0 x1 x2 x3 x4 y2
  have HRQ := Lib.hid hRq
  have HCQ := Lib.hid hCq
  have HTQ := Lib.hid hTq
  clear hRq hCq hTq
  obtain ⟨b0, o0, rfl, _, hcc⟩ := HA.out.at (by rw [HN.out]; omega)
  clear hcc
  obtain ⟨Z, hZ⟩ : ∃ Z, Z = (l.drop q2).take mn := ⟨_, rfl⟩
  have hZl : Z.length = mn := by rw [hZ, List.length_take, List.length_drop, HN.out]; omega
  have hZr : Rd w (some ⟨b0, o0 + q2, none⟩) Z := by rw [hZ]; exact rd_takeC (rd_offC HA.out q2) mn
  have HZL := Lib.hid hZl
  have HZR := Lib.hid hZr
  have HZE2 := Lib.hid hZ
  clear hZ hZl hZr
  have hbw : b0 < g := HAG.out _ rfl (fun e9 => by have h9 := HN.out; rw [e9] at h9; simp only [List.length_nil] at h9; omega)
  have L0 : ∀ W, HeldR g (some ⟨b0, o0, none⟩) n c q2 wq W → W.cell? ⟨g, 0, none⟩ = some (.slice (some ⟨b0, o0, none⟩) n c) := fun W h => h.1.1.1
  have L1 : ∀ W, HeldR g (some ⟨b0, o0, none⟩) n c q2 wq W → W.cell? ⟨g, 1, none⟩ = some (.int .i64 q2) := fun W h => h.1.1.2.1
  have i0 : (0 : Int) ≤ (q2 : Int) := by omega
  have i1 : (q2 : Int) ≤ (q2 : Int) + (mn : Int) := by omega
  have i2 : (q2 : Int) + (mn : Int) ≤ (c : Int) := by omega
  have t1 : ((q2 : Int) + (mn : Int)).toNat = q2 + mn := by omega
  have t3 : q2 + mn - q2 = mn := by omega
  have e1 : IntKind.i64.wrap ((q2 : Int) + (mn : Int)) = (q2 : Int) + (mn : Int) := IntWalk.i64_in _ (by omega)
  by_cases hcq : c = q2
  · have hm0 : mn = 0 := by omega
    have HZX := Lib.hid (show Rd wq.drew (some ⟨b0, o0, none⟩) Z from .inl (List.eq_nil_of_length_eq_zero (by rw [HZL.out]; exact hm0)))
    have HM0 := Lib.hid hm0
    clear hm0
    have hcq2 : q2 = c := hcq.symm
    subst hcq2
    clear hcq
    refine wp_region_held_drew (S := (fun W => HeldR g (some ⟨b0, o0, none⟩) n q2 q2 wq W)) (by kernel_rfl) ?_ (fun hHeld => ?_)
    · exact ⟨HRQ.out.drewN 1, (Below.refl _ wq).drew⟩
    refine' wpAnyH_take (i := 0) (oi := _) (v := _) rfl (by kernel_rfl) (by kernel_rfl) (by kernel_rfl) (fun _ _ _ h => h) (Or.inl ⟨by rfl, ?hu0⟩) (by assumption) ?rst0
    case hu0 => (intro w' hSw; (try dsimp only at hSw); go_simp; try with_reducible rfl)
    try simp only [Act.put, List.setIfInBounds_toArray, List.set_cons_zero, List.set_cons_succ, List.getElem_toArray, List.getElem_cons_zero, List.getElem_cons_succ]
    refine' wpAnyH_take (i := 1) (oi := _) (v := _) rfl (by kernel_rfl) (by kernel_rfl) (by kernel_rfl) (fun _ _ _ h => h) (Or.inl ⟨by rfl, ?hu1⟩) (by assumption) ?rst1
    case hu1 => (intro w' hSw; (try dsimp only at hSw); go_simp; try with_reducible rfl)
    try simp only [Act.put, List.setIfInBounds_toArray, List.set_cons_zero, List.set_cons_succ, List.getElem_toArray, List.getElem_cons_zero, List.getElem_cons_succ]
    refine' wpAnyH_take (i := 2) (oi := _) (v := _) rfl (by kernel_rfl) (by kernel_rfl) (by kernel_rfl) (fun _ _ _ h => h) (Or.inl ⟨by rfl, ?hu2⟩) (by assumption) ?rst2
    case hu2 => (intro w' hSw; (try dsimp only at hSw); go_simp; try with_reducible rfl)
    try simp only [Act.put, List.setIfInBounds_toArray, List.set_cons_zero, List.set_cons_succ, List.getElem_toArray, List.getElem_cons_zero, List.getElem_cons_succ]
    refine' wpAnyH_take (i := 3) (oi := _) (v := _) rfl (by kernel_rfl) (by kernel_rfl) (by kernel_rfl) (fun _ _ _ h => h) (Or.inl ⟨by rfl, ?hu3⟩) (by assumption) ?rst3
    case hu3 => (intro w' hSw; (try dsimp only at hSw); go_simp; try with_reducible rfl)
    try simp only [Act.put, List.setIfInBounds_toArray, List.set_cons_zero, List.set_cons_succ, List.getElem_toArray, List.getElem_cons_zero, List.getElem_cons_succ]
    refine' wpAnyH_take (i := 4) (oi := _) (v := _) rfl (by kernel_rfl) (by kernel_rfl) (by kernel_rfl) (fun _ _ _ h => h) (Or.inl ⟨by rfl, ?hu4⟩) (by assumption) ?rst4
    case hu4 => (intro w' hSw; (try dsimp only at hSw); go_simp; try with_reducible rfl)
    try simp only [Act.put, List.setIfInBounds_toArray, List.set_cons_zero, List.set_cons_succ, List.getElem_toArray, List.getElem_cons_zero, List.getElem_cons_succ]
    refine' wpAnyH_take (i := 5) (oi := _) (v := _) rfl (by kernel_rfl) (by kernel_rfl) (by kernel_rfl) (fun _ _ _ h => h) (Or.inl ⟨by rfl, ?hu5⟩) (by assumption) ?rst5
    case hu5 => (intro w' hSw; (try dsimp only at hSw); go_simp; try with_reducible rfl)
    try simp only [Act.put, List.setIfInBounds_toArray, List.set_cons_zero, List.set_cons_succ, List.getElem_toArray, List.getElem_cons_zero, List.getElem_cons_succ]
    refine' wpAnyH_take (i := 6) (oi := _) (v := _) rfl (by kernel_rfl) (by kernel_rfl) (by kernel_rfl) (fun _ _ _ h => h) (Or.inl ⟨by rfl, ?hu6⟩) (by assumption) ?rst6
    case hu6 => (intro w' hSw; (try dsimp only at hSw); go_simp; try with_reducible rfl)
    try simp only [Act.put, List.setIfInBounds_toArray, List.set_cons_zero, List.set_cons_succ, List.getElem_toArray, List.getElem_cons_zero, List.getElem_cons_succ]
    refine' wpAnyH_take (i := 7) (oi := _) (v := _) rfl (by kernel_rfl) (by kernel_rfl) (by kernel_rfl) (fun _ _ _ h => h) (Or.inl ⟨by rfl, ?hu7⟩) (by assumption) ?rst7
    case hu7 => (intro w' hSw; (try dsimp only at hSw); go_simp; try with_reducible rfl)
    try simp only [Act.put, List.setIfInBounds_toArray, List.set_cons_zero, List.set_cons_succ, List.getElem_toArray, List.getElem_cons_zero, List.getElem_cons_succ]
    refine' wpAnyH_take (i := 8) (oi := _) (v := _) rfl (by kernel_rfl) (by kernel_rfl) (by kernel_rfl) (fun _ _ _ h => h) (Or.inl ⟨by rfl, ?hu8⟩) (by assumption) ?rst8
    case hu8 => (intro w' hSw; (try dsimp only at hSw); go_simp; try with_reducible rfl)
    try simp only [Act.put, List.setIfInBounds_toArray, List.set_cons_zero, List.set_cons_succ, List.getElem_toArray, List.getElem_cons_zero, List.getElem_cons_succ]
    refine' wpAnyH_take (i := 9) (oi := _) (v := _) rfl (by kernel_rfl) (by kernel_rfl) (by kernel_rfl) (fun _ _ _ h => h) (Or.inl ⟨by rfl, ?hu9⟩) (by assumption) ?rst9
    case hu9 => (intro w' hSw; (try dsimp only at hSw); go_simp; try with_reducible rfl)
    try simp only [Act.put, List.setIfInBounds_toArray, List.set_cons_zero, List.set_cons_succ, List.getElem_toArray, List.getElem_cons_zero, List.getElem_cons_succ]
    refine' wpAnyH_take (i := 10) (oi := _) (v := _) rfl (by kernel_rfl) (by kernel_rfl) (by kernel_rfl) (fun _ _ _ h => h) (Or.inl ⟨by rfl, ?hu10⟩) (by assumption) ?rst10
    case hu10 => (intro w' hSw; (try dsimp only at hSw); go_simp; try with_reducible rfl)
    try simp only [Act.put, List.setIfInBounds_toArray, List.set_cons_zero, List.set_cons_succ, List.getElem_toArray, List.getElem_cons_zero, List.getElem_cons_succ]
    refine' wpAnyH_take (i := 11) (oi := _) (v := _) rfl (by kernel_rfl) (by kernel_rfl) (by kernel_rfl) (fun _ _ _ h => h) (Or.inl ⟨by rfl, ?hu11⟩) (by assumption) ?rst11
    case hu11 => (intro w' hSw; (try dsimp only at hSw); go_simp; try with_reducible rfl)
    try simp only [Act.put, List.setIfInBounds_toArray, List.set_cons_zero, List.set_cons_succ, List.getElem_toArray, List.getElem_cons_zero, List.getElem_cons_succ]
    refine' wpAnyH_take (i := 12) (oi := _) (v := _) rfl (by kernel_rfl) (by kernel_rfl) (by kernel_rfl) (fun _ _ _ h => h) (Or.inl ⟨by rfl, ?hu12⟩) (by assumption) ?rst12
    case hu12 => (intro w' hSw; (try dsimp only at hSw); go_simp; try with_reducible rfl)
    try simp only [Act.put, List.setIfInBounds_toArray, List.set_cons_zero, List.set_cons_succ, List.getElem_toArray, List.getElem_cons_zero, List.getElem_cons_succ]
    refine' wpAnyH_take (i := 13) (oi := _) (v := _) rfl (by kernel_rfl) (by kernel_rfl) (by kernel_rfl) (fun _ _ _ h => h) (Or.inl ⟨by rfl, ?hu13⟩) (by assumption) ?rst13
    case hu13 => (intro w' hSw; (try dsimp only at hSw); go_simp; try with_reducible rfl)
    try simp only [Act.put, List.setIfInBounds_toArray, List.set_cons_zero, List.set_cons_succ, List.getElem_toArray, List.getElem_cons_zero, List.getElem_cons_succ]
    refine' wpAnyH_take (i := 14) (oi := _) (v := _) rfl (by kernel_rfl) (by kernel_rfl) (by kernel_rfl) (fun _ _ _ h => h) (Or.inl ⟨by rfl, ?hu14⟩) (by assumption) ?rst14
    case hu14 => (intro w' hSw; (try dsimp only at hSw); go_simp; try with_reducible rfl)
    try simp only [Act.put, List.setIfInBounds_toArray, List.set_cons_zero, List.set_cons_succ, List.getElem_toArray, List.getElem_cons_zero, List.getElem_cons_succ]
    refine' wpAnyH_take (i := 15) (oi := _) (v := _) rfl (by kernel_rfl) (by kernel_rfl) (by kernel_rfl) (fun _ _ _ h => h) (Or.inl ⟨by rfl, ?hu15⟩) (by assumption) ?rst15
    case hu15 => (intro w' hSw; (try dsimp only at hSw); go_simp; try with_reducible rfl)
    try simp only [Act.put, List.setIfInBounds_toArray, List.set_cons_zero, List.set_cons_succ, List.getElem_toArray, List.getElem_cons_zero, List.getElem_cons_succ]
    refine wpAnyH_ready (rs := [16]) (by kernel_rfl) (by simp) ?_
    refine AllReadyH.cons (o := _) rfl (fun K hK => ?_) AllReadyH.nil
    refine step_append rfl (.const (.slice none 0 0)) (.tmp 74) rfl wq.heap.size none 0 0 [] rfl (OwnB.nil _ _) (some ⟨b0, o0, none⟩) mn 0 Z rfl HZL.out HZX.out (by omega) (by simp) ?_
    intro A7 c7 w7 hown7 _ hb7
    have hb7' : Below wq.heap.size wq w7 := ((Below.refl _ wq).drew).trans hb7
    simp only [List.nil_append, Nat.zero_add] at hown7 ⊢
    have HO7 := Lib.hid hown7
    have HC7 := Lib.hid (HCQ.out.keep hb7')
    have HT7 := Lib.hid (there_keepC HTQ.out hb7' (by omega))
    have HR7 : HeldR g (some ⟨b0, o0, none⟩) n q2 q2 wq w7 := by
      obtain ⟨⟨r0, r1, r2⟩, f1, f2⟩ := HRQ.out
      exact ⟨⟨⟨(hb7'.cell (by simp only; omega)).trans r0, (hb7'.cell (by simp only; omega)).trans r1, (hb7'.cell (by simp only; omega)).trans r2⟩, (hb7'.frozen (by simp only; omega)).trans f1, (hb7'.frozen (by simp only; omega)).trans f2⟩, ⟨hb7'.os, hb7'.tape, hb7'.output, hb7'.size, fun i hi => hb7'.block i (by omega)⟩⟩
    have m3 := HC7.out.2.2.2.1
    have n3 := (HT7.out 3 (by decide)).2
    rw [Nat.zero_add] at n3
    clear hown7 hb7
    refine hK.out _ _ ?_ (fun hHeld => ?_)
    · exact HR7
    clear hK K
    try simp only [Act.put, List.setIfInBounds_toArray, List.set_cons_zero, List.set_cons_succ, List.getElem_toArray, List.getElem_cons_zero, List.getElem_cons_succ]
    refine' wpAnyH_take (i := 17) (oi := _) (v := _) rfl (by kernel_rfl) (by kernel_rfl) (by kernel_rfl) (fun _ _ _ h => h) (Or.inl ⟨by rfl, ?hu17⟩) (by assumption) ?rst17
    case hu17 => (intro w' hSw; (try dsimp only at hSw); go_simp; try with_reducible rfl)
    try simp only [Act.put, List.setIfInBounds_toArray, List.set_cons_zero, List.set_cons_succ, List.getElem_toArray, List.getElem_cons_zero, List.getElem_cons_succ]
    refine' wpAnyH_take (i := 18) (oi := _) (v := _) rfl (by kernel_rfl) (by kernel_rfl) (by kernel_rfl) (fun _ _ _ h => h) (Or.inl ⟨by rfl, ?hu18⟩) (by assumption) ?rst18
    case hu18 => (intro w' hSw; (try dsimp only at hSw); go_simp; try with_reducible rfl)
    try simp only [Act.put, List.setIfInBounds_toArray, List.set_cons_zero, List.set_cons_succ, List.getElem_toArray, List.getElem_cons_zero, List.getElem_cons_succ]
    refine wpAnyH_ready (rs := [19]) (by kernel_rfl) (by simp) ?_
    refine AllReadyH.cons (o := _) rfl (fun K hK => ?_) AllReadyH.nil
    go_simp
    refine hK.out _ _ ?_ (fun hHeld => ?_)
    · exact ⟨HR7.1.other gc 3 (by omega) _, HR7.2.setCell (by simp only; omega) _⟩
    clear hK K
    try simp only [Act.put, List.setIfInBounds_toArray, List.set_cons_zero, List.set_cons_succ, List.getElem_toArray, List.getElem_cons_zero, List.getElem_cons_succ]
    refine wpAnyH_done (by kernel_rfl) ?_ _
    obtain ⟨w8, hw8⟩ : ∃ x, x = w7.setCell ⟨gc, 3, none⟩ (.slice A7 mn c7) := ⟨_, rfl⟩
    rw [← hw8]
    have hR8 : RrAt w8 g (some ⟨b0, o0, none⟩) n q2 q2 0 := by rw [hw8]; exact HR7.1.other gc 3 (by omega) _
    have hC8 : ClAt w8 gc ⟨ky, ch, v, 0, Z⟩ A7 mn c7 := by rw [hw8]; exact HC7.out.setLoc Z A7 mn c7
    have hb8 : Below g w w8 := by rw [hw8]; exact (hbq.trans (HR7.2)).setCell (by simp only; omega) _
    have hO8 : OwnB w8 wq.heap.size A7 mn c7 Z := by rw [hw8]; exact HO7.out.apartC (fun i hi => heapC_ne _ _ _ (by simp only; omega))
    have hT8 : w8.there gc 0 5 := by rw [hw8]; exact there_setC HT7.out _ _
    have hz8 : wq.heap.size ≤ w8.heap.size := by rw [hw8]; simp only [World.setCell, Array.size_modify]; exact hb7'.size
    have HO8 := Lib.hid hO8
    have HC8 := Lib.hid hC8
    have HR8 := Lib.hid hR8
    have HT8 := Lib.hid hT8
    clear hw8 hO8 hC8 hT8
    obtain ⟨⟨r0, r1, r2⟩, f1, f2⟩ := hR8
    have hpe : ∀ (W : World) (t sp at' : Int), payD l a = ⟨t, sp, (l.drop (q2 : Int).toNat).take (mn : Int).toNat, at', 0⟩ → RrAt W g (some ⟨b0, o0, none⟩) n q2 at' 0 → ClAt W gc ⟨ky, ch, t, sp, Z⟩ A7 mn c7 → OwnB W (g + 1) A7 mn c7 Z → Below g w W → R (.returned (.tuple #[])) W := by
      intro W t sp at' h1 h2 h3 h4 h5
      rw [Int.toNat_natCast, Int.toNat_natCast, ← HZE2.out] at h1
      rw [HP.out]
      refine ⟨at', 0, rfl, h2, by rw [h1], fun _ => ⟨by rw [h1], A7, mn, c7, ?_, ?_⟩, h5⟩
      · rw [h1]; exact h3
      · rw [h1]; exact h4
    have HPE := Lib.hid hpe
    clear hpe
    by_cases hmv : (mn : Int) < v
    rotate_left
    · have hme : (mn : Int) = v := by omega
      go_wp2
      go_end0
      refine HPE.out _ v 0 ((q2 : Int) + v) ?_ (HR8.out.setAt _) (HC8.out.other g 1 (by omega) _) ?_ (hb8.setCell (Nat.le_refl _) _)
      · have h1 := pay_all HU.out HV.out (p2 := (q2 : Int)) (by rw [← hme]; exact HU2.out) (by omega) (by rw [HN.out]; omega)
        rw [h1, hme]
      · exact (HO8.out.apartC (fun i hi => heapC_ne _ _ _ (by simp only; omega))).mono (by omega)
    have hmne : (mn : Int) ≠ v := by omega
    have HMNE := Lib.hid hmne
    clear hmne
    obtain ⟨⟨s, p3, z3⟩, hU3⟩ : ∃ U, unvL l ((q2 : Int) + (mn : Int)) = U := ⟨_, rfl⟩
    have HU3 := Lib.hid hU3
    have hpr : Below g w (w8.setCell ⟨g, 1, none⟩ (.int .i64 ((q2 : Int) + (mn : Int)))) := hb8.setCell (Nat.le_refl _) _
    go_wp2_with fail
    obtain ⟨w9, hw9⟩ : ∃ x, x = w8.setCell ⟨g, 1, none⟩ (.int .i64 ((q2 : Int) + (mn : Int))) := ⟨_, rfl⟩
    rw [← hw9] at hpr ⊢
    have hR9 : RrAt w9 g (some ⟨b0, o0, none⟩) n q2 ((q2 : Int) + (mn : Int)) 0 := by rw [hw9]; exact HR8.out.setAt _
    have hC9 : ClAt w9 gc ⟨ky, ch, v, 0, Z⟩ A7 mn c7 := by rw [hw9]; exact HC8.out.other g 1 (by omega) _
    have hO9 : OwnB w9 wq.heap.size A7 mn c7 Z := by rw [hw9]; exact HO8.out.apartC (fun i hi => heapC_ne _ _ _ (by simp only; omega))
    have hT9 : w9.there gc 0 5 := by rw [hw9]; exact there_setC HT8.out _ _
    have hz9 : wq.heap.size ≤ w9.heap.size := by rw [hw9]; simp only [World.setCell, Array.size_modify]; exact hz8
    have HR9 := Lib.hid hR9
    have HC9 := Lib.hid hC9
    have HO9 := Lib.hid hO9
    have HT9 := Lib.hid hT9
    clear hw9 hR9 hC9 hO9 hT9 r0 r1 r2 f1 f2
    by_cases hz3 : z3 = 0
    rotate_left
    · have HZE := Lib.hid hz3
      refine (next_err _ g _ n q2 l _ s p3 z3 HR9.out HN.out hnc HCM.out (RDO.out _ hpr) HB.out (by omega) hU3 hz3).mono ?_
      rintro e w10 ⟨rfl, ⟨at1, hr10⟩, ho10⟩
      have HE := Lib.hid hr10
      go_wp2_with fail
      refine (page_no _ 0 (by unfold isP; omega)).mono ?_
      rintro e w0 ⟨rfl, rfl⟩
      go_wp2_with fail
      refine (form_bad _ g _ n q2 _ _ _ HE.out HZE.out).mono ?_
      rintro e w0 ⟨rfl, rfl⟩
      have x4 := (ho10.cell (a := ⟨gc, 4, none⟩) (by simp only; omega)).trans HC9.out.2.2.2.2
      have y4 := (ho10.frozen (a := ⟨gc, 4, none⟩) (by simp only; omega)).trans (show w9.frozen? ⟨gc, 4, none⟩ = false by simpa using (HT9.out 4 (by decide)).2)
      have hb10 : Below g w w10 := hpr.trans (ho10.below (Nat.le_refl _))
      clear hr10 ho10 hz3 hU3
      go_wp2
      go_end0
      exact HFIN.out _ _ _ HZE.out (pay_e3 HU.out HV.out HU2.out HM.out (by rw [HN.out]; have := HSS.out; omega) HMNE.out HU3.out HZE.out) (HE.out.other gc 4 (by omega) _) (hb10.setCell (by simp only; omega) _)
    subst hz3
    obtain ⟨q3, hq3, hq3a, hq3n, hq3v, hs1, hs2⟩ := unv_at HB.out (q2 + mn) (by rw [Int.natCast_add, hU3])
    rw [Int.natCast_add, hU3] at hq3 hq3v hs1 hs2
    simp only at hq3 hq3v hs1 hs2
    subst hq3
    rw [HN.out] at hq3n
    clear hq3v
    exact absurd hq3n (by omega)
  have HZX := Lib.hid (HZR.out.below (show Below g w wq.drew from hbq.drew) (fun x hx => by cases hx; exact hbw))
  refine wp_region_held_drew (S := (fun W => HeldR g (some ⟨b0, o0, none⟩) n c q2 wq W)) (by kernel_rfl) ?_ (fun hHeld => ?_)
  · exact ⟨HRQ.out.drewN 1, (Below.refl _ wq).drew⟩
  refine' wpAnyH_take (i := 0) (oi := _) (v := _) rfl (by kernel_rfl) (by kernel_rfl) (by kernel_rfl) (fun _ _ _ h => h) (Or.inl ⟨by rfl, ?hy0⟩) (by assumption) ?rest0
  case hy0 => (intro w' hSw; (try dsimp only at hSw); go_simp; try with_reducible rfl)
  try simp only [Act.put, List.setIfInBounds_toArray, List.set_cons_zero, List.set_cons_succ, List.getElem_toArray, List.getElem_cons_zero, List.getElem_cons_succ]
  refine' wpAnyH_take (i := 1) (oi := _) (v := _) rfl (by kernel_rfl) (by kernel_rfl) (by kernel_rfl) (fun _ _ _ h => h) (Or.inl ⟨by rfl, ?hy1⟩) (by assumption) ?rest1
  case hy1 => (intro w' hSw; (try dsimp only at hSw); go_simp; try with_reducible rfl)
  try simp only [Act.put, List.setIfInBounds_toArray, List.set_cons_zero, List.set_cons_succ, List.getElem_toArray, List.getElem_cons_zero, List.getElem_cons_succ]
  refine' wpAnyH_take (i := 2) (oi := _) (v := _) rfl (by kernel_rfl) (by kernel_rfl) (by kernel_rfl) (fun _ _ _ h => h) (Or.inl ⟨by rfl, ?hy2⟩) (by assumption) ?rest2
  case hy2 => (intro w' hSw; (try dsimp only at hSw); go_simp; try with_reducible rfl)
  try simp only [Act.put, List.setIfInBounds_toArray, List.set_cons_zero, List.set_cons_succ, List.getElem_toArray, List.getElem_cons_zero, List.getElem_cons_succ]
  refine' wpAnyH_take (i := 3) (oi := _) (v := _) rfl (by kernel_rfl) (by kernel_rfl) (by kernel_rfl) (fun _ _ _ h => h) (Or.inl ⟨by rfl, ?hy3⟩) (by assumption) ?rest3
  case hy3 => (intro w' hSw; (try dsimp only at hSw); go_simp; try with_reducible rfl)
  try simp only [Act.put, List.setIfInBounds_toArray, List.set_cons_zero, List.set_cons_succ, List.getElem_toArray, List.getElem_cons_zero, List.getElem_cons_succ]
  refine' wpAnyH_take (i := 4) (oi := _) (v := _) rfl (by kernel_rfl) (by kernel_rfl) (by kernel_rfl) (fun _ _ _ h => h) (Or.inl ⟨by rfl, ?hy4⟩) (by assumption) ?rest4
  case hy4 => (intro w' hSw; (try dsimp only at hSw); go_simp; try with_reducible rfl)
  try simp only [Act.put, List.setIfInBounds_toArray, List.set_cons_zero, List.set_cons_succ, List.getElem_toArray, List.getElem_cons_zero, List.getElem_cons_succ]
  refine' wpAnyH_take (i := 5) (oi := _) (v := _) rfl (by kernel_rfl) (by kernel_rfl) (by kernel_rfl) (fun _ _ _ h => h) (Or.inl ⟨by rfl, ?hy5⟩) (by assumption) ?rest5
  case hy5 => (intro w' hSw; (try dsimp only at hSw); go_simp; try with_reducible rfl)
  try simp only [Act.put, List.setIfInBounds_toArray, List.set_cons_zero, List.set_cons_succ, List.getElem_toArray, List.getElem_cons_zero, List.getElem_cons_succ]
  refine' wpAnyH_take (i := 6) (oi := _) (v := _) rfl (by kernel_rfl) (by kernel_rfl) (by kernel_rfl) (fun _ _ _ h => h) (Or.inl ⟨by rfl, ?hy6⟩) (by assumption) ?rest6
  case hy6 => (intro w' hSw; (try dsimp only at hSw); go_simp; try with_reducible rfl)
  try simp only [Act.put, List.setIfInBounds_toArray, List.set_cons_zero, List.set_cons_succ, List.getElem_toArray, List.getElem_cons_zero, List.getElem_cons_succ]
  refine' wpAnyH_take (i := 7) (oi := _) (v := _) rfl (by kernel_rfl) (by kernel_rfl) (by kernel_rfl) (fun _ _ _ h => h) (Or.inl ⟨by rfl, ?hy7⟩) (by assumption) ?rest7
  case hy7 => (intro w' hSw; (try dsimp only at hSw); go_simp; try with_reducible rfl)
  try simp only [Act.put, List.setIfInBounds_toArray, List.set_cons_zero, List.set_cons_succ, List.getElem_toArray, List.getElem_cons_zero, List.getElem_cons_succ]
  refine' wpAnyH_take (i := 8) (oi := _) (v := _) rfl (by kernel_rfl) (by kernel_rfl) (by kernel_rfl) (fun _ _ _ h => h) (Or.inl ⟨by rfl, ?hy8⟩) (by assumption) ?rest8
  case hy8 => (intro w' hSw; (try dsimp only at hSw); go_simp; try with_reducible rfl)
  try simp only [Act.put, List.setIfInBounds_toArray, List.set_cons_zero, List.set_cons_succ, List.getElem_toArray, List.getElem_cons_zero, List.getElem_cons_succ]
  refine' wpAnyH_take (i := 9) (oi := _) (v := _) rfl (by kernel_rfl) (by kernel_rfl) (by kernel_rfl) (fun _ _ _ h => h) (Or.inl ⟨by rfl, ?hy9⟩) (by assumption) ?rest9
  case hy9 => (intro w' hSw; (try dsimp only at hSw); go_simp; try with_reducible rfl)
  try simp only [Act.put, List.setIfInBounds_toArray, List.set_cons_zero, List.set_cons_succ, List.getElem_toArray, List.getElem_cons_zero, List.getElem_cons_succ]
  refine' wpAnyH_take (i := 10) (oi := _) (v := _) rfl (by kernel_rfl) (by kernel_rfl) (by kernel_rfl) (fun _ _ _ h => h) (Or.inl ⟨by rfl, ?hy10⟩) (by assumption) ?rest10
  case hy10 => (intro w' hSw; (try dsimp only at hSw); go_simp; try with_reducible rfl)
  try simp only [Act.put, List.setIfInBounds_toArray, List.set_cons_zero, List.set_cons_succ, List.getElem_toArray, List.getElem_cons_zero, List.getElem_cons_succ]
  refine' wpAnyH_take (i := 11) (oi := _) (v := _) rfl (by kernel_rfl) (by kernel_rfl) (by kernel_rfl) (fun _ _ _ h => h) (Or.inl ⟨by rfl, ?hy11⟩) (by assumption) ?rest11
  case hy11 => (intro w' hSw; (try dsimp only at hSw); go_simp; try with_reducible rfl)
  try simp only [Act.put, List.setIfInBounds_toArray, List.set_cons_zero, List.set_cons_succ, List.getElem_toArray, List.getElem_cons_zero, List.getElem_cons_succ]
  refine' wpAnyH_take (i := 12) (oi := _) (v := _) rfl (by kernel_rfl) (by kernel_rfl) (by kernel_rfl) (fun _ _ _ h => h) (Or.inl ⟨by rfl, ?hy12⟩) (by assumption) ?rest12
  case hy12 => (intro w' hSw; (try dsimp only at hSw); go_simp; try with_reducible rfl)
  try simp only [Act.put, List.setIfInBounds_toArray, List.set_cons_zero, List.set_cons_succ, List.getElem_toArray, List.getElem_cons_zero, List.getElem_cons_succ]
  refine' wpAnyH_take (i := 13) (oi := _) (v := _) rfl (by kernel_rfl) (by kernel_rfl) (by kernel_rfl) (fun _ _ _ h => h) (Or.inl ⟨by rfl, ?hy13⟩) (by assumption) ?rest13
  case hy13 => (intro w' hSw; (try dsimp only at hSw); go_simp; try with_reducible rfl)
  try simp only [Act.put, List.setIfInBounds_toArray, List.set_cons_zero, List.set_cons_succ, List.getElem_toArray, List.getElem_cons_zero, List.getElem_cons_succ]
  refine' wpAnyH_take (i := 14) (oi := _) (v := _) rfl (by kernel_rfl) (by kernel_rfl) (by kernel_rfl) (fun _ _ _ h => h) (Or.inl ⟨by rfl, ?hy14⟩) (by assumption) ?rest14
  case hy14 => (intro w' hSw; (try dsimp only at hSw); go_simp; try with_reducible rfl)
  try simp only [Act.put, List.setIfInBounds_toArray, List.set_cons_zero, List.set_cons_succ, List.getElem_toArray, List.getElem_cons_zero, List.getElem_cons_succ]
  refine' wpAnyH_take (i := 15) (oi := _) (v := _) rfl (by kernel_rfl) (by kernel_rfl) (by kernel_rfl) (fun _ _ _ h => h) (Or.inl ⟨by rfl, ?hy15⟩) (by assumption) ?rest15
  case hy15 => (intro w' hSw; (try dsimp only at hSw); go_simp; try with_reducible rfl)
  try simp only [Act.put, List.setIfInBounds_toArray, List.set_cons_zero, List.set_cons_succ, List.getElem_toArray, List.getElem_cons_zero, List.getElem_cons_succ]
  refine wpAnyH_ready (rs := [16]) (by kernel_rfl) (by simp) ?_
  refine AllReadyH.cons (o := _) rfl (fun K hK => ?_) AllReadyH.nil
  refine step_append rfl (.const (.slice none 0 0)) (.tmp 74) rfl wq.heap.size none 0 0 [] rfl (OwnB.nil _ _) (some ⟨b0, o0 + q2, none⟩) mn (c - q2) Z rfl HZL.out HZX.out (by omega) (by simp) ?_
  intro A7 c7 w7 hown7 _ hb7
  have hb7' : Below wq.heap.size wq w7 := ((Below.refl _ wq).drew).trans hb7
  simp only [List.nil_append, Nat.zero_add] at hown7 ⊢
  have HO7 := Lib.hid hown7
  have HC7 := Lib.hid (HCQ.out.keep hb7')
  have HT7 := Lib.hid (there_keepC HTQ.out hb7' (by omega))
  have HR7 : HeldR g (some ⟨b0, o0, none⟩) n c q2 wq w7 := by
    obtain ⟨⟨r0, r1, r2⟩, f1, f2⟩ := HRQ.out
    exact ⟨⟨⟨(hb7'.cell (by simp only; omega)).trans r0, (hb7'.cell (by simp only; omega)).trans r1, (hb7'.cell (by simp only; omega)).trans r2⟩, (hb7'.frozen (by simp only; omega)).trans f1, (hb7'.frozen (by simp only; omega)).trans f2⟩, ⟨hb7'.os, hb7'.tape, hb7'.output, hb7'.size, fun i hi => hb7'.block i (by omega)⟩⟩
  have m3 := HC7.out.2.2.2.1
  have n3 := (HT7.out 3 (by decide)).2
  rw [Nat.zero_add] at n3
  clear hown7 hb7
  refine hK.out _ _ ?_ (fun hHeld => ?_)
  · exact HR7
  clear hK K
  try simp only [Act.put, List.setIfInBounds_toArray, List.set_cons_zero, List.set_cons_succ, List.getElem_toArray, List.getElem_cons_zero, List.getElem_cons_succ]
  refine' wpAnyH_take (i := 17) (oi := _) (v := _) rfl (by kernel_rfl) (by kernel_rfl) (by kernel_rfl) (fun _ _ _ h => h) (Or.inl ⟨by rfl, ?hy17⟩) (by assumption) ?rest17
  case hy17 => (intro w' hSw; (try dsimp only at hSw); go_simp; try with_reducible rfl)
  try simp only [Act.put, List.setIfInBounds_toArray, List.set_cons_zero, List.set_cons_succ, List.getElem_toArray, List.getElem_cons_zero, List.getElem_cons_succ]
  refine' wpAnyH_take (i := 18) (oi := _) (v := _) rfl (by kernel_rfl) (by kernel_rfl) (by kernel_rfl) (fun _ _ _ h => h) (Or.inl ⟨by rfl, ?hy18⟩) (by assumption) ?rest18
  case hy18 => (intro w' hSw; (try dsimp only at hSw); go_simp; try with_reducible rfl)
  try simp only [Act.put, List.setIfInBounds_toArray, List.set_cons_zero, List.set_cons_succ, List.getElem_toArray, List.getElem_cons_zero, List.getElem_cons_succ]
  refine wpAnyH_ready (rs := [19]) (by kernel_rfl) (by simp) ?_
  refine AllReadyH.cons (o := _) rfl (fun K hK => ?_) AllReadyH.nil
  go_simp
  refine hK.out _ _ ?_ (fun hHeld => ?_)
  · exact ⟨HR7.1.other gc 3 (by omega) _, HR7.2.setCell (by simp only; omega) _⟩
  clear hK K
  try simp only [Act.put, List.setIfInBounds_toArray, List.set_cons_zero, List.set_cons_succ, List.getElem_toArray, List.getElem_cons_zero, List.getElem_cons_succ]
  refine wpAnyH_done (by kernel_rfl) ?_ _
  obtain ⟨w8, hw8⟩ : ∃ x, x = w7.setCell ⟨gc, 3, none⟩ (.slice A7 mn c7) := ⟨_, rfl⟩
  rw [← hw8]
  have hR8 : RrAt w8 g (some ⟨b0, o0, none⟩) n c q2 0 := by rw [hw8]; exact HR7.1.other gc 3 (by omega) _
  have hC8 : ClAt w8 gc ⟨ky, ch, v, 0, Z⟩ A7 mn c7 := by rw [hw8]; exact HC7.out.setLoc Z A7 mn c7
  have hb8 : Below g w w8 := by rw [hw8]; exact (hbq.trans (HR7.2)).setCell (by simp only; omega) _
  have hO8 : OwnB w8 wq.heap.size A7 mn c7 Z := by rw [hw8]; exact HO7.out.apartC (fun i hi => heapC_ne _ _ _ (by simp only; omega))
  have hT8 : w8.there gc 0 5 := by rw [hw8]; exact there_setC HT7.out _ _
  have hz8 : wq.heap.size ≤ w8.heap.size := by rw [hw8]; simp only [World.setCell, Array.size_modify]; exact hb7'.size
  have HO8 := Lib.hid hO8
  have HC8 := Lib.hid hC8
  have HR8 := Lib.hid hR8
  have HT8 := Lib.hid hT8
  clear hw8 hO8 hC8 hT8
  obtain ⟨⟨r0, r1, r2⟩, f1, f2⟩ := hR8
  have hpe : ∀ (W : World) (t sp at' : Int), payD l a = ⟨t, sp, (l.drop (q2 : Int).toNat).take (mn : Int).toNat, at', 0⟩ → RrAt W g (some ⟨b0, o0, none⟩) n c at' 0 → ClAt W gc ⟨ky, ch, t, sp, Z⟩ A7 mn c7 → OwnB W (g + 1) A7 mn c7 Z → Below g w W → R (.returned (.tuple #[])) W := by
    intro W t sp at' h1 h2 h3 h4 h5
    rw [Int.toNat_natCast, Int.toNat_natCast, ← HZE2.out] at h1
    rw [HP.out]
    refine ⟨at', 0, rfl, h2, by rw [h1], fun _ => ⟨by rw [h1], A7, mn, c7, ?_, ?_⟩, h5⟩
    · rw [h1]; exact h3
    · rw [h1]; exact h4
  have HPE := Lib.hid hpe
  clear hpe
  by_cases hmv : (mn : Int) < v
  rotate_left
  · have hme : (mn : Int) = v := by omega
    go_wp2
    go_end0
    refine HPE.out _ v 0 ((q2 : Int) + v) ?_ (HR8.out.setAt _) (HC8.out.other g 1 (by omega) _) ?_ (hb8.setCell (Nat.le_refl _) _)
    · have h1 := pay_all HU.out HV.out (p2 := (q2 : Int)) (by rw [← hme]; exact HU2.out) (by omega) (by rw [HN.out]; omega)
      rw [h1, hme]
    · exact (HO8.out.apartC (fun i hi => heapC_ne _ _ _ (by simp only; omega))).mono (by omega)
  have hmne : (mn : Int) ≠ v := by omega
  have HMNE := Lib.hid hmne
  clear hmne
  obtain ⟨⟨s, p3, z3⟩, hU3⟩ : ∃ U, unvL l ((q2 : Int) + (mn : Int)) = U := ⟨_, rfl⟩
  have HU3 := Lib.hid hU3
  have hpr : Below g w (w8.setCell ⟨g, 1, none⟩ (.int .i64 ((q2 : Int) + (mn : Int)))) := hb8.setCell (Nat.le_refl _) _
  go_wp2_with fail
  obtain ⟨w9, hw9⟩ : ∃ x, x = w8.setCell ⟨g, 1, none⟩ (.int .i64 ((q2 : Int) + (mn : Int))) := ⟨_, rfl⟩
  rw [← hw9] at hpr ⊢
  have hR9 : RrAt w9 g (some ⟨b0, o0, none⟩) n c ((q2 : Int) + (mn : Int)) 0 := by rw [hw9]; exact HR8.out.setAt _
  have hC9 : ClAt w9 gc ⟨ky, ch, v, 0, Z⟩ A7 mn c7 := by rw [hw9]; exact HC8.out.other g 1 (by omega) _
  have hO9 : OwnB w9 wq.heap.size A7 mn c7 Z := by rw [hw9]; exact HO8.out.apartC (fun i hi => heapC_ne _ _ _ (by simp only; omega))
  have hT9 : w9.there gc 0 5 := by rw [hw9]; exact there_setC HT8.out _ _
  have hz9 : wq.heap.size ≤ w9.heap.size := by rw [hw9]; simp only [World.setCell, Array.size_modify]; exact hz8
  have HR9 := Lib.hid hR9
  have HC9 := Lib.hid hC9
  have HO9 := Lib.hid hO9
  have HT9 := Lib.hid hT9
  clear hw9 hR9 hC9 hO9 hT9 r0 r1 r2 f1 f2
  by_cases hz3 : z3 = 0
  rotate_left
  · have HZE := Lib.hid hz3
    refine (next_err _ g _ n c l _ s p3 z3 HR9.out HN.out hnc HCM.out (RDO.out _ hpr) HB.out (by omega) hU3 hz3).mono ?_
    rintro e w10 ⟨rfl, ⟨at1, hr10⟩, ho10⟩
    have HE := Lib.hid hr10
    go_wp2_with fail
    refine (page_no _ 0 (by unfold isP; omega)).mono ?_
    rintro e w0 ⟨rfl, rfl⟩
    go_wp2_with fail
    refine (form_bad _ g _ n c _ _ _ HE.out HZE.out).mono ?_
    rintro e w0 ⟨rfl, rfl⟩
    have x4 := (ho10.cell (a := ⟨gc, 4, none⟩) (by simp only; omega)).trans HC9.out.2.2.2.2
    have y4 := (ho10.frozen (a := ⟨gc, 4, none⟩) (by simp only; omega)).trans (show w9.frozen? ⟨gc, 4, none⟩ = false by simpa using (HT9.out 4 (by decide)).2)
    have hb10 : Below g w w10 := hpr.trans (ho10.below (Nat.le_refl _))
    clear hr10 ho10 hz3 hU3
    go_wp2
    go_end0
    exact HFIN.out _ _ _ HZE.out (pay_e3 HU.out HV.out HU2.out HM.out (by rw [HN.out]; have := HSS.out; omega) HMNE.out HU3.out HZE.out) (HE.out.other gc 4 (by omega) _) (hb10.setCell (by simp only; omega) _)
  subst hz3
  obtain ⟨q3, hq3, hq3a, hq3n, hq3v, hs1, hs2⟩ := unv_at HB.out (q2 + mn) (by rw [Int.natCast_add, hU3])
  rw [Int.natCast_add, hU3] at hq3 hq3v hs1 hs2
  simp only at hq3 hq3v hs1 hs2
  subst hq3
  rw [HN.out] at hq3n
  clear hq3v
  refine (next_yes _ g _ n c l _ s q3 HR9.out HN.out hnc HCM.out (RDO.out _ hpr) HB.out (by omega) hU3).mono ?_
  rintro e w10 ⟨rfl, hr10, ho10⟩
  have HE := Lib.hid hr10
  have hb10 : Below g w w10 := hpr.trans (ho10.below (Nat.le_refl _))
  have HO10 := Lib.hid ho10
  have hC10 : ClAt w10 gc ⟨ky, ch, v, 0, Z⟩ A7 mn c7 := by
    obtain ⟨x0, x1, x2, x3, x4⟩ := HC9.out
    exact ⟨(ho10.cell (by simp only; omega)).trans x0, (ho10.cell (by simp only; omega)).trans x1, (ho10.cell (by simp only; omega)).trans x2, (ho10.cell (by simp only; omega)).trans x3, (ho10.cell (by simp only; omega)).trans x4⟩
  have hO10 : OwnB w10 wq.heap.size A7 mn c7 Z := HO9.out.apartC (fun i hi => ho10.block i (by omega))
  have y4 := (ho10.frozen (a := ⟨gc, 4, none⟩) (by simp only; omega)).trans (show w9.frozen? ⟨gc, 4, none⟩ = false by simpa using (HT9.out 4 (by decide)).2)
  have x4 := hC10.2.2.2.2
  have HC10 := Lib.hid hC10
  have HOB := Lib.hid hO10
  clear hr10 ho10 hU3 hC10 hO10
  by_cases hsp : isP s
  · have HSP := Lib.hid hsp
    go_wp2_with fail
    refine (page_yes _ s hsp).mono ?_
    rintro e w0 ⟨rfl, rfl⟩
    go_wp2_with fail
    refine (form_ok _ g _ n c _ _ HE.out).mono ?_
    rintro e w0 ⟨rfl, rfl⟩
    unfold isP at hsp
    go_wp2
    go_end0
    refine HPE.out _ v s q3 ?_ (HE.out.other gc 4 (by omega) _) (HC10.out.setSpill s) ((HOB.out.apartC (fun i hi => heapC_ne _ _ _ (by simp only; omega))).mono (by omega)) (hb10.setCell (by simp only; omega) _)
    exact pay_ok HU.out HV.out HU2.out HM.out (by rw [HN.out]; have := HSS.out; omega) HMNE.out HU3.out (by omega)
  · have HSP := Lib.hid hsp
    go_wp2_with fail
    refine (page_no _ s hsp).mono ?_
    rintro e w0 ⟨rfl, rfl⟩
    go_wp2_with fail
    refine (form_no2 _ g _ n c _ HE.out).mono ?_
    rintro e w11 ⟨rfl, hr11, ho11⟩
    have HE2 := Lib.hid hr11
    have x4' := (ho11.cell (a := ⟨gc, 4, none⟩) (by simp only; omega)).trans x4
    have y4' := (ho11.frozen (a := ⟨gc, 4, none⟩) (by simp only; omega)).trans y4
    have hb11 : Below g w w11 := hb10.trans (ho11.below (Nat.le_refl _))
    clear hr11 ho11 x4 y4 hsp
    go_wp2
    go_end0
    refine HFIN.out _ _ 8 (by decide) ?_ (HE2.out.other gc 4 (by omega) _) (hb11.setCell (by simp only; omega) _)
    exact pay_f3 HU.out HV.out HU2.out HM.out (by rw [HN.out]; have := HSS.out; omega) HMNE.out HU3.out (by have := HSP.out; unfold isP at this; omega)
end Go.Proofs.Ytoeaffmlolapnaa
