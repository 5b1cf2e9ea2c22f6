/- Walk: cell.Decode. Printed by genCi.py. -/
import Derived.Test.YtoeaffmlolapnaaClH
namespace Go.Proofs.Ytoeaffmlolapnaa
open Go.RowKit
set_option maxRecDepth 100000
set_option linter.unusedSimpArgs false
set_option linter.unusedVariables false

def HeldD (g gr : Nat) (A : Option Addr) (n c : Nat) (at_ e : Int) (w X : World) : Prop := RrAt X g A n c at_ e ∧ X.there gr 0 5 ∧ Below gr w X
def DecCBack (w : World) (k : Int) (l : List Int) (e : Ending) (w' : World) : Prop :=
  ∃ A n c, e = .returned (.tuple #[(decC k l).1.val A n c, .int .i64 (decC k l).2]) ∧ OwnB w' w.heap.size A n c (decC k l).1.loc ∧ Below w.heap.size w w'
theorem below_setCellsC {B : Nat} {w w' : World} (h : Below B w w') {b : Nat} (hb : B ≤ b) : ∀ (o : Nat) (vs : List Value), Below B w (w'.setCells b o vs)
  | _, [] => h
  | o, _ :: r => below_setCellsC (h.setCell hb _) hb (o + 1) r
theorem RrAt.others {g : Nat} {A : Option Addr} {n c : Nat} {at_ e : Int} {b : Nat} (hb : b ≠ g) : ∀ (vs : List Value) (o : Nat) (w : World), RrAt w g A n c at_ e → RrAt (w.setCells b o vs) g A n c at_ e
  | [], _, _, h => h
  | v :: r, o, w, h => RrAt.others hb r (o + 1) _ (h.other b o hb v)

theorem dec_load (k : Int) (l : List Int) (hk : isK k) (h1 : (childD k l).2.2 = 0) (h2 : (keyD k l (childD k l).2.1).2.2 = 0) (h3 : (loadD k l (keyD k l (childD k l).2.1).2.1).e ≠ 0) : decC k l = (zeroC, (loadD k l (keyD k l (childD k l).2.1).2.1).e) := by
  unfold decC
  rw [if_neg (by simp [hk]), if_neg (by simp [h1]), if_neg (by simp [h2])]
  simp only
  rw [if_pos h3]
theorem dec_long (k : Int) (l : List Int) (hk : isK k) (h1 : (childD k l).2.2 = 0) (h2 : (keyD k l (childD k l).2.1).2.2 = 0) (h3 : (loadD k l (keyD k l (childD k l).2.1).2.1).e = 0) (h4 : (loadD k l (keyD k l (childD k l).2.1).2.1).at_ ≠ (l.length : Int)) : decC k l = (zeroC, 8) := by
  unfold decC
  rw [if_neg (by simp [hk]), if_neg (by simp [h1]), if_neg (by simp [h2])]
  simp only
  rw [if_neg (by simp [h3]), if_pos h4]
theorem dec_ok (k : Int) (l : List Int) (hk : isK k) (h1 : (childD k l).2.2 = 0) (h2 : (keyD k l (childD k l).2.1).2.2 = 0) (h3 : (loadD k l (keyD k l (childD k l).2.1).2.1).e = 0) (h4 : (loadD k l (keyD k l (childD k l).2.1).2.1).at_ = (l.length : Int)) :
    decC k l = (⟨(keyD k l (childD k l).2.1).1, (childD k l).1, (loadD k l (keyD k l (childD k l).2.1).2.1).total, (loadD k l (keyD k l (childD k l).2.1).2.1).spill, (loadD k l (keyD k l (childD k l).2.1).2.1).loc⟩, 0) := by
  unfold decC
  rw [if_neg (by simp [hk]), if_neg (by simp [h1]), if_neg (by simp [h2])]
  simp only
  rw [if_neg (by simp [h3]), if_neg (by simp [h4])]
theorem heap_setCellsC (g : Nat) : ∀ (vs : List Value) (o : Nat) (w : World) (i : Nat), i ≠ g → (w.setCells g o vs).heap[i]? = w.heap[i]?
  | [], _, _, _, _ => rfl
  | v :: r, o, w, i, h => (heap_setCellsC g r (o + 1) _ i h).trans (heapC_ne w ⟨g, o, none⟩ v h)
set_option maxHeartbeats 4000000 in
theorem cdec_no (w : World) (k : Int) (A : Option Addr) (n c : Nat) (l : List Int) (hno : ¬ isK k) (R : Ending → World → Prop) (hP : R = DecCBack w k l) :
    Calls Try.prog 32 #[.int .i64 k, .slice A n c] w R := by
  have HP := Lib.hid hP; clear hP
  have hd : decC k l = (zeroC, 1) := if_pos hno
  have HD := Lib.hid hd; clear hd
  go_enter Try.func32, Try.ntmps32
  go_wp2_with fail
  refine (has_no _ k hno).mono ?_
  rintro e w1 ⟨rfl, rfl⟩
  go_wp2
  refine ret_cl (c := zeroC) (A := none) (n := 0) (d := 0) rfl rfl ⟨by simp [go_sem, zeroC], by simp [go_sem, zeroC], by simp [go_sem, zeroC], by simp [go_sem, zeroC], by simp [go_sem, zeroC]⟩ rfl ?_
  rw [HP.out]
  exact ⟨none, 0, 0, by rw [HD.out]; rfl, by rw [HD.out]; exact OwnB.nil _ _, (Below.refl _ _).alloc (Nat.le_refl _) _⟩

set_option maxHeartbeats 16000000 in
theorem cdec_three (w : World) (A : Option Addr) (n c : Nat) (l : List Int) (hn : l.length = n) (hnc : n ≤ c) (hcm : c ≤ maxLen) (hA : Rd w A l) (hAg : ∀ x, A = some x → l ≠ [] → x.block < w.heap.size) (hB : IsB l) (R : Ending → World → Prop) (hP : R = DecCBack w 3 l) :
    Calls Try.prog 32 #[.int .i64 3, .slice A n c] w R := by
  have HP := Lib.hid hP; clear hP
  have HN := Lib.hid hn; clear hn
  have HB := Lib.hid hB; clear hB
  have HCM := Lib.hid hcm
  unfold maxLen at hcm
  have HAG := Lib.hid hAg; clear hAg
  obtain ⟨W3, hW3⟩ : ∃ W, W = ((w.alloc (.cells #[.int .i64 0, .int .i64 0, .int .i64 0, .slice none 0 0, .int .i64 0] 55)).alloc (.cells #[.slice A n c, .int .i64 0, .int .i64 0] 110)).alloc (.cells #[.int .i64 0, .int .i64 0, .int .i64 0, .slice none 0 0, .int .i64 0] 55) := ⟨_, rfl⟩
  have hb3 : Below w.heap.size w W3 := by rw [hW3]; exact (((Below.refl _ _).alloc (Nat.le_refl _) _).alloc (by simp) _).alloc (by simp; omega) _
  have hz3 : W3.heap.size = w.heap.size + 3 := by rw [hW3]; simp
  have hr3 : RrAt W3 (w.heap.size + 1) A n c 0 0 := by
    rw [hW3]
    exact ⟨⟨by simp [go_sem], by simp [go_sem], by simp [go_sem]⟩, by simp [go_sem], by simp [go_sem]⟩
  have hc3 : ClAt W3 (w.heap.size + 1 + 1) ⟨0, 0, 0, 0, []⟩ none 0 0 := by
    rw [hW3]
    exact ⟨by simp [go_sem], by simp [go_sem], by simp [go_sem], by simp [go_sem], by simp [go_sem]⟩
  have ht3 : W3.there (w.heap.size + 1 + 1) 0 5 := by
    rw [hW3]
    intro j hj
    rcases (by omega : j = 0 ∨ j = 1 ∨ j = 2 ∨ j = 3 ∨ j = 4) with rfl | rfl | rfl | rfl | rfl <;> simp [go_sem]
  have hg3 : W3.there w.heap.size 0 5 := by
    rw [hW3]
    intro j hj
    rcases (by omega : j = 0 ∨ j = 1 ∨ j = 2 ∨ j = 3 ∨ j = 4) with rfl | rfl | rfl | rfl | rfl <;> simp [go_sem]
  have HA := Lib.hid hA; clear hA
  have HR3 := Lib.hid hr3
  have HC3 := Lib.hid hc3
  have HT3 := Lib.hid ht3
  have HG3 := Lib.hid hg3
  have HW := Lib.hid hW3
  clear hr3 hc3 ht3 hg3
  go_enter Try.func32, Try.ntmps32
  go_wp2_with fail
  refine (has_three _).mono ?_
  rintro e w1 ⟨rfl, rfl⟩

  go_upto_region 10 with fail
  rw [← hW3]
  clear hW3 HW
  generalize hgd : w.heap.size + 1 = g at *
  generalize hcd : g + 1 = gc at *
  have hA3 := HA.out.keep hb3
  have HA3 := Lib.hid hA3
  clear hA3
  have hagg : ∀ x, A = some x → l ≠ [] → x.block < g := fun x hx hl0 => by have := HAG.out x hx hl0; omega
  have HAGG := Lib.hid hagg
  clear hagg
  have hfin : ∀ (W : World) (e' : Int), decC 3 l = (zeroC, e') → Below w.heap.size w W → R (.returned (.tuple #[zeroC.val none 0 0, .int .i64 e'])) (W.setCells w.heap.size 0 (clC zeroC none 0 0)) := by
    intro W e' h1 h2
    rw [HP.out]
    exact ⟨none, 0, 0, by rw [h1], by rw [h1]; exact OwnB.nil _ _, below_setCellsC h2 (Nat.le_refl _) _ _⟩
  have HFIN := Lib.hid hfin; clear hfin
  go_wp2_with fail
  refine (load_any W3 g gc A n c l 0 0 0 HR3.out HC3.out HT3.out (by omega) (by omega) HN.out hnc HCM.out HA3.out HAGG.out HB.out (Nat.zero_le _) _ rfl).mono ?_
  rintro e w4 ⟨at4, e4, rfl, hr4, he4, hok4, hb4⟩
  have hB4 : Below w.heap.size w w4 := hb3.trans (hb4.mono (by omega))
  have HG4 := Lib.hid (there_keepC HG3.out hb4 (by omega))
  have HE4 := Lib.hid hr4
  have HEV := Lib.hid he4
  have HOK := Lib.hid hok4
  clear he4 hok4
  by_cases hz : e4 = 0
  · obtain ⟨hat, A', n', c', hcl, hown⟩ := HOK.out hz
    have HHAT := Lib.hid hat
    have HCL := Lib.hid hcl
    have HOWN := Lib.hid hown
    have hez := HEV.out
    subst hz
    have HEZ := Lib.hid hez.symm
    clear hat hcl hown hez HOK HEV
    generalize hpy : payD l ((0 : Nat) : Int) = y at *
    obtain ⟨yt, ys, yl, ya, ye⟩ := y
    have HPY := Lib.hid hpy
    clear hpy
    by_cases hend : at4 = (n : Int)
    · have hbq : (at4 == (n : Int)) = true := by simp [hend]
      have HEND := Lib.hid hend
      clear hend
      obtain ⟨⟨r0, r1, r2⟩, f1, f2⟩ := hr4
      go_wp2_with fail
      refine (form_ok _ g A n c _ _ HE4.out).mono ?_
      rintro e w0 ⟨rfl, rfl⟩
      go_upto_region 17 with fail
      go_step
      refine wp_load_cl rfl _ rfl gc ⟨0, 0, yt, ys, yl⟩ A' n' c' rfl HCL.out ?_
      refine wp_store_cl rfl _ _ rfl w.heap.size ⟨0, 0, yt, ys, yl⟩ A' n' c' rfl rfl HG4.out ?_
      repeat go_step
      refine ret_cl rfl rfl (ClAt.stored HG4.out ⟨0, 0, yt, ys, yl⟩ A' n' c') rfl ?_
      rw [HP.out]
      have hdec : decC 3 l = (⟨0, 0, yt, ys, yl⟩, 0) := by
        have e1 : childD 3 l = (0, 0, 0) := if_neg (by unfold hasC; omega)
        have e2 : keyD 3 l 0 = (0, 0, 0) := if_neg (by unfold hasK; omega)
        have e3 : loadD 3 l 0 = ⟨yt, ys, yl, ya, ye⟩ := (if_neg (by omega)).trans HPY.out
        have := dec_ok 3 l ⟨by omega, by omega⟩ (by rw [e1]) (by rw [e1]; simp only; rw [e2]) (by rw [e1]; simp only; rw [e2]; simp only; rw [e3]; exact HEZ.out) (by rw [e1]; simp only; rw [e2]; simp only; rw [e3, HN.out]; exact HHAT.out.symm.trans HEND.out)
        rw [e1] at this; simp only at this; rw [e2] at this; simp only at this; rw [e3] at this
        exact this
      have hO : OwnB (w4.setCells w.heap.size 0 (clC ⟨0, 0, yt, ys, yl⟩ A' n' c')) (g + 1) A' n' c' yl := HOWN.out.apartC (fun i hi => heap_setCellsC _ _ _ _ _ (by omega))
      exact ⟨A', n', c', by rw [hdec]; rfl, by rw [hdec]; exact hO.mono (by omega), below_setCellsC hB4 (Nat.le_refl _) _ _⟩
    · have hbq : (at4 == (n : Int)) = false := by simp [hend]
      have HEND := Lib.hid hend
      clear hend
      obtain ⟨⟨r0, r1, r2⟩, f1, f2⟩ := hr4
      go_wp2_with fail
      refine (form_no2 _ g A n c _ HE4.out).mono ?_
      rintro e w5 ⟨rfl, hr5, ho5⟩
      have HE5 := Lib.hid hr5
      have hB5 : Below w.heap.size w w5 := hB4.trans (ho5.below (by omega))
      have HG5 := Lib.hid (there_keepC HG4.out (ho5.below (Nat.le_refl g)) (by omega))
      have hz5 := ho5.size
      have hz4 := hb4.size
      have hdec : decC 3 l = (zeroC, 8) := by
        have e1 : childD 3 l = (0, 0, 0) := if_neg (by unfold hasC; omega)
        have e2 : keyD 3 l 0 = (0, 0, 0) := if_neg (by unfold hasK; omega)
        have e3 : loadD 3 l 0 = ⟨yt, ys, yl, ya, ye⟩ := (if_neg (by omega)).trans HPY.out
        exact dec_long 3 l ⟨by omega, by omega⟩ (by rw [e1]) (by rw [e1]; simp only; rw [e2]) (by rw [e1]; simp only; rw [e2]; simp only; rw [e3]; exact HEZ.out) (by rw [e1]; simp only; rw [e2]; simp only; rw [e3, HN.out]; exact fun h => HEND.out (HHAT.out.trans h))
      have HDEC := Lib.hid hdec
      clear hdec hr5 ho5 r0 r1 r2 f1 f2
      obtain ⟨⟨r0, r1, r2⟩, f1, f2⟩ := HE5.out
      have hE2 : ∀ X, HeldD g w.heap.size A n c at4 8 w X → X.cell? ⟨g, 2, none⟩ = some (.int .i64 8) := fun X h => h.1.1.2.2
      go_upto_region 16 with fail
      clear r0 r1 r2 f1 f2
      have HTD := Lib.hid (there_keepC HG5.out (Below.refl w5.heap.size w5).drew (by omega))
      refine wp_region_held_drew (S := (fun X => HeldD g w.heap.size A n c at4 8 w X)) (by kernel_rfl) ?_ (fun hHeld => ?_)
      · exact ⟨HE5.out.drewN 1, HTD.out, hB5.drew⟩
      refine' wpAnyH_take (i := 0) (oi := _) (v := _) rfl (by kernel_rfl) (by kernel_rfl) (by kernel_rfl) (fun _ _ _ h => h) (Or.inl ⟨by rfl, ?hvf0⟩) (by assumption) ?rsf0
      case hvf0 => (intro w' hSw; (try dsimp only at hSw); go_simp; try with_reducible rfl)
      try simp only [Act.put, List.setIfInBounds_toArray, List.set_cons_zero, List.set_cons_succ, List.getElem_toArray, List.getElem_cons_zero, List.getElem_cons_succ]
      refine' wpAnyH_take (i := 1) (oi := _) (v := _) rfl (by kernel_rfl) (by kernel_rfl) (by kernel_rfl) (fun _ _ _ h => h) (Or.inl ⟨by rfl, ?hvf1⟩) (by assumption) ?rsf1
      case hvf1 => (intro w' hSw; (try dsimp only at hSw); go_simp; try with_reducible rfl)
      try simp only [Act.put, List.setIfInBounds_toArray, List.set_cons_zero, List.set_cons_succ, List.getElem_toArray, List.getElem_cons_zero, List.getElem_cons_succ]
      refine' wpAnyH_take (i := 2) (oi := _) (v := _) rfl (by kernel_rfl) (by kernel_rfl) (by kernel_rfl) (fun _ _ _ h => h) (Or.inl ⟨by rfl, ?hvf2⟩) (by assumption) ?rsf2
      case hvf2 => (intro w' hSw; (try dsimp only at hSw); go_simp; try with_reducible rfl)
      try simp only [Act.put, List.setIfInBounds_toArray, List.set_cons_zero, List.set_cons_succ, List.getElem_toArray, List.getElem_cons_zero, List.getElem_cons_succ]
      refine' wpAnyH_take (i := 3) (oi := _) (v := _) rfl (by kernel_rfl) (by kernel_rfl) (by kernel_rfl) (fun _ _ _ h => h) (Or.inl ⟨by rfl, ?hvf3⟩) (by assumption) ?rsf3
      case hvf3 => (intro w' hSw; (try dsimp only at hSw); go_simp; try with_reducible rfl)
      try simp only [Act.put, List.setIfInBounds_toArray, List.set_cons_zero, List.set_cons_succ, List.getElem_toArray, List.getElem_cons_zero, List.getElem_cons_succ]
      refine' wpAnyH_take (i := 4) (oi := _) (v := _) rfl (by kernel_rfl) (by kernel_rfl) (by kernel_rfl) (fun _ _ _ h => h) (Or.inl ⟨by rfl, ?hvf4⟩) (by assumption) ?rsf4
      case hvf4 => (intro w' hSw; (try dsimp only at hSw); go_simp; try with_reducible rfl)
      try simp only [Act.put, List.setIfInBounds_toArray, List.set_cons_zero, List.set_cons_succ, List.getElem_toArray, List.getElem_cons_zero, List.getElem_cons_succ]
      refine wpAnyH_ready (rs := [5]) (by kernel_rfl) (by simp) ?_
      refine AllReadyH.cons (o := _) rfl (fun K hK => ?_) AllReadyH.nil
      rw [if_pos (by kernel_rfl)]
      refine wp_store_mid 55 (.tmp 4) (.tmp 56) rfl w.heap.size 0 (clC zeroC none 0 0).toArray rfl rfl HTD.out size_cl (all_oneCell_toArray (by intro v hv; simp [clC] at hv; rcases hv with rfl | rfl | rfl | rfl | rfl <;> rfl)) ?_
      refine hK.out _ _ ?_ (fun hHeld => ?_)
      · exact ⟨RrAt.others (by omega) _ _ _ (HE5.out.drewN 1), World.there_setCells HTD.out _ _ _, below_setCellsC hB5.drew (Nat.le_refl _) _ _⟩
      clear hK K
      try simp only [Act.put, List.setIfInBounds_toArray, List.set_cons_zero, List.set_cons_succ, List.getElem_toArray, List.getElem_cons_zero, List.getElem_cons_succ]
      refine' wpAnyH_take (i := 6) (oi := _) (v := _) rfl (by kernel_rfl) (by kernel_rfl) (by kernel_rfl) (fun _ _ _ h => h) (Or.inl ⟨by rfl, ?hvf6⟩) (by assumption) ?rsf6
      case hvf6 => (intro w' hSw; (try dsimp only at hSw); go_simp; try with_reducible rfl)
      try simp only [Act.put, List.setIfInBounds_toArray, List.set_cons_zero, List.set_cons_succ, List.getElem_toArray, List.getElem_cons_zero, List.getElem_cons_succ]
      refine wpAnyH_done (by kernel_rfl) ?_ _
      go_wp2
      refine ret_cl rfl rfl (ClAt.stored HTD.out zeroC none 0 0) rfl ?_
      exact HFIN.out _ _ HDEC.out hB5.drew
  · have HZE := Lib.hid hz
    have z1 : (e4 != 0) = true := by simp [hz]
    have hz4 := hb4.size
    have hdec : decC 3 l = (zeroC, e4) := by
      have e1 : childD 3 l = (0, 0, 0) := if_neg (by unfold hasC; omega)
      have e2 : keyD 3 l 0 = (0, 0, 0) := if_neg (by unfold hasK; omega)
      have e3 : loadD 3 l 0 = payD l ((0 : Nat) : Int) := if_neg (by omega)
      have h7 := dec_load 3 l ⟨by omega, by omega⟩ (by rw [e1]) (by rw [e1]; simp only; rw [e2]) (by rw [e1]; simp only; rw [e2]; simp only; rw [e3, ← HEV.out]; exact hz)
      rw [e1] at h7; simp only at h7; rw [e2] at h7; simp only at h7; rw [e3, ← HEV.out] at h7
      exact h7
    have HDEC := Lib.hid hdec
    clear hdec HOK HEV
    obtain ⟨⟨r0, r1, r2⟩, f1, f2⟩ := hr4
    go_wp2_with fail
    refine (form_bad _ g A n c _ _ _ HE4.out HZE.out).mono ?_
    rintro e w0 ⟨rfl, rfl⟩
    clear r0 r1 r2 f1 f2
    obtain ⟨⟨r0, r1, r2⟩, f1, f2⟩ := HE4.out
    have hE2 : ∀ X, HeldD g w.heap.size A n c at4 e4 w X → X.cell? ⟨g, 2, none⟩ = some (.int .i64 e4) := fun X h => h.1.1.2.2
    go_upto_region 16 with fail
    clear r0 r1 r2 f1 f2
    have HTD := Lib.hid (there_keepC HG4.out (Below.refl w4.heap.size w4).drew (by omega))
    refine wp_region_held_drew (S := (fun X => HeldD g w.heap.size A n c at4 e4 w X)) (by kernel_rfl) ?_ (fun hHeld => ?_)
    · exact ⟨HE4.out.drewN 1, HTD.out, hB4.drew⟩
    refine' wpAnyH_take (i := 0) (oi := _) (v := _) rfl (by kernel_rfl) (by kernel_rfl) (by kernel_rfl) (fun _ _ _ h => h) (Or.inl ⟨by rfl, ?hve0⟩) (by assumption) ?rse0
    case hve0 => (intro w' hSw; (try dsimp only at hSw); go_simp; try with_reducible rfl)
    try simp only [Act.put, List.setIfInBounds_toArray, List.set_cons_zero, List.set_cons_succ, List.getElem_toArray, List.getElem_cons_zero, List.getElem_cons_succ]
    refine' wpAnyH_take (i := 1) (oi := _) (v := _) rfl (by kernel_rfl) (by kernel_rfl) (by kernel_rfl) (fun _ _ _ h => h) (Or.inl ⟨by rfl, ?hve1⟩) (by assumption) ?rse1
    case hve1 => (intro w' hSw; (try dsimp only at hSw); go_simp; try with_reducible rfl)
    try simp only [Act.put, List.setIfInBounds_toArray, List.set_cons_zero, List.set_cons_succ, List.getElem_toArray, List.getElem_cons_zero, List.getElem_cons_succ]
    refine' wpAnyH_take (i := 2) (oi := _) (v := _) rfl (by kernel_rfl) (by kernel_rfl) (by kernel_rfl) (fun _ _ _ h => h) (Or.inl ⟨by rfl, ?hve2⟩) (by assumption) ?rse2
    case hve2 => (intro w' hSw; (try dsimp only at hSw); go_simp; try with_reducible rfl)
    try simp only [Act.put, List.setIfInBounds_toArray, List.set_cons_zero, List.set_cons_succ, List.getElem_toArray, List.getElem_cons_zero, List.getElem_cons_succ]
    refine' wpAnyH_take (i := 3) (oi := _) (v := _) rfl (by kernel_rfl) (by kernel_rfl) (by kernel_rfl) (fun _ _ _ h => h) (Or.inl ⟨by rfl, ?hve3⟩) (by assumption) ?rse3
    case hve3 => (intro w' hSw; (try dsimp only at hSw); go_simp; try with_reducible rfl)
    try simp only [Act.put, List.setIfInBounds_toArray, List.set_cons_zero, List.set_cons_succ, List.getElem_toArray, List.getElem_cons_zero, List.getElem_cons_succ]
    refine' wpAnyH_take (i := 4) (oi := _) (v := _) rfl (by kernel_rfl) (by kernel_rfl) (by kernel_rfl) (fun _ _ _ h => h) (Or.inl ⟨by rfl, ?hve4⟩) (by assumption) ?rse4
    case hve4 => (intro w' hSw; (try dsimp only at hSw); go_simp; try with_reducible rfl)
    try simp only [Act.put, List.setIfInBounds_toArray, List.set_cons_zero, List.set_cons_succ, List.getElem_toArray, List.getElem_cons_zero, List.getElem_cons_succ]
    refine wpAnyH_ready (rs := [5]) (by kernel_rfl) (by simp) ?_
    refine AllReadyH.cons (o := _) rfl (fun K hK => ?_) AllReadyH.nil
    rw [if_pos (by kernel_rfl)]
    refine wp_store_mid 55 (.tmp 4) (.tmp 56) rfl w.heap.size 0 (clC zeroC none 0 0).toArray rfl rfl HTD.out size_cl (all_oneCell_toArray (by intro v hv; simp [clC] at hv; rcases hv with rfl | rfl | rfl | rfl | rfl <;> rfl)) ?_
    refine hK.out _ _ ?_ (fun hHeld => ?_)
    · exact ⟨RrAt.others (by omega) _ _ _ (HE4.out.drewN 1), World.there_setCells HTD.out _ _ _, below_setCellsC hB4.drew (Nat.le_refl _) _ _⟩
    clear hK K
    try simp only [Act.put, List.setIfInBounds_toArray, List.set_cons_zero, List.set_cons_succ, List.getElem_toArray, List.getElem_cons_zero, List.getElem_cons_succ]
    refine' wpAnyH_take (i := 6) (oi := _) (v := _) rfl (by kernel_rfl) (by kernel_rfl) (by kernel_rfl) (fun _ _ _ h => h) (Or.inl ⟨by rfl, ?hve6⟩) (by assumption) ?rse6
    case hve6 => (intro w' hSw; (try dsimp only at hSw); go_simp; try with_reducible rfl)
    try simp only [Act.put, List.setIfInBounds_toArray, List.set_cons_zero, List.set_cons_succ, List.getElem_toArray, List.getElem_cons_zero, List.getElem_cons_succ]
    refine wpAnyH_done (by kernel_rfl) ?_ _
    go_wp2
    refine ret_cl rfl rfl (ClAt.stored HTD.out zeroC none 0 0) rfl ?_
    exact HFIN.out _ _ HDEC.out hB4.drew
end Go.Proofs.Ytoeaffmlolapnaa
