/- Several texts of this proof as one: ClI, ClJ, ClM. Laid by merge.py. -/
import Derived.Test.YtoeaffmlolapnaaNpA
import Derived.Test.YtoeaffmlolapnaaNpB
import Derived.Test.YtoeaffmlolapnaaNpC
import Derived.Test.YtoeaffmlolapnaaNpD
import Derived.Test.YtoeaffmlolapnaaNpF
import Derived.ArgAppend
import Derived.BigQuiet
import Derived.Deep.DeepCutAuto
import Derived.Deep.MidRow
import Derived.Deep.QuietTactic
import Derived.Deep.RegionHeld3
import Derived.Handy
import Derived.Laws.Externs
import Derived.Laws.ResultCell
import Derived.Lib.AppendStr
import Derived.Lib.Hide
import Derived.Lib.MakeNoZero
import Derived.Lib.SlBuf
import Derived.Lib.SmallJoins
import Derived.Maps.AppendAt
import Derived.Test.YtoeaffmlolapnaaProg
import Derived.WalkKit
import Derived.WalkSpells
namespace Go.Proofs.Ytoeaffmlolapnaa
section
open Go.RowKit
set_option maxRecDepth 100000
set_option linter.unusedSimpArgs false
set_option linter.unusedVariables false
def HeldD (g gr : Nat) (A : Option Addr) (n c : Nat) (at_ e : Int) (w X : World) : Prop := RrAt X g A n c at_ e ∧ X.there gr 0 5 ∧ Below gr w X
def DecCBack (w : World) (k : Int) (l : List Int) (e : Ending) (w' : World) : Prop :=
  ∃ A n c, e = .returned (.tuple #[(decC k l).1.val A n c, .int .i64 (decC k l).2]) ∧ OwnB w' w.heap.size A n c (decC k l).1.loc ∧ Below w.heap.size w w'
theorem below_setCellsC {B : Nat} {w w' : World} (h : Below B w w') {b : Nat} (hb : B ≤ b) : ∀ (o : Nat) (vs : List Value), Below B w (w'.setCells b o vs)
  | _, [] => h
  | o, _ :: r => below_setCellsC (h.setCell hb _) hb (o + 1) r
theorem RrAt.others {g : Nat} {A : Option Addr} {n c : Nat} {at_ e : Int} {b : Nat} (hb : b ≠ g) : ∀ (vs : List Value) (o : Nat) (w : World), RrAt w g A n c at_ e → RrAt (w.setCells b o vs) g A n c at_ e
  | [], _, _, h => h
  | v :: r, o, w, h => RrAt.others hb r (o + 1) _ (h.other b o hb v)

theorem dec_load (k : Int) (l : List Int) (hk : isK k) (h1 : (childD k l).2.2 = 0) (h2 : (keyD k l (childD k l).2.1).2.2 = 0) (h3 : (loadD k l (keyD k l (childD k l).2.1).2.1).e ≠ 0) : decC k l = (zeroC, (loadD k l (keyD k l (childD k l).2.1).2.1).e) := by
  unfold decC
  rw [if_neg (by simp [hk]), if_neg (by simp [h1]), if_neg (by simp [h2])]
  simp only
  rw [if_pos h3]
theorem dec_long (k : Int) (l : List Int) (hk : isK k) (h1 : (childD k l).2.2 = 0) (h2 : (keyD k l (childD k l).2.1).2.2 = 0) (h3 : (loadD k l (keyD k l (childD k l).2.1).2.1).e = 0) (h4 : (loadD k l (keyD k l (childD k l).2.1).2.1).at_ ≠ (l.length : Int)) : decC k l = (zeroC, 8) := by
  unfold decC
  rw [if_neg (by simp [hk]), if_neg (by simp [h1]), if_neg (by simp [h2])]
  simp only
  rw [if_neg (by simp [h3]), if_pos h4]
theorem dec_ok (k : Int) (l : List Int) (hk : isK k) (h1 : (childD k l).2.2 = 0) (h2 : (keyD k l (childD k l).2.1).2.2 = 0) (h3 : (loadD k l (keyD k l (childD k l).2.1).2.1).e = 0) (h4 : (loadD k l (keyD k l (childD k l).2.1).2.1).at_ = (l.length : Int)) :
    decC k l = (⟨(keyD k l (childD k l).2.1).1, (childD k l).1, (loadD k l (keyD k l (childD k l).2.1).2.1).total, (loadD k l (keyD k l (childD k l).2.1).2.1).spill, (loadD k l (keyD k l (childD k l).2.1).2.1).loc⟩, 0) := by
  unfold decC
  rw [if_neg (by simp [hk]), if_neg (by simp [h1]), if_neg (by simp [h2])]
  simp only
  rw [if_neg (by simp [h3]), if_neg (by simp [h4])]
theorem heap_setCellsC (g : Nat) : ∀ (vs : List Value) (o : Nat) (w : World) (i : Nat), i ≠ g → (w.setCells g o vs).heap[i]? = w.heap[i]?
  | [], _, _, _, _ => rfl
  | v :: r, o, w, i, h => (heap_setCellsC g r (o + 1) _ i h).trans (heapC_ne w ⟨g, o, none⟩ v h)
set_option maxHeartbeats 4000000 in
theorem cdec_no (w : World) (k : Int) (A : Option Addr) (n c : Nat) (l : List Int) (hno : ¬ isK k) (R : Ending → World → Prop) (hP : R = DecCBack w k l) :
    Calls Try.prog 32 #[.int .i64 k, .slice A n c] w R := by
  have HP := Lib.hid hP; clear hP
  have hd : decC k l = (zeroC, 1) := if_pos hno
  have HD := Lib.hid hd; clear hd
  go_enter Try.func32, Try.ntmps32
  go_wp2_with fail
  refine (has_no _ k hno).mono ?_
  rintro e w1 ⟨rfl, rfl⟩
  go_wp2
  refine ret_cl (c := zeroC) (A := none) (n := 0) (d := 0) rfl rfl ⟨by simp [go_sem, zeroC], by simp [go_sem, zeroC], by simp [go_sem, zeroC], by simp [go_sem, zeroC], by simp [go_sem, zeroC]⟩ rfl ?_
  rw [HP.out]
  exact ⟨none, 0, 0, by rw [HD.out]; rfl, by rw [HD.out]; exact OwnB.nil _ _, (Below.refl _ _).alloc (Nat.le_refl _) _⟩

set_option maxHeartbeats 16000000 in
theorem cdec_three (w : World) (A : Option Addr) (n c : Nat) (l : List Int) (hn : l.length = n) (hnc : n ≤ c) (hcm : c ≤ maxLen) (hA : Rd w A l) (hAg : ∀ x, A = some x → l ≠ [] → x.block < w.heap.size) (hB : IsB l) (R : Ending → World → Prop) (hP : R = DecCBack w 3 l) :
    Calls Try.prog 32 #[.int .i64 3, .slice A n c] w R := by
  have HP := Lib.hid hP; clear hP
  have HN := Lib.hid hn; clear hn
  have HB := Lib.hid hB; clear hB
  have HCM := Lib.hid hcm
  unfold maxLen at hcm
  have HAG := Lib.hid hAg; clear hAg
  obtain ⟨W3, hW3⟩ : ∃ W, W = ((w.alloc (.cells #[.int .i64 0, .int .i64 0, .int .i64 0, .slice none 0 0, .int .i64 0] 55)).alloc (.cells #[.slice A n c, .int .i64 0, .int .i64 0] 110)).alloc (.cells #[.int .i64 0, .int .i64 0, .int .i64 0, .slice none 0 0, .int .i64 0] 55) := ⟨_, rfl⟩
  have hb3 : Below w.heap.size w W3 := by rw [hW3]; exact (((Below.refl _ _).alloc (Nat.le_refl _) _).alloc (by simp) _).alloc (by simp; omega) _
  have hz3 : W3.heap.size = w.heap.size + 3 := by rw [hW3]; simp
  have hr3 : RrAt W3 (w.heap.size + 1) A n c 0 0 := by
    rw [hW3]
    exact ⟨⟨by simp [go_sem], by simp [go_sem], by simp [go_sem]⟩, by simp [go_sem], by simp [go_sem]⟩
  have hc3 : ClAt W3 (w.heap.size + 1 + 1) ⟨0, 0, 0, 0, []⟩ none 0 0 := by
    rw [hW3]
    exact ⟨by simp [go_sem], by simp [go_sem], by simp [go_sem], by simp [go_sem], by simp [go_sem]⟩
  have ht3 : W3.there (w.heap.size + 1 + 1) 0 5 := by
    rw [hW3]
    intro j hj
    rcases (by omega : j = 0 ∨ j = 1 ∨ j = 2 ∨ j = 3 ∨ j = 4) with rfl | rfl | rfl | rfl | rfl <;> simp [go_sem]
  have hg3 : W3.there w.heap.size 0 5 := by
    rw [hW3]
    intro j hj
    rcases (by omega : j = 0 ∨ j = 1 ∨ j = 2 ∨ j = 3 ∨ j = 4) with rfl | rfl | rfl | rfl | rfl <;> simp [go_sem]
  have HA := Lib.hid hA; clear hA
  have HR3 := Lib.hid hr3
  have HC3 := Lib.hid hc3
  have HT3 := Lib.hid ht3
  have HG3 := Lib.hid hg3
  have HW := Lib.hid hW3
  clear hr3 hc3 ht3 hg3
  go_enter Try.func32, Try.ntmps32
  go_wp2_with fail
  refine (has_three _).mono ?_
  rintro e w1 ⟨rfl, rfl⟩

  go_upto_region 10 with fail
  rw [← hW3]
  clear hW3 HW
  generalize hgd : w.heap.size + 1 = g at *
  generalize hcd : g + 1 = gc at *
  have hA3 := HA.out.keep hb3
  have HA3 := Lib.hid hA3
  clear hA3
  have hagg : ∀ x, A = some x → l ≠ [] → x.block < g := fun x hx hl0 => by have := HAG.out x hx hl0; omega
  have HAGG := Lib.hid hagg
  clear hagg
  have hfin : ∀ (W : World) (e' : Int), decC 3 l = (zeroC, e') → Below w.heap.size w W → R (.returned (.tuple #[zeroC.val none 0 0, .int .i64 e'])) (W.setCells w.heap.size 0 (clC zeroC none 0 0)) := by
    intro W e' h1 h2
    rw [HP.out]
    exact ⟨none, 0, 0, by rw [h1], by rw [h1]; exact OwnB.nil _ _, below_setCellsC h2 (Nat.le_refl _) _ _⟩
  have HFIN := Lib.hid hfin; clear hfin
  go_wp2_with fail
  refine (load_any W3 g gc A n c l 0 0 0 HR3.out HC3.out HT3.out (by omega) (by omega) HN.out hnc HCM.out HA3.out HAGG.out HB.out (Nat.zero_le _) _ rfl).mono ?_
  rintro e w4 ⟨at4, e4, rfl, hr4, he4, hok4, hb4⟩
  have hB4 : Below w.heap.size w w4 := hb3.trans (hb4.mono (by omega))
  have HG4 := Lib.hid (there_keepC HG3.out hb4 (by omega))
  have HE4 := Lib.hid hr4
  have HEV := Lib.hid he4
  have HOK := Lib.hid hok4
  clear he4 hok4
  by_cases hz : e4 = 0
  · obtain ⟨hat, A', n', c', hcl, hown⟩ := HOK.out hz
    have HHAT := Lib.hid hat
    have HCL := Lib.hid hcl
    have HOWN := Lib.hid hown
    have hez := HEV.out
    subst hz
    have HEZ := Lib.hid hez.symm
    clear hat hcl hown hez HOK HEV
    generalize hpy : payD l ((0 : Nat) : Int) = y at *
    obtain ⟨yt, ys, yl, ya, ye⟩ := y
    have HPY := Lib.hid hpy
    clear hpy
    by_cases hend : at4 = (n : Int)
    · have hbq : (at4 == (n : Int)) = true := by simp [hend]
      have HEND := Lib.hid hend
      clear hend
      obtain ⟨⟨r0, r1, r2⟩, f1, f2⟩ := hr4
      go_wp2_with fail
      refine (form_ok _ g A n c _ _ HE4.out).mono ?_
      rintro e w0 ⟨rfl, rfl⟩
      go_upto_region 17 with fail
      go_step
      refine wp_load_cl rfl _ rfl gc ⟨0, 0, yt, ys, yl⟩ A' n' c' rfl HCL.out ?_
      refine wp_store_cl rfl _ _ rfl w.heap.size ⟨0, 0, yt, ys, yl⟩ A' n' c' rfl rfl HG4.out ?_
      repeat go_step
      refine ret_cl rfl rfl (ClAt.stored HG4.out ⟨0, 0, yt, ys, yl⟩ A' n' c') rfl ?_
      rw [HP.out]
      have hdec : decC 3 l = (⟨0, 0, yt, ys, yl⟩, 0) := by
        have e1 : childD 3 l = (0, 0, 0) := if_neg (by unfold hasC; omega)
        have e2 : keyD 3 l 0 = (0, 0, 0) := if_neg (by unfold hasK; omega)
        have e3 : loadD 3 l 0 = ⟨yt, ys, yl, ya, ye⟩ := (if_neg (by omega)).trans HPY.out
        have := dec_ok 3 l ⟨by omega, by omega⟩ (by rw [e1]) (by rw [e1]; simp only; rw [e2]) (by rw [e1]; simp only; rw [e2]; simp only; rw [e3]; exact HEZ.out) (by rw [e1]; simp only; rw [e2]; simp only; rw [e3, HN.out]; exact HHAT.out.symm.trans HEND.out)
        rw [e1] at this; simp only at this; rw [e2] at this; simp only at this; rw [e3] at this
        exact this
      have hO : OwnB (w4.setCells w.heap.size 0 (clC ⟨0, 0, yt, ys, yl⟩ A' n' c')) (g + 1) A' n' c' yl := HOWN.out.apartC (fun i hi => heap_setCellsC _ _ _ _ _ (by omega))
      exact ⟨A', n', c', by rw [hdec]; rfl, by rw [hdec]; exact hO.mono (by omega), below_setCellsC hB4 (Nat.le_refl _) _ _⟩
    · have hbq : (at4 == (n : Int)) = false := by simp [hend]
      have HEND := Lib.hid hend
      clear hend
      obtain ⟨⟨r0, r1, r2⟩, f1, f2⟩ := hr4
      go_wp2_with fail
      refine (form_no2 _ g A n c _ HE4.out).mono ?_
      rintro e w5 ⟨rfl, hr5, ho5⟩
      have HE5 := Lib.hid hr5
      have hB5 : Below w.heap.size w w5 := hB4.trans (ho5.below (by omega))
      have HG5 := Lib.hid (there_keepC HG4.out (ho5.below (Nat.le_refl g)) (by omega))
      have hz5 := ho5.size
      have hz4 := hb4.size
      have hdec : decC 3 l = (zeroC, 8) := by
        have e1 : childD 3 l = (0, 0, 0) := if_neg (by unfold hasC; omega)
        have e2 : keyD 3 l 0 = (0, 0, 0) := if_neg (by unfold hasK; omega)
        have e3 : loadD 3 l 0 = ⟨yt, ys, yl, ya, ye⟩ := (if_neg (by omega)).trans HPY.out
        exact dec_long 3 l ⟨by omega, by omega⟩ (by rw [e1]) (by rw [e1]; simp only; rw [e2]) (by rw [e1]; simp only; rw [e2]; simp only; rw [e3]; exact HEZ.out) (by rw [e1]; simp only; rw [e2]; simp only; rw [e3, HN.out]; exact fun h => HEND.out (HHAT.out.trans h))
      have HDEC := Lib.hid hdec
      clear hdec hr5 ho5 r0 r1 r2 f1 f2
      obtain ⟨⟨r0, r1, r2⟩, f1, f2⟩ := HE5.out
      have hE2 : ∀ X, HeldD g w.heap.size A n c at4 8 w X → X.cell? ⟨g, 2, none⟩ = some (.int .i64 8) := fun X h => h.1.1.2.2
      go_upto_region 16 with fail
      clear r0 r1 r2 f1 f2
      have HTD := Lib.hid (there_keepC HG5.out (Below.refl w5.heap.size w5).drew (by omega))
      refine wp_region_held_drew (S := (fun X => HeldD g w.heap.size A n c at4 8 w X)) (by kernel_rfl) ?_ (fun hHeld => ?_)
      · exact ⟨HE5.out.drewN 1, HTD.out, hB5.drew⟩
      refine' wpAnyH_take (i := 0) (oi := _) (v := _) rfl (by kernel_rfl) (by kernel_rfl) (by kernel_rfl) (fun _ _ _ h => h) (Or.inl ⟨by rfl, ?hvf0⟩) (by assumption) ?rsf0
      case hvf0 => (intro w' hSw; (try dsimp only at hSw); go_simp; try with_reducible rfl)
      try simp only [Act.put, List.setIfInBounds_toArray, List.set_cons_zero, List.set_cons_succ, List.getElem_toArray, List.getElem_cons_zero, List.getElem_cons_succ]
      refine' wpAnyH_take (i := 1) (oi := _) (v := _) rfl (by kernel_rfl) (by kernel_rfl) (by kernel_rfl) (fun _ _ _ h => h) (Or.inl ⟨by rfl, ?hvf1⟩) (by assumption) ?rsf1
      case hvf1 => (intro w' hSw; (try dsimp only at hSw); go_simp; try with_reducible rfl)
      try simp only [Act.put, List.setIfInBounds_toArray, List.set_cons_zero, List.set_cons_succ, List.getElem_toArray, List.getElem_cons_zero, List.getElem_cons_succ]
      refine' wpAnyH_take (i := 2) (oi := _) (v := _) rfl (by kernel_rfl) (by kernel_rfl) (by kernel_rfl) (fun _ _ _ h => h) (Or.inl ⟨by rfl, ?hvf2⟩) (by assumption) ?rsf2
      case hvf2 => (intro w' hSw; (try dsimp only at hSw); go_simp; try with_reducible rfl)
      try simp only [Act.put, List.setIfInBounds_toArray, List.set_cons_zero, List.set_cons_succ, List.getElem_toArray, List.getElem_cons_zero, List.getElem_cons_succ]
      refine' wpAnyH_take (i := 3) (oi := _) (v := _) rfl (by kernel_rfl) (by kernel_rfl) (by kernel_rfl) (fun _ _ _ h => h) (Or.inl ⟨by rfl, ?hvf3⟩) (by assumption) ?rsf3
      case hvf3 => (intro w' hSw; (try dsimp only at hSw); go_simp; try with_reducible rfl)
      try simp only [Act.put, List.setIfInBounds_toArray, List.set_cons_zero, List.set_cons_succ, List.getElem_toArray, List.getElem_cons_zero, List.getElem_cons_succ]
      refine' wpAnyH_take (i := 4) (oi := _) (v := _) rfl (by kernel_rfl) (by kernel_rfl) (by kernel_rfl) (fun _ _ _ h => h) (Or.inl ⟨by rfl, ?hvf4⟩) (by assumption) ?rsf4
      case hvf4 => (intro w' hSw; (try dsimp only at hSw); go_simp; try with_reducible rfl)
      try simp only [Act.put, List.setIfInBounds_toArray, List.set_cons_zero, List.set_cons_succ, List.getElem_toArray, List.getElem_cons_zero, List.getElem_cons_succ]
      refine wpAnyH_ready (rs := [5]) (by kernel_rfl) (by simp) ?_
      refine AllReadyH.cons (o := _) rfl (fun K hK => ?_) AllReadyH.nil
      rw [if_pos (by kernel_rfl)]
      refine wp_store_mid 55 (.tmp 4) (.tmp 56) rfl w.heap.size 0 (clC zeroC none 0 0).toArray rfl rfl HTD.out size_cl (all_oneCell_toArray (by intro v hv; simp [clC] at hv; rcases hv with rfl | rfl | rfl | rfl | rfl <;> rfl)) ?_
      refine hK.out _ _ ?_ (fun hHeld => ?_)
      · exact ⟨RrAt.others (by omega) _ _ _ (HE5.out.drewN 1), World.there_setCells HTD.out _ _ _, below_setCellsC hB5.drew (Nat.le_refl _) _ _⟩
      clear hK K
      try simp only [Act.put, List.setIfInBounds_toArray, List.set_cons_zero, List.set_cons_succ, List.getElem_toArray, List.getElem_cons_zero, List.getElem_cons_succ]
      refine' wpAnyH_take (i := 6) (oi := _) (v := _) rfl (by kernel_rfl) (by kernel_rfl) (by kernel_rfl) (fun _ _ _ h => h) (Or.inl ⟨by rfl, ?hvf6⟩) (by assumption) ?rsf6
      case hvf6 => (intro w' hSw; (try dsimp only at hSw); go_simp; try with_reducible rfl)
      try simp only [Act.put, List.setIfInBounds_toArray, List.set_cons_zero, List.set_cons_succ, List.getElem_toArray, List.getElem_cons_zero, List.getElem_cons_succ]
      refine wpAnyH_done (by kernel_rfl) ?_ _
      go_wp2
      refine ret_cl rfl rfl (ClAt.stored HTD.out zeroC none 0 0) rfl ?_
      exact HFIN.out _ _ HDEC.out hB5.drew
  · have HZE := Lib.hid hz
    have z1 : (e4 != 0) = true := by simp [hz]
    have hz4 := hb4.size
    have hdec : decC 3 l = (zeroC, e4) := by
      have e1 : childD 3 l = (0, 0, 0) := if_neg (by unfold hasC; omega)
      have e2 : keyD 3 l 0 = (0, 0, 0) := if_neg (by unfold hasK; omega)
      have e3 : loadD 3 l 0 = payD l ((0 : Nat) : Int) := if_neg (by omega)
      have h7 := dec_load 3 l ⟨by omega, by omega⟩ (by rw [e1]) (by rw [e1]; simp only; rw [e2]) (by rw [e1]; simp only; rw [e2]; simp only; rw [e3, ← HEV.out]; exact hz)
      rw [e1] at h7; simp only at h7; rw [e2] at h7; simp only at h7; rw [e3, ← HEV.out] at h7
      exact h7
    have HDEC := Lib.hid hdec
    clear hdec HOK HEV
    obtain ⟨⟨r0, r1, r2⟩, f1, f2⟩ := hr4
    go_wp2_with fail
    refine (form_bad _ g A n c _ _ _ HE4.out HZE.out).mono ?_
    rintro e w0 ⟨rfl, rfl⟩
    clear r0 r1 r2 f1 f2
    obtain ⟨⟨r0, r1, r2⟩, f1, f2⟩ := HE4.out
    have hE2 : ∀ X, HeldD g w.heap.size A n c at4 e4 w X → X.cell? ⟨g, 2, none⟩ = some (.int .i64 e4) := fun X h => h.1.1.2.2
    go_upto_region 16 with fail
    clear r0 r1 r2 f1 f2
    have HTD := Lib.hid (there_keepC HG4.out (Below.refl w4.heap.size w4).drew (by omega))
    refine wp_region_held_drew (S := (fun X => HeldD g w.heap.size A n c at4 e4 w X)) (by kernel_rfl) ?_ (fun hHeld => ?_)
    · exact ⟨HE4.out.drewN 1, HTD.out, hB4.drew⟩
    refine' wpAnyH_take (i := 0) (oi := _) (v := _) rfl (by kernel_rfl) (by kernel_rfl) (by kernel_rfl) (fun _ _ _ h => h) (Or.inl ⟨by rfl, ?hve0⟩) (by assumption) ?rse0
    case hve0 => (intro w' hSw; (try dsimp only at hSw); go_simp; try with_reducible rfl)
    try simp only [Act.put, List.setIfInBounds_toArray, List.set_cons_zero, List.set_cons_succ, List.getElem_toArray, List.getElem_cons_zero, List.getElem_cons_succ]
    refine' wpAnyH_take (i := 1) (oi := _) (v := _) rfl (by kernel_rfl) (by kernel_rfl) (by kernel_rfl) (fun _ _ _ h => h) (Or.inl ⟨by rfl, ?hve1⟩) (by assumption) ?rse1
    case hve1 => (intro w' hSw; (try dsimp only at hSw); go_simp; try with_reducible rfl)
    try simp only [Act.put, List.setIfInBounds_toArray, List.set_cons_zero, List.set_cons_succ, List.getElem_toArray, List.getElem_cons_zero, List.getElem_cons_succ]
    refine' wpAnyH_take (i := 2) (oi := _) (v := _) rfl (by kernel_rfl) (by kernel_rfl) (by kernel_rfl) (fun _ _ _ h => h) (Or.inl ⟨by rfl, ?hve2⟩) (by assumption) ?rse2
    case hve2 => (intro w' hSw; (try dsimp only at hSw); go_simp; try with_reducible rfl)
    try simp only [Act.put, List.setIfInBounds_toArray, List.set_cons_zero, List.set_cons_succ, List.getElem_toArray, List.getElem_cons_zero, List.getElem_cons_succ]
    refine' wpAnyH_take (i := 3) (oi := _) (v := _) rfl (by kernel_rfl) (by kernel_rfl) (by kernel_rfl) (fun _ _ _ h => h) (Or.inl ⟨by rfl, ?hve3⟩) (by assumption) ?rse3
    case hve3 => (intro w' hSw; (try dsimp only at hSw); go_simp; try with_reducible rfl)
    try simp only [Act.put, List.setIfInBounds_toArray, List.set_cons_zero, List.set_cons_succ, List.getElem_toArray, List.getElem_cons_zero, List.getElem_cons_succ]
    refine' wpAnyH_take (i := 4) (oi := _) (v := _) rfl (by kernel_rfl) (by kernel_rfl) (by kernel_rfl) (fun _ _ _ h => h) (Or.inl ⟨by rfl, ?hve4⟩) (by assumption) ?rse4
    case hve4 => (intro w' hSw; (try dsimp only at hSw); go_simp; try with_reducible rfl)
    try simp only [Act.put, List.setIfInBounds_toArray, List.set_cons_zero, List.set_cons_succ, List.getElem_toArray, List.getElem_cons_zero, List.getElem_cons_succ]
    refine wpAnyH_ready (rs := [5]) (by kernel_rfl) (by simp) ?_
    refine AllReadyH.cons (o := _) rfl (fun K hK => ?_) AllReadyH.nil
    rw [if_pos (by kernel_rfl)]
    refine wp_store_mid 55 (.tmp 4) (.tmp 56) rfl w.heap.size 0 (clC zeroC none 0 0).toArray rfl rfl HTD.out size_cl (all_oneCell_toArray (by intro v hv; simp [clC] at hv; rcases hv with rfl | rfl | rfl | rfl | rfl <;> rfl)) ?_
    refine hK.out _ _ ?_ (fun hHeld => ?_)
    · exact ⟨RrAt.others (by omega) _ _ _ (HE4.out.drewN 1), World.there_setCells HTD.out _ _ _, below_setCellsC hB4.drew (Nat.le_refl _) _ _⟩
    clear hK K
    try simp only [Act.put, List.setIfInBounds_toArray, List.set_cons_zero, List.set_cons_succ, List.getElem_toArray, List.getElem_cons_zero, List.getElem_cons_succ]
    refine' wpAnyH_take (i := 6) (oi := _) (v := _) rfl (by kernel_rfl) (by kernel_rfl) (by kernel_rfl) (fun _ _ _ h => h) (Or.inl ⟨by rfl, ?hve6⟩) (by assumption) ?rse6
    case hve6 => (intro w' hSw; (try dsimp only at hSw); go_simp; try with_reducible rfl)
    try simp only [Act.put, List.setIfInBounds_toArray, List.set_cons_zero, List.set_cons_succ, List.getElem_toArray, List.getElem_cons_zero, List.getElem_cons_succ]
    refine wpAnyH_done (by kernel_rfl) ?_ _
    go_wp2
    refine ret_cl rfl rfl (ClAt.stored HTD.out zeroC none 0 0) rfl ?_
    exact HFIN.out _ _ HDEC.out hB4.drew
end
section
open Go.RowKit
set_option maxRecDepth 100000
set_option linter.unusedSimpArgs false
set_option linter.unusedVariables false
theorem dec_child (k : Int) (l : List Int) (hk : isK k) (h1 : (childD k l).2.2 ≠ 0) : decC k l = (zeroC, (childD k l).2.2) := by
  unfold decC
  rw [if_neg (by simp [hk]), if_pos h1]
theorem dec_key (k : Int) (l : List Int) (hk : isK k) (h1 : (childD k l).2.2 = 0) (h2 : (keyD k l (childD k l).2.1).2.2 ≠ 0) : decC k l = (zeroC, (keyD k l (childD k l).2.1).2.2) := by
  unfold decC
  rw [if_neg (by simp [hk]), if_neg (by simp [h1]), if_pos h2]
theorem ClAt.setChild {w : World} {g : Nat} {ky ch t sp : Int} {lo : List Int} {A : Option Addr} {n d : Nat} (h : ClAt w g ⟨ky, ch, t, sp, lo⟩ A n d) (x : Int) : ClAt (w.setCell ⟨g, 1, none⟩ (.int .i64 x)) g ⟨ky, x, t, sp, lo⟩ A n d :=
  ⟨(World.cell?_setCell_other _ _ _ _ (by simp)).trans h.1, World.cell?_setCell_same _ _ _ h.2.1, (World.cell?_setCell_other _ _ _ _ (by simp)).trans h.2.2.1, (World.cell?_setCell_other _ _ _ _ (by simp)).trans h.2.2.2.1, (World.cell?_setCell_other _ _ _ _ (by simp)).trans h.2.2.2.2⟩
theorem ClAt.setKey {w : World} {g : Nat} {ky ch t sp : Int} {lo : List Int} {A : Option Addr} {n d : Nat} (h : ClAt w g ⟨ky, ch, t, sp, lo⟩ A n d) (x : Int) : ClAt (w.setCell ⟨g, 0, none⟩ (.int .i64 x)) g ⟨x, ch, t, sp, lo⟩ A n d :=
  ⟨World.cell?_setCell_same _ _ _ h.1, (World.cell?_setCell_other _ _ _ _ (by simp)).trans h.2.1, (World.cell?_setCell_other _ _ _ _ (by simp)).trans h.2.2.1, (World.cell?_setCell_other _ _ _ _ (by simp)).trans h.2.2.2.1, (World.cell?_setCell_other _ _ _ _ (by simp)).trans h.2.2.2.2⟩
theorem ClAt.only {w w' : World} {g gc : Nat} {c : Cl} {A : Option Addr} {n d : Nat} (h : ClAt w gc c A n d) (ho : Only g w w') (hne : gc ≠ g) : ClAt w' gc c A n d :=
  ⟨(ho.cell hne).trans h.1, (ho.cell hne).trans h.2.1, (ho.cell hne).trans h.2.2.1, (ho.cell hne).trans h.2.2.2.1, (ho.cell hne).trans h.2.2.2.2⟩
theorem there_only {w w' : World} {g gc n : Nat} (h : w.there gc 0 n) (ho : Only g w w') (hne : gc ≠ g) : w'.there gc 0 n := fun j hj => by
  obtain ⟨h1, h2⟩ := h j hj
  exact ⟨by rw [ho.cell hne]; exact h1, by rw [ho.frozen hne]; exact h2⟩

set_option maxHeartbeats 16000000 in
theorem cdec_one (w : World) (A : Option Addr) (n c : Nat) (l : List Int) (hn : l.length = n) (hnc : n ≤ c) (hcm : c ≤ maxLen) (hA : Rd w A l) (hAg : ∀ x, A = some x → l ≠ [] → x.block < w.heap.size) (hB : IsB l) (R : Ending → World → Prop) (hP : R = DecCBack w 1 l) :
    Calls Try.prog 32 #[.int .i64 1, .slice A n c] w R := by
  have HP := Lib.hid hP; clear hP
  have HN := Lib.hid hn; clear hn
  have HB := Lib.hid hB; clear hB
  have HCM := Lib.hid hcm
  unfold maxLen at hcm
  have HAG := Lib.hid hAg; clear hAg
  obtain ⟨W3, hW3⟩ : ∃ W, W = ((w.alloc (.cells #[.int .i64 0, .int .i64 0, .int .i64 0, .slice none 0 0, .int .i64 0] 55)).alloc (.cells #[.slice A n c, .int .i64 0, .int .i64 0] 110)).alloc (.cells #[.int .i64 0, .int .i64 0, .int .i64 0, .slice none 0 0, .int .i64 0] 55) := ⟨_, rfl⟩
  have hb3 : Below w.heap.size w W3 := by rw [hW3]; exact (((Below.refl _ _).alloc (Nat.le_refl _) _).alloc (by simp) _).alloc (by simp; omega) _
  have hz3 : W3.heap.size = w.heap.size + 3 := by rw [hW3]; simp
  have hr3 : RrAt W3 (w.heap.size + 1) A n c 0 0 := by
    rw [hW3]
    exact ⟨⟨by simp [go_sem], by simp [go_sem], by simp [go_sem]⟩, by simp [go_sem], by simp [go_sem]⟩
  have hc3 : ClAt W3 (w.heap.size + 1 + 1) ⟨0, 0, 0, 0, []⟩ none 0 0 := by
    rw [hW3]
    exact ⟨by simp [go_sem], by simp [go_sem], by simp [go_sem], by simp [go_sem], by simp [go_sem]⟩
  have ht3 : W3.there (w.heap.size + 1 + 1) 0 5 := by
    rw [hW3]
    intro j hj
    rcases (by omega : j = 0 ∨ j = 1 ∨ j = 2 ∨ j = 3 ∨ j = 4) with rfl | rfl | rfl | rfl | rfl <;> simp [go_sem]
  have hg3 : W3.there w.heap.size 0 5 := by
    rw [hW3]
    intro j hj
    rcases (by omega : j = 0 ∨ j = 1 ∨ j = 2 ∨ j = 3 ∨ j = 4) with rfl | rfl | rfl | rfl | rfl <;> simp [go_sem]
  have HA := Lib.hid hA; clear hA
  have HR3 := Lib.hid hr3
  have HC3 := Lib.hid hc3
  have HT3 := Lib.hid ht3
  have HG3 := Lib.hid hg3
  have HW := Lib.hid hW3
  clear hr3 hc3 ht3 hg3
  go_enter Try.func32, Try.ntmps32
  go_wp2_with fail
  refine (has_one _).mono ?_
  rintro e w1 ⟨rfl, rfl⟩

  go_upto_region 10 with fail
  rw [← hW3]
  clear hW3 HW
  generalize hgd : w.heap.size + 1 = g at *
  generalize hcd : g + 1 = gc at *
  have hA3 := HA.out.keep hb3
  have HA3 := Lib.hid hA3
  clear hA3
  have hagg : ∀ x, A = some x → l ≠ [] → x.block < g := fun x hx hl0 => by have := HAG.out x hx hl0; omega
  have HAGG := Lib.hid hagg
  clear hagg
  have hfin : ∀ (W : World) (e' : Int), decC 1 l = (zeroC, e') → Below w.heap.size w W → R (.returned (.tuple #[zeroC.val none 0 0, .int .i64 e'])) (W.setCells w.heap.size 0 (clC zeroC none 0 0)) := by
    intro W e' h1 h2
    rw [HP.out]
    exact ⟨none, 0, 0, by rw [h1], by rw [h1]; exact OwnB.nil _ _, below_setCellsC h2 (Nat.le_refl _) _ _⟩
  have HFIN := Lib.hid hfin; clear hfin
  have HECH := Lib.hid (show childD 1 l = (0, 0, 0) from if_neg (by unfold hasC; omega))
  go_wp2_with fail
  obtain ⟨⟨vn1, pn1, zn1⟩, hUn1⟩ : ∃ U, unvL l 0 = U := ⟨_, rfl⟩
  have HUn1 := Lib.hid hUn1
  by_cases hz : zn1 = 0
  rotate_left
  · have HZn1 := Lib.hid hz
    refine (next_err _ g A n c l _ vn1 pn1 zn1 HR3.out HN.out hnc HCM.out (HA.out.keep hb3) HB.out (by omega) hUn1 hz).mono ?_
    rintro e wEn1 ⟨rfl, ⟨atn1, hrn1⟩, hon1⟩
    have HREn1 := Lib.hid hrn1
    have HCn2 := Lib.hid (HC3.out.only hon1 (by omega))
    have HTn2 := Lib.hid (there_only HT3.out hon1 (by omega))
    have HGn2 := Lib.hid (there_only HG3.out hon1 (by omega))
    have hBn2 : Below w.heap.size w wEn1 := hb3.trans (hon1.below (by omega))
    have hzn2 := hon1.size
    clear hrn1 hon1 hz hUn1
    have HDn1 := Lib.hid (show decC 1 l = (zeroC, zn1) from by
      have e1 : keyD 1 l 0 = (vn1, pn1, zn1) := (if_pos (by unfold hasK; omega)).trans HUn1.out
      have h7 := dec_key 1 l ⟨by omega, by omega⟩ (by rw [HECH.out]) (by rw [HECH.out]; simp only; rw [e1]; exact HZn1.out)
      rw [HECH.out] at h7; simp only at h7; rw [e1] at h7
      exact h7)
    have x0 := HCn2.out.1
    have y0 : wEn1.frozen? ⟨gc, 0, none⟩ = false := by simpa using (HTn2.out 0 (by decide)).2
    go_wp2_with fail
    clear x0 y0
    obtain ⟨Wn3, hWn3⟩ : ∃ x, x = wEn1.setCell ⟨gc, 0, none⟩ (.int .i64 0) := ⟨_, rfl⟩
    rw [← hWn3]
    have HRn3 := Lib.hid (show RrAt Wn3 g A n c _ _ by rw [hWn3]; exact HREn1.out.other gc 0 (by omega) _)
    have HCn3 := Lib.hid (show ClAt Wn3 gc ⟨0, 0, 0, 0, []⟩ none 0 0 by rw [hWn3]; exact ClAt.setKey HCn2.out 0)
    have HTn3 := Lib.hid (show Wn3.there gc 0 5 by rw [hWn3]; exact there_setC HTn2.out _ _)
    have HGn3 := Lib.hid (show Wn3.there w.heap.size 0 5 by rw [hWn3]; exact there_setC HGn2.out _ _)
    have hBn3 : Below w.heap.size w Wn3 := by rw [hWn3]; exact hBn2.setCell (by simp only; omega) _
    have hzn3 : Wn3.heap.size = wEn1.heap.size := by rw [hWn3]; simp only [World.setCell, Array.size_modify]
    clear hWn3
    refine (load_bad _ g gc A n c _ _ HRn3.out HZn1.out _ rfl).mono ?_
    rintro e Wn4 ⟨rfl, hrn4, hbn4⟩
    have HRn4 := Lib.hid hrn4
    have HGn4 := Lib.hid (there_keepC HGn3.out hbn4 (by omega))
    have hBn4 : Below w.heap.size w Wn4 := hBn3.trans (hbn4.mono (by omega))
    have hzn4 := hbn4.size
    clear hrn4 hbn4
    obtain ⟨⟨r0, r1, r2⟩, f1, f2⟩ := HRn4.out
    go_wp2_with fail
    refine (form_bad _ g A n c _ _ _ HRn4.out HZn1.out).mono ?_
    rintro e w0 ⟨rfl, rfl⟩
    have z1 : (zn1 != 0) = true := by simp [HZn1.out]
    clear r0 r1 r2 f1 f2
    obtain ⟨atx, hatx⟩ : ∃ x, RrAt Wn4 g A n c x zn1 := ⟨_, HRn4.out⟩
    have HRX := Lib.hid hatx
    clear hatx
    obtain ⟨⟨r0, r1, r2⟩, f1, f2⟩ := HRX.out
    have hE2 : ∀ X, HeldD g w.heap.size A n c atx zn1 w X → X.cell? ⟨g, 2, none⟩ = some (.int .i64 zn1) := fun X h => h.1.1.2.2
    go_upto_region 16 with fail
    clear r0 r1 r2 f1 f2
    have HTD := Lib.hid (there_keepC HGn4.out (Below.refl Wn4.heap.size Wn4).drew (by omega))
    refine wp_region_held_drew (S := (fun X => HeldD g w.heap.size A n c atx zn1 w X)) (by kernel_rfl) ?_ (fun hHeld => ?_)
    · exact ⟨HRX.out.drewN 1, HTD.out, hBn4.drew⟩
    refine' wpAnyH_take (i := 0) (oi := _) (v := _) rfl (by kernel_rfl) (by kernel_rfl) (by kernel_rfl) (fun _ _ _ h => h) (Or.inl ⟨by rfl, ?hvn50⟩) (by assumption) ?rsn50
    case hvn50 => (intro w' hSw; (try dsimp only at hSw); go_simp; try with_reducible rfl)
    try simp only [Act.put, List.setIfInBounds_toArray, List.set_cons_zero, List.set_cons_succ, List.getElem_toArray, List.getElem_cons_zero, List.getElem_cons_succ]
    refine' wpAnyH_take (i := 1) (oi := _) (v := _) rfl (by kernel_rfl) (by kernel_rfl) (by kernel_rfl) (fun _ _ _ h => h) (Or.inl ⟨by rfl, ?hvn51⟩) (by assumption) ?rsn51
    case hvn51 => (intro w' hSw; (try dsimp only at hSw); go_simp; try with_reducible rfl)
    try simp only [Act.put, List.setIfInBounds_toArray, List.set_cons_zero, List.set_cons_succ, List.getElem_toArray, List.getElem_cons_zero, List.getElem_cons_succ]
    refine' wpAnyH_take (i := 2) (oi := _) (v := _) rfl (by kernel_rfl) (by kernel_rfl) (by kernel_rfl) (fun _ _ _ h => h) (Or.inl ⟨by rfl, ?hvn52⟩) (by assumption) ?rsn52
    case hvn52 => (intro w' hSw; (try dsimp only at hSw); go_simp; try with_reducible rfl)
    try simp only [Act.put, List.setIfInBounds_toArray, List.set_cons_zero, List.set_cons_succ, List.getElem_toArray, List.getElem_cons_zero, List.getElem_cons_succ]
    refine' wpAnyH_take (i := 3) (oi := _) (v := _) rfl (by kernel_rfl) (by kernel_rfl) (by kernel_rfl) (fun _ _ _ h => h) (Or.inl ⟨by rfl, ?hvn53⟩) (by assumption) ?rsn53
    case hvn53 => (intro w' hSw; (try dsimp only at hSw); go_simp; try with_reducible rfl)
    try simp only [Act.put, List.setIfInBounds_toArray, List.set_cons_zero, List.set_cons_succ, List.getElem_toArray, List.getElem_cons_zero, List.getElem_cons_succ]
    refine' wpAnyH_take (i := 4) (oi := _) (v := _) rfl (by kernel_rfl) (by kernel_rfl) (by kernel_rfl) (fun _ _ _ h => h) (Or.inl ⟨by rfl, ?hvn54⟩) (by assumption) ?rsn54
    case hvn54 => (intro w' hSw; (try dsimp only at hSw); go_simp; try with_reducible rfl)
    try simp only [Act.put, List.setIfInBounds_toArray, List.set_cons_zero, List.set_cons_succ, List.getElem_toArray, List.getElem_cons_zero, List.getElem_cons_succ]
    refine wpAnyH_ready (rs := [5]) (by kernel_rfl) (by simp) ?_
    refine AllReadyH.cons (o := _) rfl (fun K hK => ?_) AllReadyH.nil
    rw [if_pos (by kernel_rfl)]
    refine wp_store_mid 55 (.tmp 4) (.tmp 56) rfl w.heap.size 0 (clC zeroC none 0 0).toArray rfl rfl HTD.out size_cl (all_oneCell_toArray (by intro v hv; simp [clC] at hv; rcases hv with rfl | rfl | rfl | rfl | rfl <;> rfl)) ?_
    refine hK.out _ _ ?_ (fun hHeld => ?_)
    · exact ⟨RrAt.others (by omega) _ _ _ (HRX.out.drewN 1), World.there_setCells HTD.out _ _ _, below_setCellsC hBn4.drew (Nat.le_refl _) _ _⟩
    clear hK K
    try simp only [Act.put, List.setIfInBounds_toArray, List.set_cons_zero, List.set_cons_succ, List.getElem_toArray, List.getElem_cons_zero, List.getElem_cons_succ]
    refine' wpAnyH_take (i := 6) (oi := _) (v := _) rfl (by kernel_rfl) (by kernel_rfl) (by kernel_rfl) (fun _ _ _ h => h) (Or.inl ⟨by rfl, ?hvn56⟩) (by assumption) ?rsn56
    case hvn56 => (intro w' hSw; (try dsimp only at hSw); go_simp; try with_reducible rfl)
    try simp only [Act.put, List.setIfInBounds_toArray, List.set_cons_zero, List.set_cons_succ, List.getElem_toArray, List.getElem_cons_zero, List.getElem_cons_succ]
    refine wpAnyH_done (by kernel_rfl) ?_ _
    repeat go_step
    refine ret_cl rfl rfl (ClAt.stored HTD.out zeroC none 0 0) rfl ?_
    exact HFIN.out _ _ HDn1.out hBn4.drew
  subst hz
  obtain ⟨qn1, hqn1, hqan1, hqnn1, hqvn1, hv1n1, hv2n1⟩ := unv_at HB.out 0 (by first | rw [hUn1] | (simp only [Int.natCast_zero]; rw [hUn1]))
  first | rw [hUn1] at hqn1 hqvn1 hv1n1 hv2n1 | (simp only [Int.natCast_zero] at hqn1 hqvn1 hv1n1 hv2n1; rw [hUn1] at hqn1 hqvn1 hv1n1 hv2n1)
  simp only at hqn1 hqvn1 hv1n1 hv2n1
  subst hqn1
  rw [HN.out] at hqnn1
  clear hqvn1
  refine (next_yes _ g A n c l _ vn1 qn1 HR3.out HN.out hnc HCM.out (HA.out.keep hb3) HB.out (by omega) hUn1).mono ?_
  rintro e wGn1 ⟨rfl, hrn1, hon1⟩
  have HRGn1 := Lib.hid hrn1
  have HCn6 := Lib.hid (HC3.out.only hon1 (by omega))
  have HTn6 := Lib.hid (there_only HT3.out hon1 (by omega))
  have HGn6 := Lib.hid (there_only HG3.out hon1 (by omega))
  have hBn6 : Below w.heap.size w wGn1 := hb3.trans (hon1.below (by omega))
  have hzn6 := hon1.size
  clear hrn1 hon1 hUn1
  have HEn1 := Lib.hid (show keyD 1 l 0 = (vn1, (qn1 : Int), 0) from (if_pos (by unfold hasK; omega)).trans HUn1.out)
  have x0 := HCn6.out.1
  have y0 : wGn1.frozen? ⟨gc, 0, none⟩ = false := by simpa using (HTn6.out 0 (by decide)).2
  go_wp2_with fail
  clear x0 y0
  obtain ⟨Wn7, hWn7⟩ : ∃ x, x = wGn1.setCell ⟨gc, 0, none⟩ (.int .i64 vn1) := ⟨_, rfl⟩
  rw [← hWn7]
  have HRn7 := Lib.hid (show RrAt Wn7 g A n c _ _ by rw [hWn7]; exact HRGn1.out.other gc 0 (by omega) _)
  have HCn7 := Lib.hid (show ClAt Wn7 gc ⟨vn1, 0, 0, 0, []⟩ none 0 0 by rw [hWn7]; exact ClAt.setKey HCn6.out vn1)
  have HTn7 := Lib.hid (show Wn7.there gc 0 5 by rw [hWn7]; exact there_setC HTn6.out _ _)
  have HGn7 := Lib.hid (show Wn7.there w.heap.size 0 5 by rw [hWn7]; exact there_setC HGn6.out _ _)
  have hBn7 : Below w.heap.size w Wn7 := by rw [hWn7]; exact hBn6.setCell (by simp only; omega) _
  have hzn7 : Wn7.heap.size = wGn1.heap.size := by rw [hWn7]; simp only [World.setCell, Array.size_modify]
  clear hWn7
  refine (load_any _ g gc A n c l qn1 vn1 0 HRn7.out HCn7.out HTn7.out (by omega) (by omega) HN.out hnc HCM.out (HA.out.keep hBn7) HAGG.out HB.out (by omega) _ rfl).mono ?_
  rintro e w4 ⟨at4, e4, rfl, hr4, he4, hok4, hb4⟩
  have hB4 : Below w.heap.size w w4 := hBn7.trans (hb4.mono (by omega))
  have HG4 := Lib.hid (there_keepC HGn7.out hb4 (by omega))
  have HR4 := Lib.hid hr4
  have HEV := Lib.hid he4
  have HOK := Lib.hid hok4
  have hz4 := hb4.size
  clear he4 hok4 hb4 hr4
  have HLD := Lib.hid (show loadD 1 l (qn1 : Int) = payD l ((qn1 : Nat) : Int) from (if_neg (by omega)).trans (by first | rfl | simp))
  by_cases hz : e4 = 0
  rotate_left
  · have HZ4 := Lib.hid hz
    have HD4 := Lib.hid (show decC 1 l = (zeroC, e4) from by
      have h7 := dec_load 1 l ⟨by omega, by omega⟩ (by rw [HECH.out]) (by rw [HECH.out]; simp only; rw [HEn1.out]) (by rw [HECH.out]; simp only; rw [HEn1.out]; simp only; rw [HLD.out, ← HEV.out]; exact HZ4.out)
      rw [HECH.out] at h7; simp only at h7; rw [HEn1.out] at h7; simp only at h7; rw [HLD.out, ← HEV.out] at h7
      exact h7)
    clear hz HOK HEV
    obtain ⟨⟨r0, r1, r2⟩, f1, f2⟩ := HR4.out
    go_wp2_with fail
    refine (form_bad _ g A n c _ _ _ HR4.out HZ4.out).mono ?_
    rintro e w0 ⟨rfl, rfl⟩
    have z1 : (e4 != 0) = true := by simp [HZ4.out]
    clear r0 r1 r2 f1 f2
    obtain ⟨atx, hatx⟩ : ∃ x, RrAt w4 g A n c x e4 := ⟨_, HR4.out⟩
    have HRX := Lib.hid hatx
    clear hatx
    obtain ⟨⟨r0, r1, r2⟩, f1, f2⟩ := HRX.out
    have hE2 : ∀ X, HeldD g w.heap.size A n c atx e4 w X → X.cell? ⟨g, 2, none⟩ = some (.int .i64 e4) := fun X h => h.1.1.2.2
    go_upto_region 16 with fail
    clear r0 r1 r2 f1 f2
    have HTD := Lib.hid (there_keepC HG4.out (Below.refl w4.heap.size w4).drew (by omega))
    refine wp_region_held_drew (S := (fun X => HeldD g w.heap.size A n c atx e4 w X)) (by kernel_rfl) ?_ (fun hHeld => ?_)
    · exact ⟨HRX.out.drewN 1, HTD.out, hB4.drew⟩
    refine' wpAnyH_take (i := 0) (oi := _) (v := _) rfl (by kernel_rfl) (by kernel_rfl) (by kernel_rfl) (fun _ _ _ h => h) (Or.inl ⟨by rfl, ?hvn80⟩) (by assumption) ?rsn80
    case hvn80 => (intro w' hSw; (try dsimp only at hSw); go_simp; try with_reducible rfl)
    try simp only [Act.put, List.setIfInBounds_toArray, List.set_cons_zero, List.set_cons_succ, List.getElem_toArray, List.getElem_cons_zero, List.getElem_cons_succ]
    refine' wpAnyH_take (i := 1) (oi := _) (v := _) rfl (by kernel_rfl) (by kernel_rfl) (by kernel_rfl) (fun _ _ _ h => h) (Or.inl ⟨by rfl, ?hvn81⟩) (by assumption) ?rsn81
    case hvn81 => (intro w' hSw; (try dsimp only at hSw); go_simp; try with_reducible rfl)
    try simp only [Act.put, List.setIfInBounds_toArray, List.set_cons_zero, List.set_cons_succ, List.getElem_toArray, List.getElem_cons_zero, List.getElem_cons_succ]
    refine' wpAnyH_take (i := 2) (oi := _) (v := _) rfl (by kernel_rfl) (by kernel_rfl) (by kernel_rfl) (fun _ _ _ h => h) (Or.inl ⟨by rfl, ?hvn82⟩) (by assumption) ?rsn82
    case hvn82 => (intro w' hSw; (try dsimp only at hSw); go_simp; try with_reducible rfl)
    try simp only [Act.put, List.setIfInBounds_toArray, List.set_cons_zero, List.set_cons_succ, List.getElem_toArray, List.getElem_cons_zero, List.getElem_cons_succ]
    refine' wpAnyH_take (i := 3) (oi := _) (v := _) rfl (by kernel_rfl) (by kernel_rfl) (by kernel_rfl) (fun _ _ _ h => h) (Or.inl ⟨by rfl, ?hvn83⟩) (by assumption) ?rsn83
    case hvn83 => (intro w' hSw; (try dsimp only at hSw); go_simp; try with_reducible rfl)
    try simp only [Act.put, List.setIfInBounds_toArray, List.set_cons_zero, List.set_cons_succ, List.getElem_toArray, List.getElem_cons_zero, List.getElem_cons_succ]
    refine' wpAnyH_take (i := 4) (oi := _) (v := _) rfl (by kernel_rfl) (by kernel_rfl) (by kernel_rfl) (fun _ _ _ h => h) (Or.inl ⟨by rfl, ?hvn84⟩) (by assumption) ?rsn84
    case hvn84 => (intro w' hSw; (try dsimp only at hSw); go_simp; try with_reducible rfl)
    try simp only [Act.put, List.setIfInBounds_toArray, List.set_cons_zero, List.set_cons_succ, List.getElem_toArray, List.getElem_cons_zero, List.getElem_cons_succ]
    refine wpAnyH_ready (rs := [5]) (by kernel_rfl) (by simp) ?_
    refine AllReadyH.cons (o := _) rfl (fun K hK => ?_) AllReadyH.nil
    rw [if_pos (by kernel_rfl)]
    refine wp_store_mid 55 (.tmp 4) (.tmp 56) rfl w.heap.size 0 (clC zeroC none 0 0).toArray rfl rfl HTD.out size_cl (all_oneCell_toArray (by intro v hv; simp [clC] at hv; rcases hv with rfl | rfl | rfl | rfl | rfl <;> rfl)) ?_
    refine hK.out _ _ ?_ (fun hHeld => ?_)
    · exact ⟨RrAt.others (by omega) _ _ _ (HRX.out.drewN 1), World.there_setCells HTD.out _ _ _, below_setCellsC hB4.drew (Nat.le_refl _) _ _⟩
    clear hK K
    try simp only [Act.put, List.setIfInBounds_toArray, List.set_cons_zero, List.set_cons_succ, List.getElem_toArray, List.getElem_cons_zero, List.getElem_cons_succ]
    refine' wpAnyH_take (i := 6) (oi := _) (v := _) rfl (by kernel_rfl) (by kernel_rfl) (by kernel_rfl) (fun _ _ _ h => h) (Or.inl ⟨by rfl, ?hvn86⟩) (by assumption) ?rsn86
    case hvn86 => (intro w' hSw; (try dsimp only at hSw); go_simp; try with_reducible rfl)
    try simp only [Act.put, List.setIfInBounds_toArray, List.set_cons_zero, List.set_cons_succ, List.getElem_toArray, List.getElem_cons_zero, List.getElem_cons_succ]
    refine wpAnyH_done (by kernel_rfl) ?_ _
    repeat go_step
    refine ret_cl rfl rfl (ClAt.stored HTD.out zeroC none 0 0) rfl ?_
    exact HFIN.out _ _ HD4.out hB4.drew
  obtain ⟨hat, A', n', c', hcl, hown⟩ := HOK.out hz
  have HHAT := Lib.hid hat
  have HCL := Lib.hid hcl
  have HOWN := Lib.hid hown
  have hez := HEV.out
  subst hz
  have HEZ := Lib.hid hez.symm
  clear hat hcl hown hez HOK HEV
  generalize hpy : payD l ((qn1 : Nat) : Int) = y at *
  obtain ⟨yt, ys, yl, ya, ye⟩ := y
  by_cases hend : at4 = (n : Int)
  rotate_left
  · have hbq : (at4 == (n : Int)) = false := by simp [hend]
    have HEND := Lib.hid hend
    clear hend
    obtain ⟨⟨r0, r1, r2⟩, f1, f2⟩ := HR4.out
    go_wp2_with fail
    refine (form_no2 _ g A n c _ HR4.out).mono ?_
    rintro e w5 ⟨rfl, hr5, ho5⟩
    have HR5 := Lib.hid hr5
    have hB5 : Below w.heap.size w w5 := hB4.trans (ho5.below (by omega))
    have HG5 := Lib.hid (there_keepC HG4.out (ho5.below (Nat.le_refl g)) (by omega))
    have hz5 := ho5.size
    have z1 : ((8 : Int) != 0) = true := by decide
    have HD5 := Lib.hid (show decC 1 l = (zeroC, 8) from
      dec_long 1 l ⟨by omega, by omega⟩ (by rw [HECH.out]) (by rw [HECH.out]; simp only; rw [HEn1.out]) (by rw [HECH.out]; simp only; rw [HEn1.out]; simp only; rw [HLD.out]; exact HEZ.out) (by rw [HECH.out]; simp only; rw [HEn1.out]; simp only; rw [HLD.out, HN.out]; exact fun h => HEND.out (HHAT.out.trans h)))
    clear hr5 ho5 r0 r1 r2 f1 f2
    obtain ⟨⟨r0, r1, r2⟩, f1, f2⟩ := HR5.out
    have hE2 : ∀ X, HeldD g w.heap.size A n c at4 8 w X → X.cell? ⟨g, 2, none⟩ = some (.int .i64 8) := fun X h => h.1.1.2.2
    go_upto_region 16 with fail
    clear r0 r1 r2 f1 f2
    have HTD := Lib.hid (there_keepC HG5.out (Below.refl w5.heap.size w5).drew (by omega))
    refine wp_region_held_drew (S := (fun X => HeldD g w.heap.size A n c at4 8 w X)) (by kernel_rfl) ?_ (fun hHeld => ?_)
    · exact ⟨HR5.out.drewN 1, HTD.out, hB5.drew⟩
    refine' wpAnyH_take (i := 0) (oi := _) (v := _) rfl (by kernel_rfl) (by kernel_rfl) (by kernel_rfl) (fun _ _ _ h => h) (Or.inl ⟨by rfl, ?hvn90⟩) (by assumption) ?rsn90
    case hvn90 => (intro w' hSw; (try dsimp only at hSw); go_simp; try with_reducible rfl)
    try simp only [Act.put, List.setIfInBounds_toArray, List.set_cons_zero, List.set_cons_succ, List.getElem_toArray, List.getElem_cons_zero, List.getElem_cons_succ]
    refine' wpAnyH_take (i := 1) (oi := _) (v := _) rfl (by kernel_rfl) (by kernel_rfl) (by kernel_rfl) (fun _ _ _ h => h) (Or.inl ⟨by rfl, ?hvn91⟩) (by assumption) ?rsn91
    case hvn91 => (intro w' hSw; (try dsimp only at hSw); go_simp; try with_reducible rfl)
    try simp only [Act.put, List.setIfInBounds_toArray, List.set_cons_zero, List.set_cons_succ, List.getElem_toArray, List.getElem_cons_zero, List.getElem_cons_succ]
    refine' wpAnyH_take (i := 2) (oi := _) (v := _) rfl (by kernel_rfl) (by kernel_rfl) (by kernel_rfl) (fun _ _ _ h => h) (Or.inl ⟨by rfl, ?hvn92⟩) (by assumption) ?rsn92
    case hvn92 => (intro w' hSw; (try dsimp only at hSw); go_simp; try with_reducible rfl)
    try simp only [Act.put, List.setIfInBounds_toArray, List.set_cons_zero, List.set_cons_succ, List.getElem_toArray, List.getElem_cons_zero, List.getElem_cons_succ]
    refine' wpAnyH_take (i := 3) (oi := _) (v := _) rfl (by kernel_rfl) (by kernel_rfl) (by kernel_rfl) (fun _ _ _ h => h) (Or.inl ⟨by rfl, ?hvn93⟩) (by assumption) ?rsn93
    case hvn93 => (intro w' hSw; (try dsimp only at hSw); go_simp; try with_reducible rfl)
    try simp only [Act.put, List.setIfInBounds_toArray, List.set_cons_zero, List.set_cons_succ, List.getElem_toArray, List.getElem_cons_zero, List.getElem_cons_succ]
    refine' wpAnyH_take (i := 4) (oi := _) (v := _) rfl (by kernel_rfl) (by kernel_rfl) (by kernel_rfl) (fun _ _ _ h => h) (Or.inl ⟨by rfl, ?hvn94⟩) (by assumption) ?rsn94
    case hvn94 => (intro w' hSw; (try dsimp only at hSw); go_simp; try with_reducible rfl)
    try simp only [Act.put, List.setIfInBounds_toArray, List.set_cons_zero, List.set_cons_succ, List.getElem_toArray, List.getElem_cons_zero, List.getElem_cons_succ]
    refine wpAnyH_ready (rs := [5]) (by kernel_rfl) (by simp) ?_
    refine AllReadyH.cons (o := _) rfl (fun K hK => ?_) AllReadyH.nil
    rw [if_pos (by kernel_rfl)]
    refine wp_store_mid 55 (.tmp 4) (.tmp 56) rfl w.heap.size 0 (clC zeroC none 0 0).toArray rfl rfl HTD.out size_cl (all_oneCell_toArray (by intro v hv; simp [clC] at hv; rcases hv with rfl | rfl | rfl | rfl | rfl <;> rfl)) ?_
    refine hK.out _ _ ?_ (fun hHeld => ?_)
    · exact ⟨RrAt.others (by omega) _ _ _ (HR5.out.drewN 1), World.there_setCells HTD.out _ _ _, below_setCellsC hB5.drew (Nat.le_refl _) _ _⟩
    clear hK K
    try simp only [Act.put, List.setIfInBounds_toArray, List.set_cons_zero, List.set_cons_succ, List.getElem_toArray, List.getElem_cons_zero, List.getElem_cons_succ]
    refine' wpAnyH_take (i := 6) (oi := _) (v := _) rfl (by kernel_rfl) (by kernel_rfl) (by kernel_rfl) (fun _ _ _ h => h) (Or.inl ⟨by rfl, ?hvn96⟩) (by assumption) ?rsn96
    case hvn96 => (intro w' hSw; (try dsimp only at hSw); go_simp; try with_reducible rfl)
    try simp only [Act.put, List.setIfInBounds_toArray, List.set_cons_zero, List.set_cons_succ, List.getElem_toArray, List.getElem_cons_zero, List.getElem_cons_succ]
    refine wpAnyH_done (by kernel_rfl) ?_ _
    repeat go_step
    refine ret_cl rfl rfl (ClAt.stored HTD.out zeroC none 0 0) rfl ?_
    exact HFIN.out _ _ HD5.out hB5.drew
  have hbq : (at4 == (n : Int)) = true := by simp [hend]
  have HEND := Lib.hid hend
  clear hend
  obtain ⟨⟨r0, r1, r2⟩, f1, f2⟩ := HR4.out
  go_wp2_with fail
  refine (form_ok _ g A n c _ _ HR4.out).mono ?_
  rintro e w0 ⟨rfl, rfl⟩
  go_upto_region 17 with fail
  go_step
  refine wp_load_cl rfl _ rfl gc ⟨vn1, 0, yt, ys, yl⟩ A' n' c' rfl HCL.out ?_
  refine wp_store_cl rfl _ _ rfl w.heap.size ⟨vn1, 0, yt, ys, yl⟩ A' n' c' rfl rfl HG4.out ?_
  repeat go_step
  refine ret_cl rfl rfl (ClAt.stored HG4.out ⟨vn1, 0, yt, ys, yl⟩ A' n' c') rfl ?_
  rw [HP.out]
  have hdec : decC 1 l = (⟨vn1, 0, yt, ys, yl⟩, 0) := by
    have h7 := dec_ok 1 l ⟨by omega, by omega⟩ (by rw [HECH.out]) (by rw [HECH.out]; simp only; rw [HEn1.out]) (by rw [HECH.out]; simp only; rw [HEn1.out]; simp only; rw [HLD.out]; exact HEZ.out) (by rw [HECH.out]; simp only; rw [HEn1.out]; simp only; rw [HLD.out, HN.out]; exact HHAT.out.symm.trans HEND.out)
    rw [HECH.out] at h7; simp only at h7; rw [HEn1.out] at h7; simp only at h7; rw [HLD.out] at h7
    exact h7
  have hO : OwnB (w4.setCells w.heap.size 0 (clC ⟨vn1, 0, yt, ys, yl⟩ A' n' c')) (g + 1) A' n' c' _ := HOWN.out.apartC (fun i hi => heap_setCellsC _ _ _ _ _ (by omega))
  exact ⟨A', n', c', by rw [hdec]; rfl, by rw [hdec]; exact hO.mono (by omega), below_setCellsC hB4 (Nat.le_refl _) _ _⟩
set_option maxHeartbeats 16000000 in
theorem cdec_two (w : World) (A : Option Addr) (n c : Nat) (l : List Int) (hn : l.length = n) (hnc : n ≤ c) (hcm : c ≤ maxLen) (hA : Rd w A l) (hAg : ∀ x, A = some x → l ≠ [] → x.block < w.heap.size) (hB : IsB l) (R : Ending → World → Prop) (hP : R = DecCBack w 2 l) :
    Calls Try.prog 32 #[.int .i64 2, .slice A n c] w R := by
  have HP := Lib.hid hP; clear hP
  have HN := Lib.hid hn; clear hn
  have HB := Lib.hid hB; clear hB
  have HCM := Lib.hid hcm
  unfold maxLen at hcm
  have HAG := Lib.hid hAg; clear hAg
  obtain ⟨W3, hW3⟩ : ∃ W, W = ((w.alloc (.cells #[.int .i64 0, .int .i64 0, .int .i64 0, .slice none 0 0, .int .i64 0] 55)).alloc (.cells #[.slice A n c, .int .i64 0, .int .i64 0] 110)).alloc (.cells #[.int .i64 0, .int .i64 0, .int .i64 0, .slice none 0 0, .int .i64 0] 55) := ⟨_, rfl⟩
  have hb3 : Below w.heap.size w W3 := by rw [hW3]; exact (((Below.refl _ _).alloc (Nat.le_refl _) _).alloc (by simp) _).alloc (by simp; omega) _
  have hz3 : W3.heap.size = w.heap.size + 3 := by rw [hW3]; simp
  have hr3 : RrAt W3 (w.heap.size + 1) A n c 0 0 := by
    rw [hW3]
    exact ⟨⟨by simp [go_sem], by simp [go_sem], by simp [go_sem]⟩, by simp [go_sem], by simp [go_sem]⟩
  have hc3 : ClAt W3 (w.heap.size + 1 + 1) ⟨0, 0, 0, 0, []⟩ none 0 0 := by
    rw [hW3]
    exact ⟨by simp [go_sem], by simp [go_sem], by simp [go_sem], by simp [go_sem], by simp [go_sem]⟩
  have ht3 : W3.there (w.heap.size + 1 + 1) 0 5 := by
    rw [hW3]
    intro j hj
    rcases (by omega : j = 0 ∨ j = 1 ∨ j = 2 ∨ j = 3 ∨ j = 4) with rfl | rfl | rfl | rfl | rfl <;> simp [go_sem]
  have hg3 : W3.there w.heap.size 0 5 := by
    rw [hW3]
    intro j hj
    rcases (by omega : j = 0 ∨ j = 1 ∨ j = 2 ∨ j = 3 ∨ j = 4) with rfl | rfl | rfl | rfl | rfl <;> simp [go_sem]
  have HA := Lib.hid hA; clear hA
  have HR3 := Lib.hid hr3
  have HC3 := Lib.hid hc3
  have HT3 := Lib.hid ht3
  have HG3 := Lib.hid hg3
  have HW := Lib.hid hW3
  clear hr3 hc3 ht3 hg3
  go_enter Try.func32, Try.ntmps32
  go_wp2_with fail
  refine (has_two _).mono ?_
  rintro e w1 ⟨rfl, rfl⟩

  go_wp2_with fail
  rw [← hW3]
  clear hW3 HW
  generalize hgd : w.heap.size + 1 = g at *
  generalize hcd : g + 1 = gc at *
  have hA3 := HA.out.keep hb3
  have HA3 := Lib.hid hA3
  clear hA3
  have hagg : ∀ x, A = some x → l ≠ [] → x.block < g := fun x hx hl0 => by have := HAG.out x hx hl0; omega
  have HAGG := Lib.hid hagg
  clear hagg
  have hfin : ∀ (W : World) (e' : Int), decC 2 l = (zeroC, e') → Below w.heap.size w W → R (.returned (.tuple #[zeroC.val none 0 0, .int .i64 e'])) (W.setCells w.heap.size 0 (clC zeroC none 0 0)) := by
    intro W e' h1 h2
    rw [HP.out]
    exact ⟨none, 0, 0, by rw [h1], by rw [h1]; exact OwnB.nil _ _, below_setCellsC h2 (Nat.le_refl _) _ _⟩
  have HFIN := Lib.hid hfin; clear hfin
  obtain ⟨⟨vn1, pn1, zn1⟩, hUn1⟩ : ∃ U, unvL l 0 = U := ⟨_, rfl⟩
  have HUn1 := Lib.hid hUn1
  by_cases hz : zn1 = 0
  rotate_left
  · have HZn1 := Lib.hid hz
    refine (next_err _ g A n c l _ vn1 pn1 zn1 HR3.out HN.out hnc HCM.out (HA.out.keep hb3) HB.out (by omega) hUn1 hz).mono ?_
    rintro e wEn1 ⟨rfl, ⟨atn1, hrn1⟩, hon1⟩
    have HREn1 := Lib.hid hrn1
    have HCn2 := Lib.hid (HC3.out.only hon1 (by omega))
    have HTn2 := Lib.hid (there_only HT3.out hon1 (by omega))
    have HGn2 := Lib.hid (there_only HG3.out hon1 (by omega))
    have hBn2 : Below w.heap.size w wEn1 := hb3.trans (hon1.below (by omega))
    have hzn2 := hon1.size
    clear hrn1 hon1 hz hUn1
    have HDn1 := Lib.hid (show decC 2 l = (zeroC, zn1) from by
      have e1 : childD 2 l = (0, 0, zn1) := (if_pos (by unfold hasC; omega)).trans (wn_err HUn1.out HZn1.out)
      have h7 := dec_child 2 l ⟨by omega, by omega⟩ (by rw [e1]; exact HZn1.out)
      rw [e1] at h7
      exact h7)
    go_wp2_with fail
    refine (page_no _ 0 (by unfold isP; omega)).mono ?_
    rintro e w0 ⟨rfl, rfl⟩
    go_wp2_with fail
    refine (form_bad _ g A n c _ _ _ HREn1.out HZn1.out).mono ?_
    rintro e w0 ⟨rfl, rfl⟩
    have x1 := HCn2.out.2.1
    have y1 : wEn1.frozen? ⟨gc, 1, none⟩ = false := by simpa using (HTn2.out 1 (by decide)).2
    go_wp2_with fail
    clear x1 y1
    obtain ⟨Wn3, hWn3⟩ : ∃ x, x = wEn1.setCell ⟨gc, 1, none⟩ (.int .i64 0) := ⟨_, rfl⟩
    rw [← hWn3]
    have HRn3 := Lib.hid (show RrAt Wn3 g A n c _ _ by rw [hWn3]; exact HREn1.out.other gc 1 (by omega) _)
    have HCn3 := Lib.hid (show ClAt Wn3 gc ⟨0, 0, 0, 0, []⟩ none 0 0 by rw [hWn3]; exact ClAt.setChild HCn2.out 0)
    have HTn3 := Lib.hid (show Wn3.there gc 0 5 by rw [hWn3]; exact there_setC HTn2.out _ _)
    have HGn3 := Lib.hid (show Wn3.there w.heap.size 0 5 by rw [hWn3]; exact there_setC HGn2.out _ _)
    have hBn3 : Below w.heap.size w Wn3 := by rw [hWn3]; exact hBn2.setCell (by simp only; omega) _
    have hzn3 : Wn3.heap.size = wEn1.heap.size := by rw [hWn3]; simp only [World.setCell, Array.size_modify]
    clear hWn3
    refine (next_bad _ g A n c _ _ HRn3.out HZn1.out).mono ?_
    rintro e w0 ⟨rfl, rfl⟩
    have x0 := HCn3.out.1
    have y0 : Wn3.frozen? ⟨gc, 0, none⟩ = false := by simpa using (HTn3.out 0 (by decide)).2
    go_upto_region 14 with fail
    clear x0 y0
    obtain ⟨Wn4, hWn4⟩ : ∃ x, x = Wn3.setCell ⟨gc, 0, none⟩ (.int .i64 0) := ⟨_, rfl⟩
    rw [← hWn4]
    have HRn4 := Lib.hid (show RrAt Wn4 g A n c _ _ by rw [hWn4]; exact HRn3.out.other gc 0 (by omega) _)
    have HCn4 := Lib.hid (show ClAt Wn4 gc ⟨0, 0, 0, 0, []⟩ none 0 0 by rw [hWn4]; exact ClAt.setKey HCn3.out 0)
    have HTn4 := Lib.hid (show Wn4.there gc 0 5 by rw [hWn4]; exact there_setC HTn3.out _ _)
    have HGn4 := Lib.hid (show Wn4.there w.heap.size 0 5 by rw [hWn4]; exact there_setC HGn3.out _ _)
    have hBn4 : Below w.heap.size w Wn4 := by rw [hWn4]; exact hBn3.setCell (by simp only; omega) _
    have hzn4 : Wn4.heap.size = Wn3.heap.size := by rw [hWn4]; simp only [World.setCell, Array.size_modify]
    clear hWn4
    obtain ⟨⟨r0, r1, r2⟩, f1, f2⟩ := HRn4.out
    go_wp2_with fail
    refine (form_bad _ g A n c _ _ _ HRn4.out HZn1.out).mono ?_
    rintro e w0 ⟨rfl, rfl⟩
    have z1 : (zn1 != 0) = true := by simp [HZn1.out]
    clear r0 r1 r2 f1 f2
    obtain ⟨atx, hatx⟩ : ∃ x, RrAt Wn4 g A n c x zn1 := ⟨_, HRn4.out⟩
    have HRX := Lib.hid hatx
    clear hatx
    obtain ⟨⟨r0, r1, r2⟩, f1, f2⟩ := HRX.out
    have hE2 : ∀ X, HeldD g w.heap.size A n c atx zn1 w X → X.cell? ⟨g, 2, none⟩ = some (.int .i64 zn1) := fun X h => h.1.1.2.2
    go_upto_region 16 with fail
    clear r0 r1 r2 f1 f2
    have HTD := Lib.hid (there_keepC HGn4.out (Below.refl Wn4.heap.size Wn4).drew (by omega))
    refine wp_region_held_drew (S := (fun X => HeldD g w.heap.size A n c atx zn1 w X)) (by kernel_rfl) ?_ (fun hHeld => ?_)
    · exact ⟨HRX.out.drewN 1, HTD.out, hBn4.drew⟩
    refine' wpAnyH_take (i := 0) (oi := _) (v := _) rfl (by kernel_rfl) (by kernel_rfl) (by kernel_rfl) (fun _ _ _ h => h) (Or.inl ⟨by rfl, ?hvn50⟩) (by assumption) ?rsn50
    case hvn50 => (intro w' hSw; (try dsimp only at hSw); go_simp; try with_reducible rfl)
    try simp only [Act.put, List.setIfInBounds_toArray, List.set_cons_zero, List.set_cons_succ, List.getElem_toArray, List.getElem_cons_zero, List.getElem_cons_succ]
    refine' wpAnyH_take (i := 1) (oi := _) (v := _) rfl (by kernel_rfl) (by kernel_rfl) (by kernel_rfl) (fun _ _ _ h => h) (Or.inl ⟨by rfl, ?hvn51⟩) (by assumption) ?rsn51
    case hvn51 => (intro w' hSw; (try dsimp only at hSw); go_simp; try with_reducible rfl)
    try simp only [Act.put, List.setIfInBounds_toArray, List.set_cons_zero, List.set_cons_succ, List.getElem_toArray, List.getElem_cons_zero, List.getElem_cons_succ]
    refine' wpAnyH_take (i := 2) (oi := _) (v := _) rfl (by kernel_rfl) (by kernel_rfl) (by kernel_rfl) (fun _ _ _ h => h) (Or.inl ⟨by rfl, ?hvn52⟩) (by assumption) ?rsn52
    case hvn52 => (intro w' hSw; (try dsimp only at hSw); go_simp; try with_reducible rfl)
    try simp only [Act.put, List.setIfInBounds_toArray, List.set_cons_zero, List.set_cons_succ, List.getElem_toArray, List.getElem_cons_zero, List.getElem_cons_succ]
    refine' wpAnyH_take (i := 3) (oi := _) (v := _) rfl (by kernel_rfl) (by kernel_rfl) (by kernel_rfl) (fun _ _ _ h => h) (Or.inl ⟨by rfl, ?hvn53⟩) (by assumption) ?rsn53
    case hvn53 => (intro w' hSw; (try dsimp only at hSw); go_simp; try with_reducible rfl)
    try simp only [Act.put, List.setIfInBounds_toArray, List.set_cons_zero, List.set_cons_succ, List.getElem_toArray, List.getElem_cons_zero, List.getElem_cons_succ]
    refine' wpAnyH_take (i := 4) (oi := _) (v := _) rfl (by kernel_rfl) (by kernel_rfl) (by kernel_rfl) (fun _ _ _ h => h) (Or.inl ⟨by rfl, ?hvn54⟩) (by assumption) ?rsn54
    case hvn54 => (intro w' hSw; (try dsimp only at hSw); go_simp; try with_reducible rfl)
    try simp only [Act.put, List.setIfInBounds_toArray, List.set_cons_zero, List.set_cons_succ, List.getElem_toArray, List.getElem_cons_zero, List.getElem_cons_succ]
    refine wpAnyH_ready (rs := [5]) (by kernel_rfl) (by simp) ?_
    refine AllReadyH.cons (o := _) rfl (fun K hK => ?_) AllReadyH.nil
    rw [if_pos (by kernel_rfl)]
    refine wp_store_mid 55 (.tmp 4) (.tmp 56) rfl w.heap.size 0 (clC zeroC none 0 0).toArray rfl rfl HTD.out size_cl (all_oneCell_toArray (by intro v hv; simp [clC] at hv; rcases hv with rfl | rfl | rfl | rfl | rfl <;> rfl)) ?_
    refine hK.out _ _ ?_ (fun hHeld => ?_)
    · exact ⟨RrAt.others (by omega) _ _ _ (HRX.out.drewN 1), World.there_setCells HTD.out _ _ _, below_setCellsC hBn4.drew (Nat.le_refl _) _ _⟩
    clear hK K
    try simp only [Act.put, List.setIfInBounds_toArray, List.set_cons_zero, List.set_cons_succ, List.getElem_toArray, List.getElem_cons_zero, List.getElem_cons_succ]
    refine' wpAnyH_take (i := 6) (oi := _) (v := _) rfl (by kernel_rfl) (by kernel_rfl) (by kernel_rfl) (fun _ _ _ h => h) (Or.inl ⟨by rfl, ?hvn56⟩) (by assumption) ?rsn56
    case hvn56 => (intro w' hSw; (try dsimp only at hSw); go_simp; try with_reducible rfl)
    try simp only [Act.put, List.setIfInBounds_toArray, List.set_cons_zero, List.set_cons_succ, List.getElem_toArray, List.getElem_cons_zero, List.getElem_cons_succ]
    refine wpAnyH_done (by kernel_rfl) ?_ _
    repeat go_step
    refine ret_cl rfl rfl (ClAt.stored HTD.out zeroC none 0 0) rfl ?_
    exact HFIN.out _ _ HDn1.out hBn4.drew
  subst hz
  obtain ⟨qn1, hqn1, hqan1, hqnn1, hqvn1, hv1n1, hv2n1⟩ := unv_at HB.out 0 (by first | rw [hUn1] | (simp only [Int.natCast_zero]; rw [hUn1]))
  first | rw [hUn1] at hqn1 hqvn1 hv1n1 hv2n1 | (simp only [Int.natCast_zero] at hqn1 hqvn1 hv1n1 hv2n1; rw [hUn1] at hqn1 hqvn1 hv1n1 hv2n1)
  simp only at hqn1 hqvn1 hv1n1 hv2n1
  subst hqn1
  rw [HN.out] at hqnn1
  clear hqvn1
  refine (next_yes _ g A n c l _ vn1 qn1 HR3.out HN.out hnc HCM.out (HA.out.keep hb3) HB.out (by omega) hUn1).mono ?_
  rintro e wGn1 ⟨rfl, hrn1, hon1⟩
  have HRGn1 := Lib.hid hrn1
  have HCn6 := Lib.hid (HC3.out.only hon1 (by omega))
  have HTn6 := Lib.hid (there_only HT3.out hon1 (by omega))
  have HGn6 := Lib.hid (there_only HG3.out hon1 (by omega))
  have hBn6 : Below w.heap.size w wGn1 := hb3.trans (hon1.below (by omega))
  have hzn6 := hon1.size
  clear hrn1 hon1 hUn1
  go_wp2_with fail
  by_cases hp : isP vn1
  rotate_left
  · have HPNn1 := Lib.hid hp
    refine (page_no _ vn1 hp).mono ?_
    rintro e w0 ⟨rfl, rfl⟩
    go_wp2_with fail
    refine (form_no2 _ g A n c _ HRGn1.out).mono ?_
    rintro e wFn1 ⟨rfl, hr8, ho8⟩
    have HRFn1 := Lib.hid hr8
    have HZ8n1 := Lib.hid (show (8 : Int) ≠ 0 by decide)
    have HCn7 := Lib.hid (HCn6.out.only ho8 (by omega))
    have HTn7 := Lib.hid (there_only HTn6.out ho8 (by omega))
    have HGn7 := Lib.hid (there_only HGn6.out ho8 (by omega))
    have hBn7 : Below w.heap.size w wFn1 := hBn6.trans (ho8.below (by omega))
    have hzn7 := ho8.size
    clear hr8 ho8 hp
    have HDn1 := Lib.hid (show decC 2 l = (zeroC, 8) from by
      have e1 : childD 2 l = (0, 0, 8) := (if_pos (by unfold hasC; omega)).trans (wn_form HUn1.out (by have := HPNn1.out; unfold isP at this; omega))
      have h7 := dec_child 2 l ⟨by omega, by omega⟩ (by rw [e1]; exact HZ8n1.out)
      rw [e1] at h7
      exact h7)
    have x1 := HCn7.out.2.1
    have y1 : wFn1.frozen? ⟨gc, 1, none⟩ = false := by simpa using (HTn7.out 1 (by decide)).2
    go_wp2_with fail
    clear x1 y1
    obtain ⟨Wn8, hWn8⟩ : ∃ x, x = wFn1.setCell ⟨gc, 1, none⟩ (.int .i64 vn1) := ⟨_, rfl⟩
    rw [← hWn8]
    have HRn8 := Lib.hid (show RrAt Wn8 g A n c _ _ by rw [hWn8]; exact HRFn1.out.other gc 1 (by omega) _)
    have HCn8 := Lib.hid (show ClAt Wn8 gc ⟨0, vn1, 0, 0, []⟩ none 0 0 by rw [hWn8]; exact ClAt.setChild HCn7.out vn1)
    have HTn8 := Lib.hid (show Wn8.there gc 0 5 by rw [hWn8]; exact there_setC HTn7.out _ _)
    have HGn8 := Lib.hid (show Wn8.there w.heap.size 0 5 by rw [hWn8]; exact there_setC HGn7.out _ _)
    have hBn8 : Below w.heap.size w Wn8 := by rw [hWn8]; exact hBn7.setCell (by simp only; omega) _
    have hzn8 : Wn8.heap.size = wFn1.heap.size := by rw [hWn8]; simp only [World.setCell, Array.size_modify]
    clear hWn8
    refine (next_bad _ g A n c _ _ HRn8.out HZ8n1.out).mono ?_
    rintro e w0 ⟨rfl, rfl⟩
    have x0 := HCn8.out.1
    have y0 : Wn8.frozen? ⟨gc, 0, none⟩ = false := by simpa using (HTn8.out 0 (by decide)).2
    go_upto_region 14 with fail
    clear x0 y0
    obtain ⟨Wn9, hWn9⟩ : ∃ x, x = Wn8.setCell ⟨gc, 0, none⟩ (.int .i64 0) := ⟨_, rfl⟩
    rw [← hWn9]
    have HRn9 := Lib.hid (show RrAt Wn9 g A n c _ _ by rw [hWn9]; exact HRn8.out.other gc 0 (by omega) _)
    have HCn9 := Lib.hid (show ClAt Wn9 gc ⟨0, vn1, 0, 0, []⟩ none 0 0 by rw [hWn9]; exact ClAt.setKey HCn8.out 0)
    have HTn9 := Lib.hid (show Wn9.there gc 0 5 by rw [hWn9]; exact there_setC HTn8.out _ _)
    have HGn9 := Lib.hid (show Wn9.there w.heap.size 0 5 by rw [hWn9]; exact there_setC HGn8.out _ _)
    have hBn9 : Below w.heap.size w Wn9 := by rw [hWn9]; exact hBn8.setCell (by simp only; omega) _
    have hzn9 : Wn9.heap.size = Wn8.heap.size := by rw [hWn9]; simp only [World.setCell, Array.size_modify]
    clear hWn9
    obtain ⟨⟨r0, r1, r2⟩, f1, f2⟩ := HRn9.out
    go_wp2_with fail
    refine (form_bad _ g A n c _ _ _ HRn9.out HZ8n1.out).mono ?_
    rintro e w0 ⟨rfl, rfl⟩
    have z1 : (8 != 0) = true := by simp [HZ8n1.out]
    clear r0 r1 r2 f1 f2
    obtain ⟨atx, hatx⟩ : ∃ x, RrAt Wn9 g A n c x 8 := ⟨_, HRn9.out⟩
    have HRX := Lib.hid hatx
    clear hatx
    obtain ⟨⟨r0, r1, r2⟩, f1, f2⟩ := HRX.out
    have hE2 : ∀ X, HeldD g w.heap.size A n c atx 8 w X → X.cell? ⟨g, 2, none⟩ = some (.int .i64 8) := fun X h => h.1.1.2.2
    go_upto_region 16 with fail
    clear r0 r1 r2 f1 f2
    have HTD := Lib.hid (there_keepC HGn9.out (Below.refl Wn9.heap.size Wn9).drew (by omega))
    refine wp_region_held_drew (S := (fun X => HeldD g w.heap.size A n c atx 8 w X)) (by kernel_rfl) ?_ (fun hHeld => ?_)
    · exact ⟨HRX.out.drewN 1, HTD.out, hBn9.drew⟩
    refine' wpAnyH_take (i := 0) (oi := _) (v := _) rfl (by kernel_rfl) (by kernel_rfl) (by kernel_rfl) (fun _ _ _ h => h) (Or.inl ⟨by rfl, ?hvn100⟩) (by assumption) ?rsn100
    case hvn100 => (intro w' hSw; (try dsimp only at hSw); go_simp; try with_reducible rfl)
    try simp only [Act.put, List.setIfInBounds_toArray, List.set_cons_zero, List.set_cons_succ, List.getElem_toArray, List.getElem_cons_zero, List.getElem_cons_succ]
    refine' wpAnyH_take (i := 1) (oi := _) (v := _) rfl (by kernel_rfl) (by kernel_rfl) (by kernel_rfl) (fun _ _ _ h => h) (Or.inl ⟨by rfl, ?hvn101⟩) (by assumption) ?rsn101
    case hvn101 => (intro w' hSw; (try dsimp only at hSw); go_simp; try with_reducible rfl)
    try simp only [Act.put, List.setIfInBounds_toArray, List.set_cons_zero, List.set_cons_succ, List.getElem_toArray, List.getElem_cons_zero, List.getElem_cons_succ]
    refine' wpAnyH_take (i := 2) (oi := _) (v := _) rfl (by kernel_rfl) (by kernel_rfl) (by kernel_rfl) (fun _ _ _ h => h) (Or.inl ⟨by rfl, ?hvn102⟩) (by assumption) ?rsn102
    case hvn102 => (intro w' hSw; (try dsimp only at hSw); go_simp; try with_reducible rfl)
    try simp only [Act.put, List.setIfInBounds_toArray, List.set_cons_zero, List.set_cons_succ, List.getElem_toArray, List.getElem_cons_zero, List.getElem_cons_succ]
    refine' wpAnyH_take (i := 3) (oi := _) (v := _) rfl (by kernel_rfl) (by kernel_rfl) (by kernel_rfl) (fun _ _ _ h => h) (Or.inl ⟨by rfl, ?hvn103⟩) (by assumption) ?rsn103
    case hvn103 => (intro w' hSw; (try dsimp only at hSw); go_simp; try with_reducible rfl)
    try simp only [Act.put, List.setIfInBounds_toArray, List.set_cons_zero, List.set_cons_succ, List.getElem_toArray, List.getElem_cons_zero, List.getElem_cons_succ]
    refine' wpAnyH_take (i := 4) (oi := _) (v := _) rfl (by kernel_rfl) (by kernel_rfl) (by kernel_rfl) (fun _ _ _ h => h) (Or.inl ⟨by rfl, ?hvn104⟩) (by assumption) ?rsn104
    case hvn104 => (intro w' hSw; (try dsimp only at hSw); go_simp; try with_reducible rfl)
    try simp only [Act.put, List.setIfInBounds_toArray, List.set_cons_zero, List.set_cons_succ, List.getElem_toArray, List.getElem_cons_zero, List.getElem_cons_succ]
    refine wpAnyH_ready (rs := [5]) (by kernel_rfl) (by simp) ?_
    refine AllReadyH.cons (o := _) rfl (fun K hK => ?_) AllReadyH.nil
    rw [if_pos (by kernel_rfl)]
    refine wp_store_mid 55 (.tmp 4) (.tmp 56) rfl w.heap.size 0 (clC zeroC none 0 0).toArray rfl rfl HTD.out size_cl (all_oneCell_toArray (by intro v hv; simp [clC] at hv; rcases hv with rfl | rfl | rfl | rfl | rfl <;> rfl)) ?_
    refine hK.out _ _ ?_ (fun hHeld => ?_)
    · exact ⟨RrAt.others (by omega) _ _ _ (HRX.out.drewN 1), World.there_setCells HTD.out _ _ _, below_setCellsC hBn9.drew (Nat.le_refl _) _ _⟩
    clear hK K
    try simp only [Act.put, List.setIfInBounds_toArray, List.set_cons_zero, List.set_cons_succ, List.getElem_toArray, List.getElem_cons_zero, List.getElem_cons_succ]
    refine' wpAnyH_take (i := 6) (oi := _) (v := _) rfl (by kernel_rfl) (by kernel_rfl) (by kernel_rfl) (fun _ _ _ h => h) (Or.inl ⟨by rfl, ?hvn106⟩) (by assumption) ?rsn106
    case hvn106 => (intro w' hSw; (try dsimp only at hSw); go_simp; try with_reducible rfl)
    try simp only [Act.put, List.setIfInBounds_toArray, List.set_cons_zero, List.set_cons_succ, List.getElem_toArray, List.getElem_cons_zero, List.getElem_cons_succ]
    refine wpAnyH_done (by kernel_rfl) ?_ _
    repeat go_step
    refine ret_cl rfl rfl (ClAt.stored HTD.out zeroC none 0 0) rfl ?_
    exact HFIN.out _ _ HDn1.out hBn9.drew
  have HPYn1 := Lib.hid hp
  refine (page_yes _ vn1 hp).mono ?_
  rintro e w0 ⟨rfl, rfl⟩
  clear hp
  go_wp2_with fail
  refine (form_ok _ g A n c _ _ HRGn1.out).mono ?_
  rintro e w0 ⟨rfl, rfl⟩
  have HEn1 := Lib.hid (show childD 2 l = (vn1, (qn1 : Int), 0) from (if_pos (by unfold hasC; omega)).trans (wn_ok HUn1.out (by have := HPYn1.out; unfold isP at this; omega)))
  have x1 := HCn6.out.2.1
  have y1 : wGn1.frozen? ⟨gc, 1, none⟩ = false := by simpa using (HTn6.out 1 (by decide)).2
  go_wp2_with fail
  clear x1 y1
  obtain ⟨Wn11, hWn11⟩ : ∃ x, x = wGn1.setCell ⟨gc, 1, none⟩ (.int .i64 vn1) := ⟨_, rfl⟩
  rw [← hWn11]
  have HRn11 := Lib.hid (show RrAt Wn11 g A n c _ _ by rw [hWn11]; exact HRGn1.out.other gc 1 (by omega) _)
  have HCn11 := Lib.hid (show ClAt Wn11 gc ⟨0, vn1, 0, 0, []⟩ none 0 0 by rw [hWn11]; exact ClAt.setChild HCn6.out vn1)
  have HTn11 := Lib.hid (show Wn11.there gc 0 5 by rw [hWn11]; exact there_setC HTn6.out _ _)
  have HGn11 := Lib.hid (show Wn11.there w.heap.size 0 5 by rw [hWn11]; exact there_setC HGn6.out _ _)
  have hBn11 : Below w.heap.size w Wn11 := by rw [hWn11]; exact hBn6.setCell (by simp only; omega) _
  have hzn11 : Wn11.heap.size = wGn1.heap.size := by rw [hWn11]; simp only [World.setCell, Array.size_modify]
  clear hWn11
  obtain ⟨⟨vn12, pn12, zn12⟩, hUn12⟩ : ∃ U, unvL l (qn1 : Int) = U := ⟨_, rfl⟩
  have HUn12 := Lib.hid hUn12
  by_cases hz : zn12 = 0
  rotate_left
  · have HZn12 := Lib.hid hz
    refine (next_err _ g A n c l _ vn12 pn12 zn12 HRn11.out HN.out hnc HCM.out (HA.out.keep hBn11) HB.out (by omega) hUn12 hz).mono ?_
    rintro e wEn12 ⟨rfl, ⟨atn12, hrn12⟩, hon12⟩
    have HREn12 := Lib.hid hrn12
    have HCn13 := Lib.hid (HCn11.out.only hon12 (by omega))
    have HTn13 := Lib.hid (there_only HTn11.out hon12 (by omega))
    have HGn13 := Lib.hid (there_only HGn11.out hon12 (by omega))
    have hBn13 : Below w.heap.size w wEn12 := hBn11.trans (hon12.below (by omega))
    have hzn13 := hon12.size
    clear hrn12 hon12 hz hUn12
    have HDn12 := Lib.hid (show decC 2 l = (zeroC, zn12) from by
      have e1 : keyD 2 l (qn1 : Int) = (vn12, pn12, zn12) := (if_pos (by unfold hasK; omega)).trans HUn12.out
      have h7 := dec_key 2 l ⟨by omega, by omega⟩ (by rw [HEn1.out]) (by rw [HEn1.out]; simp only; rw [e1]; exact HZn12.out)
      rw [HEn1.out] at h7; simp only at h7; rw [e1] at h7
      exact h7)
    have x0 := HCn13.out.1
    have y0 : wEn12.frozen? ⟨gc, 0, none⟩ = false := by simpa using (HTn13.out 0 (by decide)).2
    go_upto_region 14 with fail
    clear x0 y0
    obtain ⟨Wn14, hWn14⟩ : ∃ x, x = wEn12.setCell ⟨gc, 0, none⟩ (.int .i64 0) := ⟨_, rfl⟩
    rw [← hWn14]
    have HRn14 := Lib.hid (show RrAt Wn14 g A n c _ _ by rw [hWn14]; exact HREn12.out.other gc 0 (by omega) _)
    have HCn14 := Lib.hid (show ClAt Wn14 gc ⟨0, vn1, 0, 0, []⟩ none 0 0 by rw [hWn14]; exact ClAt.setKey HCn13.out 0)
    have HTn14 := Lib.hid (show Wn14.there gc 0 5 by rw [hWn14]; exact there_setC HTn13.out _ _)
    have HGn14 := Lib.hid (show Wn14.there w.heap.size 0 5 by rw [hWn14]; exact there_setC HGn13.out _ _)
    have hBn14 : Below w.heap.size w Wn14 := by rw [hWn14]; exact hBn13.setCell (by simp only; omega) _
    have hzn14 : Wn14.heap.size = wEn12.heap.size := by rw [hWn14]; simp only [World.setCell, Array.size_modify]
    clear hWn14
    obtain ⟨⟨r0, r1, r2⟩, f1, f2⟩ := HRn14.out
    go_wp2_with fail
    refine (form_bad _ g A n c _ _ _ HRn14.out HZn12.out).mono ?_
    rintro e w0 ⟨rfl, rfl⟩
    have z1 : (zn12 != 0) = true := by simp [HZn12.out]
    clear r0 r1 r2 f1 f2
    obtain ⟨atx, hatx⟩ : ∃ x, RrAt Wn14 g A n c x zn12 := ⟨_, HRn14.out⟩
    have HRX := Lib.hid hatx
    clear hatx
    obtain ⟨⟨r0, r1, r2⟩, f1, f2⟩ := HRX.out
    have hE2 : ∀ X, HeldD g w.heap.size A n c atx zn12 w X → X.cell? ⟨g, 2, none⟩ = some (.int .i64 zn12) := fun X h => h.1.1.2.2
    go_upto_region 16 with fail
    clear r0 r1 r2 f1 f2
    have HTD := Lib.hid (there_keepC HGn14.out (Below.refl Wn14.heap.size Wn14).drew (by omega))
    refine wp_region_held_drew (S := (fun X => HeldD g w.heap.size A n c atx zn12 w X)) (by kernel_rfl) ?_ (fun hHeld => ?_)
    · exact ⟨HRX.out.drewN 1, HTD.out, hBn14.drew⟩
    refine' wpAnyH_take (i := 0) (oi := _) (v := _) rfl (by kernel_rfl) (by kernel_rfl) (by kernel_rfl) (fun _ _ _ h => h) (Or.inl ⟨by rfl, ?hvn150⟩) (by assumption) ?rsn150
    case hvn150 => (intro w' hSw; (try dsimp only at hSw); go_simp; try with_reducible rfl)
    try simp only [Act.put, List.setIfInBounds_toArray, List.set_cons_zero, List.set_cons_succ, List.getElem_toArray, List.getElem_cons_zero, List.getElem_cons_succ]
    refine' wpAnyH_take (i := 1) (oi := _) (v := _) rfl (by kernel_rfl) (by kernel_rfl) (by kernel_rfl) (fun _ _ _ h => h) (Or.inl ⟨by rfl, ?hvn151⟩) (by assumption) ?rsn151
    case hvn151 => (intro w' hSw; (try dsimp only at hSw); go_simp; try with_reducible rfl)
    try simp only [Act.put, List.setIfInBounds_toArray, List.set_cons_zero, List.set_cons_succ, List.getElem_toArray, List.getElem_cons_zero, List.getElem_cons_succ]
    refine' wpAnyH_take (i := 2) (oi := _) (v := _) rfl (by kernel_rfl) (by kernel_rfl) (by kernel_rfl) (fun _ _ _ h => h) (Or.inl ⟨by rfl, ?hvn152⟩) (by assumption) ?rsn152
    case hvn152 => (intro w' hSw; (try dsimp only at hSw); go_simp; try with_reducible rfl)
    try simp only [Act.put, List.setIfInBounds_toArray, List.set_cons_zero, List.set_cons_succ, List.getElem_toArray, List.getElem_cons_zero, List.getElem_cons_succ]
    refine' wpAnyH_take (i := 3) (oi := _) (v := _) rfl (by kernel_rfl) (by kernel_rfl) (by kernel_rfl) (fun _ _ _ h => h) (Or.inl ⟨by rfl, ?hvn153⟩) (by assumption) ?rsn153
    case hvn153 => (intro w' hSw; (try dsimp only at hSw); go_simp; try with_reducible rfl)
    try simp only [Act.put, List.setIfInBounds_toArray, List.set_cons_zero, List.set_cons_succ, List.getElem_toArray, List.getElem_cons_zero, List.getElem_cons_succ]
    refine' wpAnyH_take (i := 4) (oi := _) (v := _) rfl (by kernel_rfl) (by kernel_rfl) (by kernel_rfl) (fun _ _ _ h => h) (Or.inl ⟨by rfl, ?hvn154⟩) (by assumption) ?rsn154
    case hvn154 => (intro w' hSw; (try dsimp only at hSw); go_simp; try with_reducible rfl)
    try simp only [Act.put, List.setIfInBounds_toArray, List.set_cons_zero, List.set_cons_succ, List.getElem_toArray, List.getElem_cons_zero, List.getElem_cons_succ]
    refine wpAnyH_ready (rs := [5]) (by kernel_rfl) (by simp) ?_
    refine AllReadyH.cons (o := _) rfl (fun K hK => ?_) AllReadyH.nil
    rw [if_pos (by kernel_rfl)]
    refine wp_store_mid 55 (.tmp 4) (.tmp 56) rfl w.heap.size 0 (clC zeroC none 0 0).toArray rfl rfl HTD.out size_cl (all_oneCell_toArray (by intro v hv; simp [clC] at hv; rcases hv with rfl | rfl | rfl | rfl | rfl <;> rfl)) ?_
    refine hK.out _ _ ?_ (fun hHeld => ?_)
    · exact ⟨RrAt.others (by omega) _ _ _ (HRX.out.drewN 1), World.there_setCells HTD.out _ _ _, below_setCellsC hBn14.drew (Nat.le_refl _) _ _⟩
    clear hK K
    try simp only [Act.put, List.setIfInBounds_toArray, List.set_cons_zero, List.set_cons_succ, List.getElem_toArray, List.getElem_cons_zero, List.getElem_cons_succ]
    refine' wpAnyH_take (i := 6) (oi := _) (v := _) rfl (by kernel_rfl) (by kernel_rfl) (by kernel_rfl) (fun _ _ _ h => h) (Or.inl ⟨by rfl, ?hvn156⟩) (by assumption) ?rsn156
    case hvn156 => (intro w' hSw; (try dsimp only at hSw); go_simp; try with_reducible rfl)
    try simp only [Act.put, List.setIfInBounds_toArray, List.set_cons_zero, List.set_cons_succ, List.getElem_toArray, List.getElem_cons_zero, List.getElem_cons_succ]
    refine wpAnyH_done (by kernel_rfl) ?_ _
    repeat go_step
    refine ret_cl rfl rfl (ClAt.stored HTD.out zeroC none 0 0) rfl ?_
    exact HFIN.out _ _ HDn12.out hBn14.drew
  subst hz
  obtain ⟨qn12, hqn12, hqan12, hqnn12, hqvn12, hv1n12, hv2n12⟩ := unv_at HB.out qn1 (by first | rw [hUn12] | (simp only [Int.natCast_zero]; rw [hUn12]))
  first | rw [hUn12] at hqn12 hqvn12 hv1n12 hv2n12 | (simp only [Int.natCast_zero] at hqn12 hqvn12 hv1n12 hv2n12; rw [hUn12] at hqn12 hqvn12 hv1n12 hv2n12)
  simp only at hqn12 hqvn12 hv1n12 hv2n12
  subst hqn12
  rw [HN.out] at hqnn12
  clear hqvn12
  refine (next_yes _ g A n c l _ vn12 qn12 HRn11.out HN.out hnc HCM.out (HA.out.keep hBn11) HB.out (by omega) hUn12).mono ?_
  rintro e wGn12 ⟨rfl, hrn12, hon12⟩
  have HRGn12 := Lib.hid hrn12
  have HCn16 := Lib.hid (HCn11.out.only hon12 (by omega))
  have HTn16 := Lib.hid (there_only HTn11.out hon12 (by omega))
  have HGn16 := Lib.hid (there_only HGn11.out hon12 (by omega))
  have hBn16 : Below w.heap.size w wGn12 := hBn11.trans (hon12.below (by omega))
  have hzn16 := hon12.size
  clear hrn12 hon12 hUn12
  have HEn12 := Lib.hid (show keyD 2 l (qn1 : Int) = (vn12, (qn12 : Int), 0) from (if_pos (by unfold hasK; omega)).trans HUn12.out)
  have x0 := HCn16.out.1
  have y0 : wGn12.frozen? ⟨gc, 0, none⟩ = false := by simpa using (HTn16.out 0 (by decide)).2
  go_upto_region 14 with fail
  clear x0 y0
  obtain ⟨Wn17, hWn17⟩ : ∃ x, x = wGn12.setCell ⟨gc, 0, none⟩ (.int .i64 vn12) := ⟨_, rfl⟩
  rw [← hWn17]
  have HRn17 := Lib.hid (show RrAt Wn17 g A n c _ _ by rw [hWn17]; exact HRGn12.out.other gc 0 (by omega) _)
  have HCn17 := Lib.hid (show ClAt Wn17 gc ⟨vn12, vn1, 0, 0, []⟩ none 0 0 by rw [hWn17]; exact ClAt.setKey HCn16.out vn12)
  have HTn17 := Lib.hid (show Wn17.there gc 0 5 by rw [hWn17]; exact there_setC HTn16.out _ _)
  have HGn17 := Lib.hid (show Wn17.there w.heap.size 0 5 by rw [hWn17]; exact there_setC HGn16.out _ _)
  have hBn17 : Below w.heap.size w Wn17 := by rw [hWn17]; exact hBn16.setCell (by simp only; omega) _
  have hzn17 : Wn17.heap.size = wGn12.heap.size := by rw [hWn17]; simp only [World.setCell, Array.size_modify]
  clear hWn17
  obtain ⟨at4, hat4⟩ : ∃ x : Int, x = (qn12 : Int) := ⟨_, rfl⟩
  have HHAT := Lib.hid hat4
  have HLD := Lib.hid (show loadD 2 l (qn12 : Int) = ⟨0, 0, [], (qn12 : Int), 0⟩ from if_pos (by omega))
  have HR4 := Lib.hid (show RrAt Wn17 g A n c at4 0 by rw [hat4]; exact HRn17.out)
  clear hat4
  obtain ⟨A', n', c', hA', hn', hc'⟩ : ∃ (A' : Option Addr) (n' c' : Nat), A' = none ∧ n' = 0 ∧ c' = 0 := ⟨_, _, _, rfl, rfl, rfl⟩
  have HCL := Lib.hid (show ClAt Wn17 gc ⟨vn12, vn1, 0, 0, []⟩ A' n' c' by rw [hA', hn', hc']; exact HCn17.out)
  have HOWN := Lib.hid (show OwnB Wn17 (g + 1) A' n' c' [] by rw [hA', hn', hc']; exact OwnB.nil _ _)
  clear hA' hn' hc'
  by_cases hend : at4 = (n : Int)
  rotate_left
  · have hbq : (at4 == (n : Int)) = false := by simp [hend]
    have HEND := Lib.hid hend
    clear hend
    obtain ⟨⟨r0, r1, r2⟩, f1, f2⟩ := HR4.out
    go_wp2_with fail
    refine (form_no2 _ g A n c _ HR4.out).mono ?_
    rintro e w5 ⟨rfl, hr5, ho5⟩
    have HR5 := Lib.hid hr5
    have hB5 : Below w.heap.size w w5 := hBn17.trans (ho5.below (by omega))
    have HG5 := Lib.hid (there_keepC HGn17.out (ho5.below (Nat.le_refl g)) (by omega))
    have hz5 := ho5.size
    have z1 : ((8 : Int) != 0) = true := by decide
    have HD5 := Lib.hid (show decC 2 l = (zeroC, 8) from
      dec_long 2 l ⟨by omega, by omega⟩ (by rw [HEn1.out]) (by rw [HEn1.out]; simp only; rw [HEn12.out]) (by rw [HEn1.out]; simp only; rw [HEn12.out]; simp only; rw [HLD.out]) (by rw [HEn1.out]; simp only; rw [HEn12.out]; simp only; rw [HLD.out, HN.out]; exact fun h => HEND.out (HHAT.out.trans h)))
    clear hr5 ho5 r0 r1 r2 f1 f2
    obtain ⟨⟨r0, r1, r2⟩, f1, f2⟩ := HR5.out
    have hE2 : ∀ X, HeldD g w.heap.size A n c at4 8 w X → X.cell? ⟨g, 2, none⟩ = some (.int .i64 8) := fun X h => h.1.1.2.2
    go_upto_region 16 with fail
    clear r0 r1 r2 f1 f2
    have HTD := Lib.hid (there_keepC HG5.out (Below.refl w5.heap.size w5).drew (by omega))
    refine wp_region_held_drew (S := (fun X => HeldD g w.heap.size A n c at4 8 w X)) (by kernel_rfl) ?_ (fun hHeld => ?_)
    · exact ⟨HR5.out.drewN 1, HTD.out, hB5.drew⟩
    refine' wpAnyH_take (i := 0) (oi := _) (v := _) rfl (by kernel_rfl) (by kernel_rfl) (by kernel_rfl) (fun _ _ _ h => h) (Or.inl ⟨by rfl, ?hvn180⟩) (by assumption) ?rsn180
    case hvn180 => (intro w' hSw; (try dsimp only at hSw); go_simp; try with_reducible rfl)
    try simp only [Act.put, List.setIfInBounds_toArray, List.set_cons_zero, List.set_cons_succ, List.getElem_toArray, List.getElem_cons_zero, List.getElem_cons_succ]
    refine' wpAnyH_take (i := 1) (oi := _) (v := _) rfl (by kernel_rfl) (by kernel_rfl) (by kernel_rfl) (fun _ _ _ h => h) (Or.inl ⟨by rfl, ?hvn181⟩) (by assumption) ?rsn181
    case hvn181 => (intro w' hSw; (try dsimp only at hSw); go_simp; try with_reducible rfl)
    try simp only [Act.put, List.setIfInBounds_toArray, List.set_cons_zero, List.set_cons_succ, List.getElem_toArray, List.getElem_cons_zero, List.getElem_cons_succ]
    refine' wpAnyH_take (i := 2) (oi := _) (v := _) rfl (by kernel_rfl) (by kernel_rfl) (by kernel_rfl) (fun _ _ _ h => h) (Or.inl ⟨by rfl, ?hvn182⟩) (by assumption) ?rsn182
    case hvn182 => (intro w' hSw; (try dsimp only at hSw); go_simp; try with_reducible rfl)
    try simp only [Act.put, List.setIfInBounds_toArray, List.set_cons_zero, List.set_cons_succ, List.getElem_toArray, List.getElem_cons_zero, List.getElem_cons_succ]
    refine' wpAnyH_take (i := 3) (oi := _) (v := _) rfl (by kernel_rfl) (by kernel_rfl) (by kernel_rfl) (fun _ _ _ h => h) (Or.inl ⟨by rfl, ?hvn183⟩) (by assumption) ?rsn183
    case hvn183 => (intro w' hSw; (try dsimp only at hSw); go_simp; try with_reducible rfl)
    try simp only [Act.put, List.setIfInBounds_toArray, List.set_cons_zero, List.set_cons_succ, List.getElem_toArray, List.getElem_cons_zero, List.getElem_cons_succ]
    refine' wpAnyH_take (i := 4) (oi := _) (v := _) rfl (by kernel_rfl) (by kernel_rfl) (by kernel_rfl) (fun _ _ _ h => h) (Or.inl ⟨by rfl, ?hvn184⟩) (by assumption) ?rsn184
    case hvn184 => (intro w' hSw; (try dsimp only at hSw); go_simp; try with_reducible rfl)
    try simp only [Act.put, List.setIfInBounds_toArray, List.set_cons_zero, List.set_cons_succ, List.getElem_toArray, List.getElem_cons_zero, List.getElem_cons_succ]
    refine wpAnyH_ready (rs := [5]) (by kernel_rfl) (by simp) ?_
    refine AllReadyH.cons (o := _) rfl (fun K hK => ?_) AllReadyH.nil
    rw [if_pos (by kernel_rfl)]
    refine wp_store_mid 55 (.tmp 4) (.tmp 56) rfl w.heap.size 0 (clC zeroC none 0 0).toArray rfl rfl HTD.out size_cl (all_oneCell_toArray (by intro v hv; simp [clC] at hv; rcases hv with rfl | rfl | rfl | rfl | rfl <;> rfl)) ?_
    refine hK.out _ _ ?_ (fun hHeld => ?_)
    · exact ⟨RrAt.others (by omega) _ _ _ (HR5.out.drewN 1), World.there_setCells HTD.out _ _ _, below_setCellsC hB5.drew (Nat.le_refl _) _ _⟩
    clear hK K
    try simp only [Act.put, List.setIfInBounds_toArray, List.set_cons_zero, List.set_cons_succ, List.getElem_toArray, List.getElem_cons_zero, List.getElem_cons_succ]
    refine' wpAnyH_take (i := 6) (oi := _) (v := _) rfl (by kernel_rfl) (by kernel_rfl) (by kernel_rfl) (fun _ _ _ h => h) (Or.inl ⟨by rfl, ?hvn186⟩) (by assumption) ?rsn186
    case hvn186 => (intro w' hSw; (try dsimp only at hSw); go_simp; try with_reducible rfl)
    try simp only [Act.put, List.setIfInBounds_toArray, List.set_cons_zero, List.set_cons_succ, List.getElem_toArray, List.getElem_cons_zero, List.getElem_cons_succ]
    refine wpAnyH_done (by kernel_rfl) ?_ _
    repeat go_step
    refine ret_cl rfl rfl (ClAt.stored HTD.out zeroC none 0 0) rfl ?_
    exact HFIN.out _ _ HD5.out hB5.drew
  have hbq : (at4 == (n : Int)) = true := by simp [hend]
  have HEND := Lib.hid hend
  clear hend
  obtain ⟨⟨r0, r1, r2⟩, f1, f2⟩ := HR4.out
  go_wp2_with fail
  refine (form_ok _ g A n c _ _ HR4.out).mono ?_
  rintro e w0 ⟨rfl, rfl⟩
  go_upto_region 17 with fail
  go_step
  refine wp_load_cl rfl _ rfl gc ⟨vn12, vn1, 0, 0, []⟩ A' n' c' rfl HCL.out ?_
  refine wp_store_cl rfl _ _ rfl w.heap.size ⟨vn12, vn1, 0, 0, []⟩ A' n' c' rfl rfl HGn17.out ?_
  repeat go_step
  refine ret_cl rfl rfl (ClAt.stored HGn17.out ⟨vn12, vn1, 0, 0, []⟩ A' n' c') rfl ?_
  rw [HP.out]
  have hdec : decC 2 l = (⟨vn12, vn1, 0, 0, []⟩, 0) := by
    have h7 := dec_ok 2 l ⟨by omega, by omega⟩ (by rw [HEn1.out]) (by rw [HEn1.out]; simp only; rw [HEn12.out]) (by rw [HEn1.out]; simp only; rw [HEn12.out]; simp only; rw [HLD.out]) (by rw [HEn1.out]; simp only; rw [HEn12.out]; simp only; rw [HLD.out, HN.out]; exact HHAT.out.symm.trans HEND.out)
    rw [HEn1.out] at h7; simp only at h7; rw [HEn12.out] at h7; simp only at h7; rw [HLD.out] at h7
    exact h7
  have hO : OwnB (Wn17.setCells w.heap.size 0 (clC ⟨vn12, vn1, 0, 0, []⟩ A' n' c')) (g + 1) A' n' c' _ := HOWN.out.apartC (fun i hi => heap_setCellsC _ _ _ _ _ (by omega))
  exact ⟨A', n', c', by rw [hdec]; rfl, by rw [hdec]; exact hO.mono (by omega), below_setCellsC hBn17 (Nat.le_refl _) _ _⟩
set_option maxHeartbeats 16000000 in
theorem cdec_four (w : World) (A : Option Addr) (n c : Nat) (l : List Int) (hn : l.length = n) (hnc : n ≤ c) (hcm : c ≤ maxLen) (hA : Rd w A l) (hAg : ∀ x, A = some x → l ≠ [] → x.block < w.heap.size) (hB : IsB l) (R : Ending → World → Prop) (hP : R = DecCBack w 4 l) :
    Calls Try.prog 32 #[.int .i64 4, .slice A n c] w R := by
  have HP := Lib.hid hP; clear hP
  have HN := Lib.hid hn; clear hn
  have HB := Lib.hid hB; clear hB
  have HCM := Lib.hid hcm
  unfold maxLen at hcm
  have HAG := Lib.hid hAg; clear hAg
  obtain ⟨W3, hW3⟩ : ∃ W, W = ((w.alloc (.cells #[.int .i64 0, .int .i64 0, .int .i64 0, .slice none 0 0, .int .i64 0] 55)).alloc (.cells #[.slice A n c, .int .i64 0, .int .i64 0] 110)).alloc (.cells #[.int .i64 0, .int .i64 0, .int .i64 0, .slice none 0 0, .int .i64 0] 55) := ⟨_, rfl⟩
  have hb3 : Below w.heap.size w W3 := by rw [hW3]; exact (((Below.refl _ _).alloc (Nat.le_refl _) _).alloc (by simp) _).alloc (by simp; omega) _
  have hz3 : W3.heap.size = w.heap.size + 3 := by rw [hW3]; simp
  have hr3 : RrAt W3 (w.heap.size + 1) A n c 0 0 := by
    rw [hW3]
    exact ⟨⟨by simp [go_sem], by simp [go_sem], by simp [go_sem]⟩, by simp [go_sem], by simp [go_sem]⟩
  have hc3 : ClAt W3 (w.heap.size + 1 + 1) ⟨0, 0, 0, 0, []⟩ none 0 0 := by
    rw [hW3]
    exact ⟨by simp [go_sem], by simp [go_sem], by simp [go_sem], by simp [go_sem], by simp [go_sem]⟩
  have ht3 : W3.there (w.heap.size + 1 + 1) 0 5 := by
    rw [hW3]
    intro j hj
    rcases (by omega : j = 0 ∨ j = 1 ∨ j = 2 ∨ j = 3 ∨ j = 4) with rfl | rfl | rfl | rfl | rfl <;> simp [go_sem]
  have hg3 : W3.there w.heap.size 0 5 := by
    rw [hW3]
    intro j hj
    rcases (by omega : j = 0 ∨ j = 1 ∨ j = 2 ∨ j = 3 ∨ j = 4) with rfl | rfl | rfl | rfl | rfl <;> simp [go_sem]
  have HA := Lib.hid hA; clear hA
  have HR3 := Lib.hid hr3
  have HC3 := Lib.hid hc3
  have HT3 := Lib.hid ht3
  have HG3 := Lib.hid hg3
  have HW := Lib.hid hW3
  clear hr3 hc3 ht3 hg3
  go_enter Try.func32, Try.ntmps32
  go_wp2_with fail
  refine (has_four _).mono ?_
  rintro e w1 ⟨rfl, rfl⟩

  go_wp2_with fail
  rw [← hW3]
  clear hW3 HW
  generalize hgd : w.heap.size + 1 = g at *
  generalize hcd : g + 1 = gc at *
  have hA3 := HA.out.keep hb3
  have HA3 := Lib.hid hA3
  clear hA3
  have hagg : ∀ x, A = some x → l ≠ [] → x.block < g := fun x hx hl0 => by have := HAG.out x hx hl0; omega
  have HAGG := Lib.hid hagg
  clear hagg
  have hfin : ∀ (W : World) (e' : Int), decC 4 l = (zeroC, e') → Below w.heap.size w W → R (.returned (.tuple #[zeroC.val none 0 0, .int .i64 e'])) (W.setCells w.heap.size 0 (clC zeroC none 0 0)) := by
    intro W e' h1 h2
    rw [HP.out]
    exact ⟨none, 0, 0, by rw [h1], by rw [h1]; exact OwnB.nil _ _, below_setCellsC h2 (Nat.le_refl _) _ _⟩
  have HFIN := Lib.hid hfin; clear hfin
  obtain ⟨⟨vn1, pn1, zn1⟩, hUn1⟩ : ∃ U, unvL l 0 = U := ⟨_, rfl⟩
  have HUn1 := Lib.hid hUn1
  by_cases hz : zn1 = 0
  rotate_left
  · have HZn1 := Lib.hid hz
    refine (next_err _ g A n c l _ vn1 pn1 zn1 HR3.out HN.out hnc HCM.out (HA.out.keep hb3) HB.out (by omega) hUn1 hz).mono ?_
    rintro e wEn1 ⟨rfl, ⟨atn1, hrn1⟩, hon1⟩
    have HREn1 := Lib.hid hrn1
    have HCn2 := Lib.hid (HC3.out.only hon1 (by omega))
    have HTn2 := Lib.hid (there_only HT3.out hon1 (by omega))
    have HGn2 := Lib.hid (there_only HG3.out hon1 (by omega))
    have hBn2 : Below w.heap.size w wEn1 := hb3.trans (hon1.below (by omega))
    have hzn2 := hon1.size
    clear hrn1 hon1 hz hUn1
    have HDn1 := Lib.hid (show decC 4 l = (zeroC, zn1) from by
      have e1 : childD 4 l = (0, 0, zn1) := (if_pos (by unfold hasC; omega)).trans (wn_err HUn1.out HZn1.out)
      have h7 := dec_child 4 l ⟨by omega, by omega⟩ (by rw [e1]; exact HZn1.out)
      rw [e1] at h7
      exact h7)
    go_wp2_with fail
    refine (page_no _ 0 (by unfold isP; omega)).mono ?_
    rintro e w0 ⟨rfl, rfl⟩
    go_wp2_with fail
    refine (form_bad _ g A n c _ _ _ HREn1.out HZn1.out).mono ?_
    rintro e w0 ⟨rfl, rfl⟩
    have x1 := HCn2.out.2.1
    have y1 : wEn1.frozen? ⟨gc, 1, none⟩ = false := by simpa using (HTn2.out 1 (by decide)).2
    go_wp2_with fail
    clear x1 y1
    obtain ⟨Wn3, hWn3⟩ : ∃ x, x = wEn1.setCell ⟨gc, 1, none⟩ (.int .i64 0) := ⟨_, rfl⟩
    rw [← hWn3]
    have HRn3 := Lib.hid (show RrAt Wn3 g A n c _ _ by rw [hWn3]; exact HREn1.out.other gc 1 (by omega) _)
    have HCn3 := Lib.hid (show ClAt Wn3 gc ⟨0, 0, 0, 0, []⟩ none 0 0 by rw [hWn3]; exact ClAt.setChild HCn2.out 0)
    have HTn3 := Lib.hid (show Wn3.there gc 0 5 by rw [hWn3]; exact there_setC HTn2.out _ _)
    have HGn3 := Lib.hid (show Wn3.there w.heap.size 0 5 by rw [hWn3]; exact there_setC HGn2.out _ _)
    have hBn3 : Below w.heap.size w Wn3 := by rw [hWn3]; exact hBn2.setCell (by simp only; omega) _
    have hzn3 : Wn3.heap.size = wEn1.heap.size := by rw [hWn3]; simp only [World.setCell, Array.size_modify]
    clear hWn3
    refine (load_bad _ g gc A n c _ _ HRn3.out HZn1.out _ rfl).mono ?_
    rintro e Wn4 ⟨rfl, hrn4, hbn4⟩
    have HRn4 := Lib.hid hrn4
    have HGn4 := Lib.hid (there_keepC HGn3.out hbn4 (by omega))
    have hBn4 : Below w.heap.size w Wn4 := hBn3.trans (hbn4.mono (by omega))
    have hzn4 := hbn4.size
    clear hrn4 hbn4
    obtain ⟨⟨r0, r1, r2⟩, f1, f2⟩ := HRn4.out
    go_wp2_with fail
    refine (form_bad _ g A n c _ _ _ HRn4.out HZn1.out).mono ?_
    rintro e w0 ⟨rfl, rfl⟩
    have z1 : (zn1 != 0) = true := by simp [HZn1.out]
    clear r0 r1 r2 f1 f2
    obtain ⟨atx, hatx⟩ : ∃ x, RrAt Wn4 g A n c x zn1 := ⟨_, HRn4.out⟩
    have HRX := Lib.hid hatx
    clear hatx
    obtain ⟨⟨r0, r1, r2⟩, f1, f2⟩ := HRX.out
    have hE2 : ∀ X, HeldD g w.heap.size A n c atx zn1 w X → X.cell? ⟨g, 2, none⟩ = some (.int .i64 zn1) := fun X h => h.1.1.2.2
    go_upto_region 16 with fail
    clear r0 r1 r2 f1 f2
    have HTD := Lib.hid (there_keepC HGn4.out (Below.refl Wn4.heap.size Wn4).drew (by omega))
    refine wp_region_held_drew (S := (fun X => HeldD g w.heap.size A n c atx zn1 w X)) (by kernel_rfl) ?_ (fun hHeld => ?_)
    · exact ⟨HRX.out.drewN 1, HTD.out, hBn4.drew⟩
    refine' wpAnyH_take (i := 0) (oi := _) (v := _) rfl (by kernel_rfl) (by kernel_rfl) (by kernel_rfl) (fun _ _ _ h => h) (Or.inl ⟨by rfl, ?hvn50⟩) (by assumption) ?rsn50
    case hvn50 => (intro w' hSw; (try dsimp only at hSw); go_simp; try with_reducible rfl)
    try simp only [Act.put, List.setIfInBounds_toArray, List.set_cons_zero, List.set_cons_succ, List.getElem_toArray, List.getElem_cons_zero, List.getElem_cons_succ]
    refine' wpAnyH_take (i := 1) (oi := _) (v := _) rfl (by kernel_rfl) (by kernel_rfl) (by kernel_rfl) (fun _ _ _ h => h) (Or.inl ⟨by rfl, ?hvn51⟩) (by assumption) ?rsn51
    case hvn51 => (intro w' hSw; (try dsimp only at hSw); go_simp; try with_reducible rfl)
    try simp only [Act.put, List.setIfInBounds_toArray, List.set_cons_zero, List.set_cons_succ, List.getElem_toArray, List.getElem_cons_zero, List.getElem_cons_succ]
    refine' wpAnyH_take (i := 2) (oi := _) (v := _) rfl (by kernel_rfl) (by kernel_rfl) (by kernel_rfl) (fun _ _ _ h => h) (Or.inl ⟨by rfl, ?hvn52⟩) (by assumption) ?rsn52
    case hvn52 => (intro w' hSw; (try dsimp only at hSw); go_simp; try with_reducible rfl)
    try simp only [Act.put, List.setIfInBounds_toArray, List.set_cons_zero, List.set_cons_succ, List.getElem_toArray, List.getElem_cons_zero, List.getElem_cons_succ]
    refine' wpAnyH_take (i := 3) (oi := _) (v := _) rfl (by kernel_rfl) (by kernel_rfl) (by kernel_rfl) (fun _ _ _ h => h) (Or.inl ⟨by rfl, ?hvn53⟩) (by assumption) ?rsn53
    case hvn53 => (intro w' hSw; (try dsimp only at hSw); go_simp; try with_reducible rfl)
    try simp only [Act.put, List.setIfInBounds_toArray, List.set_cons_zero, List.set_cons_succ, List.getElem_toArray, List.getElem_cons_zero, List.getElem_cons_succ]
    refine' wpAnyH_take (i := 4) (oi := _) (v := _) rfl (by kernel_rfl) (by kernel_rfl) (by kernel_rfl) (fun _ _ _ h => h) (Or.inl ⟨by rfl, ?hvn54⟩) (by assumption) ?rsn54
    case hvn54 => (intro w' hSw; (try dsimp only at hSw); go_simp; try with_reducible rfl)
    try simp only [Act.put, List.setIfInBounds_toArray, List.set_cons_zero, List.set_cons_succ, List.getElem_toArray, List.getElem_cons_zero, List.getElem_cons_succ]
    refine wpAnyH_ready (rs := [5]) (by kernel_rfl) (by simp) ?_
    refine AllReadyH.cons (o := _) rfl (fun K hK => ?_) AllReadyH.nil
    rw [if_pos (by kernel_rfl)]
    refine wp_store_mid 55 (.tmp 4) (.tmp 56) rfl w.heap.size 0 (clC zeroC none 0 0).toArray rfl rfl HTD.out size_cl (all_oneCell_toArray (by intro v hv; simp [clC] at hv; rcases hv with rfl | rfl | rfl | rfl | rfl <;> rfl)) ?_
    refine hK.out _ _ ?_ (fun hHeld => ?_)
    · exact ⟨RrAt.others (by omega) _ _ _ (HRX.out.drewN 1), World.there_setCells HTD.out _ _ _, below_setCellsC hBn4.drew (Nat.le_refl _) _ _⟩
    clear hK K
    try simp only [Act.put, List.setIfInBounds_toArray, List.set_cons_zero, List.set_cons_succ, List.getElem_toArray, List.getElem_cons_zero, List.getElem_cons_succ]
    refine' wpAnyH_take (i := 6) (oi := _) (v := _) rfl (by kernel_rfl) (by kernel_rfl) (by kernel_rfl) (fun _ _ _ h => h) (Or.inl ⟨by rfl, ?hvn56⟩) (by assumption) ?rsn56
    case hvn56 => (intro w' hSw; (try dsimp only at hSw); go_simp; try with_reducible rfl)
    try simp only [Act.put, List.setIfInBounds_toArray, List.set_cons_zero, List.set_cons_succ, List.getElem_toArray, List.getElem_cons_zero, List.getElem_cons_succ]
    refine wpAnyH_done (by kernel_rfl) ?_ _
    repeat go_step
    refine ret_cl rfl rfl (ClAt.stored HTD.out zeroC none 0 0) rfl ?_
    exact HFIN.out _ _ HDn1.out hBn4.drew
  subst hz
  obtain ⟨qn1, hqn1, hqan1, hqnn1, hqvn1, hv1n1, hv2n1⟩ := unv_at HB.out 0 (by first | rw [hUn1] | (simp only [Int.natCast_zero]; rw [hUn1]))
  first | rw [hUn1] at hqn1 hqvn1 hv1n1 hv2n1 | (simp only [Int.natCast_zero] at hqn1 hqvn1 hv1n1 hv2n1; rw [hUn1] at hqn1 hqvn1 hv1n1 hv2n1)
  simp only at hqn1 hqvn1 hv1n1 hv2n1
  subst hqn1
  rw [HN.out] at hqnn1
  clear hqvn1
  refine (next_yes _ g A n c l _ vn1 qn1 HR3.out HN.out hnc HCM.out (HA.out.keep hb3) HB.out (by omega) hUn1).mono ?_
  rintro e wGn1 ⟨rfl, hrn1, hon1⟩
  have HRGn1 := Lib.hid hrn1
  have HCn6 := Lib.hid (HC3.out.only hon1 (by omega))
  have HTn6 := Lib.hid (there_only HT3.out hon1 (by omega))
  have HGn6 := Lib.hid (there_only HG3.out hon1 (by omega))
  have hBn6 : Below w.heap.size w wGn1 := hb3.trans (hon1.below (by omega))
  have hzn6 := hon1.size
  clear hrn1 hon1 hUn1
  go_wp2_with fail
  by_cases hp : isP vn1
  rotate_left
  · have HPNn1 := Lib.hid hp
    refine (page_no _ vn1 hp).mono ?_
    rintro e w0 ⟨rfl, rfl⟩
    go_wp2_with fail
    refine (form_no2 _ g A n c _ HRGn1.out).mono ?_
    rintro e wFn1 ⟨rfl, hr8, ho8⟩
    have HRFn1 := Lib.hid hr8
    have HZ8n1 := Lib.hid (show (8 : Int) ≠ 0 by decide)
    have HCn7 := Lib.hid (HCn6.out.only ho8 (by omega))
    have HTn7 := Lib.hid (there_only HTn6.out ho8 (by omega))
    have HGn7 := Lib.hid (there_only HGn6.out ho8 (by omega))
    have hBn7 : Below w.heap.size w wFn1 := hBn6.trans (ho8.below (by omega))
    have hzn7 := ho8.size
    clear hr8 ho8 hp
    have HDn1 := Lib.hid (show decC 4 l = (zeroC, 8) from by
      have e1 : childD 4 l = (0, 0, 8) := (if_pos (by unfold hasC; omega)).trans (wn_form HUn1.out (by have := HPNn1.out; unfold isP at this; omega))
      have h7 := dec_child 4 l ⟨by omega, by omega⟩ (by rw [e1]; exact HZ8n1.out)
      rw [e1] at h7
      exact h7)
    have x1 := HCn7.out.2.1
    have y1 : wFn1.frozen? ⟨gc, 1, none⟩ = false := by simpa using (HTn7.out 1 (by decide)).2
    go_wp2_with fail
    clear x1 y1
    obtain ⟨Wn8, hWn8⟩ : ∃ x, x = wFn1.setCell ⟨gc, 1, none⟩ (.int .i64 vn1) := ⟨_, rfl⟩
    rw [← hWn8]
    have HRn8 := Lib.hid (show RrAt Wn8 g A n c _ _ by rw [hWn8]; exact HRFn1.out.other gc 1 (by omega) _)
    have HCn8 := Lib.hid (show ClAt Wn8 gc ⟨0, vn1, 0, 0, []⟩ none 0 0 by rw [hWn8]; exact ClAt.setChild HCn7.out vn1)
    have HTn8 := Lib.hid (show Wn8.there gc 0 5 by rw [hWn8]; exact there_setC HTn7.out _ _)
    have HGn8 := Lib.hid (show Wn8.there w.heap.size 0 5 by rw [hWn8]; exact there_setC HGn7.out _ _)
    have hBn8 : Below w.heap.size w Wn8 := by rw [hWn8]; exact hBn7.setCell (by simp only; omega) _
    have hzn8 : Wn8.heap.size = wFn1.heap.size := by rw [hWn8]; simp only [World.setCell, Array.size_modify]
    clear hWn8
    refine (load_bad _ g gc A n c _ _ HRn8.out HZ8n1.out _ rfl).mono ?_
    rintro e Wn9 ⟨rfl, hrn9, hbn9⟩
    have HRn9 := Lib.hid hrn9
    have HGn9 := Lib.hid (there_keepC HGn8.out hbn9 (by omega))
    have hBn9 : Below w.heap.size w Wn9 := hBn8.trans (hbn9.mono (by omega))
    have hzn9 := hbn9.size
    clear hrn9 hbn9
    obtain ⟨⟨r0, r1, r2⟩, f1, f2⟩ := HRn9.out
    go_wp2_with fail
    refine (form_bad _ g A n c _ _ _ HRn9.out HZ8n1.out).mono ?_
    rintro e w0 ⟨rfl, rfl⟩
    have z1 : (8 != 0) = true := by simp [HZ8n1.out]
    clear r0 r1 r2 f1 f2
    obtain ⟨atx, hatx⟩ : ∃ x, RrAt Wn9 g A n c x 8 := ⟨_, HRn9.out⟩
    have HRX := Lib.hid hatx
    clear hatx
    obtain ⟨⟨r0, r1, r2⟩, f1, f2⟩ := HRX.out
    have hE2 : ∀ X, HeldD g w.heap.size A n c atx 8 w X → X.cell? ⟨g, 2, none⟩ = some (.int .i64 8) := fun X h => h.1.1.2.2
    go_upto_region 16 with fail
    clear r0 r1 r2 f1 f2
    have HTD := Lib.hid (there_keepC HGn9.out (Below.refl Wn9.heap.size Wn9).drew (by omega))
    refine wp_region_held_drew (S := (fun X => HeldD g w.heap.size A n c atx 8 w X)) (by kernel_rfl) ?_ (fun hHeld => ?_)
    · exact ⟨HRX.out.drewN 1, HTD.out, hBn9.drew⟩
    refine' wpAnyH_take (i := 0) (oi := _) (v := _) rfl (by kernel_rfl) (by kernel_rfl) (by kernel_rfl) (fun _ _ _ h => h) (Or.inl ⟨by rfl, ?hvn100⟩) (by assumption) ?rsn100
    case hvn100 => (intro w' hSw; (try dsimp only at hSw); go_simp; try with_reducible rfl)
    try simp only [Act.put, List.setIfInBounds_toArray, List.set_cons_zero, List.set_cons_succ, List.getElem_toArray, List.getElem_cons_zero, List.getElem_cons_succ]
    refine' wpAnyH_take (i := 1) (oi := _) (v := _) rfl (by kernel_rfl) (by kernel_rfl) (by kernel_rfl) (fun _ _ _ h => h) (Or.inl ⟨by rfl, ?hvn101⟩) (by assumption) ?rsn101
    case hvn101 => (intro w' hSw; (try dsimp only at hSw); go_simp; try with_reducible rfl)
    try simp only [Act.put, List.setIfInBounds_toArray, List.set_cons_zero, List.set_cons_succ, List.getElem_toArray, List.getElem_cons_zero, List.getElem_cons_succ]
    refine' wpAnyH_take (i := 2) (oi := _) (v := _) rfl (by kernel_rfl) (by kernel_rfl) (by kernel_rfl) (fun _ _ _ h => h) (Or.inl ⟨by rfl, ?hvn102⟩) (by assumption) ?rsn102
    case hvn102 => (intro w' hSw; (try dsimp only at hSw); go_simp; try with_reducible rfl)
    try simp only [Act.put, List.setIfInBounds_toArray, List.set_cons_zero, List.set_cons_succ, List.getElem_toArray, List.getElem_cons_zero, List.getElem_cons_succ]
    refine' wpAnyH_take (i := 3) (oi := _) (v := _) rfl (by kernel_rfl) (by kernel_rfl) (by kernel_rfl) (fun _ _ _ h => h) (Or.inl ⟨by rfl, ?hvn103⟩) (by assumption) ?rsn103
    case hvn103 => (intro w' hSw; (try dsimp only at hSw); go_simp; try with_reducible rfl)
    try simp only [Act.put, List.setIfInBounds_toArray, List.set_cons_zero, List.set_cons_succ, List.getElem_toArray, List.getElem_cons_zero, List.getElem_cons_succ]
    refine' wpAnyH_take (i := 4) (oi := _) (v := _) rfl (by kernel_rfl) (by kernel_rfl) (by kernel_rfl) (fun _ _ _ h => h) (Or.inl ⟨by rfl, ?hvn104⟩) (by assumption) ?rsn104
    case hvn104 => (intro w' hSw; (try dsimp only at hSw); go_simp; try with_reducible rfl)
    try simp only [Act.put, List.setIfInBounds_toArray, List.set_cons_zero, List.set_cons_succ, List.getElem_toArray, List.getElem_cons_zero, List.getElem_cons_succ]
    refine wpAnyH_ready (rs := [5]) (by kernel_rfl) (by simp) ?_
    refine AllReadyH.cons (o := _) rfl (fun K hK => ?_) AllReadyH.nil
    rw [if_pos (by kernel_rfl)]
    refine wp_store_mid 55 (.tmp 4) (.tmp 56) rfl w.heap.size 0 (clC zeroC none 0 0).toArray rfl rfl HTD.out size_cl (all_oneCell_toArray (by intro v hv; simp [clC] at hv; rcases hv with rfl | rfl | rfl | rfl | rfl <;> rfl)) ?_
    refine hK.out _ _ ?_ (fun hHeld => ?_)
    · exact ⟨RrAt.others (by omega) _ _ _ (HRX.out.drewN 1), World.there_setCells HTD.out _ _ _, below_setCellsC hBn9.drew (Nat.le_refl _) _ _⟩
    clear hK K
    try simp only [Act.put, List.setIfInBounds_toArray, List.set_cons_zero, List.set_cons_succ, List.getElem_toArray, List.getElem_cons_zero, List.getElem_cons_succ]
    refine' wpAnyH_take (i := 6) (oi := _) (v := _) rfl (by kernel_rfl) (by kernel_rfl) (by kernel_rfl) (fun _ _ _ h => h) (Or.inl ⟨by rfl, ?hvn106⟩) (by assumption) ?rsn106
    case hvn106 => (intro w' hSw; (try dsimp only at hSw); go_simp; try with_reducible rfl)
    try simp only [Act.put, List.setIfInBounds_toArray, List.set_cons_zero, List.set_cons_succ, List.getElem_toArray, List.getElem_cons_zero, List.getElem_cons_succ]
    refine wpAnyH_done (by kernel_rfl) ?_ _
    repeat go_step
    refine ret_cl rfl rfl (ClAt.stored HTD.out zeroC none 0 0) rfl ?_
    exact HFIN.out _ _ HDn1.out hBn9.drew
  have HPYn1 := Lib.hid hp
  refine (page_yes _ vn1 hp).mono ?_
  rintro e w0 ⟨rfl, rfl⟩
  clear hp
  go_wp2_with fail
  refine (form_ok _ g A n c _ _ HRGn1.out).mono ?_
  rintro e w0 ⟨rfl, rfl⟩
  have HEn1 := Lib.hid (show childD 4 l = (vn1, (qn1 : Int), 0) from (if_pos (by unfold hasC; omega)).trans (wn_ok HUn1.out (by have := HPYn1.out; unfold isP at this; omega)))
  have x1 := HCn6.out.2.1
  have y1 : wGn1.frozen? ⟨gc, 1, none⟩ = false := by simpa using (HTn6.out 1 (by decide)).2
  go_wp2_with fail
  clear x1 y1
  obtain ⟨Wn11, hWn11⟩ : ∃ x, x = wGn1.setCell ⟨gc, 1, none⟩ (.int .i64 vn1) := ⟨_, rfl⟩
  rw [← hWn11]
  have HRn11 := Lib.hid (show RrAt Wn11 g A n c _ _ by rw [hWn11]; exact HRGn1.out.other gc 1 (by omega) _)
  have HCn11 := Lib.hid (show ClAt Wn11 gc ⟨0, vn1, 0, 0, []⟩ none 0 0 by rw [hWn11]; exact ClAt.setChild HCn6.out vn1)
  have HTn11 := Lib.hid (show Wn11.there gc 0 5 by rw [hWn11]; exact there_setC HTn6.out _ _)
  have HGn11 := Lib.hid (show Wn11.there w.heap.size 0 5 by rw [hWn11]; exact there_setC HGn6.out _ _)
  have hBn11 : Below w.heap.size w Wn11 := by rw [hWn11]; exact hBn6.setCell (by simp only; omega) _
  have hzn11 : Wn11.heap.size = wGn1.heap.size := by rw [hWn11]; simp only [World.setCell, Array.size_modify]
  clear hWn11
  have HEKY := Lib.hid (show keyD 4 l (qn1 : Int) = (0, (qn1 : Int), 0) from if_neg (by unfold hasK; omega))
  refine (load_any _ g gc A n c l qn1 0 vn1 HRn11.out HCn11.out HTn11.out (by omega) (by omega) HN.out hnc HCM.out (HA.out.keep hBn11) HAGG.out HB.out (by omega) _ rfl).mono ?_
  rintro e w4 ⟨at4, e4, rfl, hr4, he4, hok4, hb4⟩
  have hB4 : Below w.heap.size w w4 := hBn11.trans (hb4.mono (by omega))
  have HG4 := Lib.hid (there_keepC HGn11.out hb4 (by omega))
  have HR4 := Lib.hid hr4
  have HEV := Lib.hid he4
  have HOK := Lib.hid hok4
  have hz4 := hb4.size
  clear he4 hok4 hb4 hr4
  have HLD := Lib.hid (show loadD 4 l (qn1 : Int) = payD l ((qn1 : Nat) : Int) from (if_neg (by omega)).trans (by first | rfl | simp))
  by_cases hz : e4 = 0
  rotate_left
  · have HZ4 := Lib.hid hz
    have HD4 := Lib.hid (show decC 4 l = (zeroC, e4) from by
      have h7 := dec_load 4 l ⟨by omega, by omega⟩ (by rw [HEn1.out]) (by rw [HEn1.out]; simp only; rw [HEKY.out]) (by rw [HEn1.out]; simp only; rw [HEKY.out]; simp only; rw [HLD.out, ← HEV.out]; exact HZ4.out)
      rw [HEn1.out] at h7; simp only at h7; rw [HEKY.out] at h7; simp only at h7; rw [HLD.out, ← HEV.out] at h7
      exact h7)
    clear hz HOK HEV
    obtain ⟨⟨r0, r1, r2⟩, f1, f2⟩ := HR4.out
    go_wp2_with fail
    refine (form_bad _ g A n c _ _ _ HR4.out HZ4.out).mono ?_
    rintro e w0 ⟨rfl, rfl⟩
    have z1 : (e4 != 0) = true := by simp [HZ4.out]
    clear r0 r1 r2 f1 f2
    obtain ⟨atx, hatx⟩ : ∃ x, RrAt w4 g A n c x e4 := ⟨_, HR4.out⟩
    have HRX := Lib.hid hatx
    clear hatx
    obtain ⟨⟨r0, r1, r2⟩, f1, f2⟩ := HRX.out
    have hE2 : ∀ X, HeldD g w.heap.size A n c atx e4 w X → X.cell? ⟨g, 2, none⟩ = some (.int .i64 e4) := fun X h => h.1.1.2.2
    go_upto_region 16 with fail
    clear r0 r1 r2 f1 f2
    have HTD := Lib.hid (there_keepC HG4.out (Below.refl w4.heap.size w4).drew (by omega))
    refine wp_region_held_drew (S := (fun X => HeldD g w.heap.size A n c atx e4 w X)) (by kernel_rfl) ?_ (fun hHeld => ?_)
    · exact ⟨HRX.out.drewN 1, HTD.out, hB4.drew⟩
    refine' wpAnyH_take (i := 0) (oi := _) (v := _) rfl (by kernel_rfl) (by kernel_rfl) (by kernel_rfl) (fun _ _ _ h => h) (Or.inl ⟨by rfl, ?hvn120⟩) (by assumption) ?rsn120
    case hvn120 => (intro w' hSw; (try dsimp only at hSw); go_simp; try with_reducible rfl)
    try simp only [Act.put, List.setIfInBounds_toArray, List.set_cons_zero, List.set_cons_succ, List.getElem_toArray, List.getElem_cons_zero, List.getElem_cons_succ]
    refine' wpAnyH_take (i := 1) (oi := _) (v := _) rfl (by kernel_rfl) (by kernel_rfl) (by kernel_rfl) (fun _ _ _ h => h) (Or.inl ⟨by rfl, ?hvn121⟩) (by assumption) ?rsn121
    case hvn121 => (intro w' hSw; (try dsimp only at hSw); go_simp; try with_reducible rfl)
    try simp only [Act.put, List.setIfInBounds_toArray, List.set_cons_zero, List.set_cons_succ, List.getElem_toArray, List.getElem_cons_zero, List.getElem_cons_succ]
    refine' wpAnyH_take (i := 2) (oi := _) (v := _) rfl (by kernel_rfl) (by kernel_rfl) (by kernel_rfl) (fun _ _ _ h => h) (Or.inl ⟨by rfl, ?hvn122⟩) (by assumption) ?rsn122
    case hvn122 => (intro w' hSw; (try dsimp only at hSw); go_simp; try with_reducible rfl)
    try simp only [Act.put, List.setIfInBounds_toArray, List.set_cons_zero, List.set_cons_succ, List.getElem_toArray, List.getElem_cons_zero, List.getElem_cons_succ]
    refine' wpAnyH_take (i := 3) (oi := _) (v := _) rfl (by kernel_rfl) (by kernel_rfl) (by kernel_rfl) (fun _ _ _ h => h) (Or.inl ⟨by rfl, ?hvn123⟩) (by assumption) ?rsn123
    case hvn123 => (intro w' hSw; (try dsimp only at hSw); go_simp; try with_reducible rfl)
    try simp only [Act.put, List.setIfInBounds_toArray, List.set_cons_zero, List.set_cons_succ, List.getElem_toArray, List.getElem_cons_zero, List.getElem_cons_succ]
    refine' wpAnyH_take (i := 4) (oi := _) (v := _) rfl (by kernel_rfl) (by kernel_rfl) (by kernel_rfl) (fun _ _ _ h => h) (Or.inl ⟨by rfl, ?hvn124⟩) (by assumption) ?rsn124
    case hvn124 => (intro w' hSw; (try dsimp only at hSw); go_simp; try with_reducible rfl)
    try simp only [Act.put, List.setIfInBounds_toArray, List.set_cons_zero, List.set_cons_succ, List.getElem_toArray, List.getElem_cons_zero, List.getElem_cons_succ]
    refine wpAnyH_ready (rs := [5]) (by kernel_rfl) (by simp) ?_
    refine AllReadyH.cons (o := _) rfl (fun K hK => ?_) AllReadyH.nil
    rw [if_pos (by kernel_rfl)]
    refine wp_store_mid 55 (.tmp 4) (.tmp 56) rfl w.heap.size 0 (clC zeroC none 0 0).toArray rfl rfl HTD.out size_cl (all_oneCell_toArray (by intro v hv; simp [clC] at hv; rcases hv with rfl | rfl | rfl | rfl | rfl <;> rfl)) ?_
    refine hK.out _ _ ?_ (fun hHeld => ?_)
    · exact ⟨RrAt.others (by omega) _ _ _ (HRX.out.drewN 1), World.there_setCells HTD.out _ _ _, below_setCellsC hB4.drew (Nat.le_refl _) _ _⟩
    clear hK K
    try simp only [Act.put, List.setIfInBounds_toArray, List.set_cons_zero, List.set_cons_succ, List.getElem_toArray, List.getElem_cons_zero, List.getElem_cons_succ]
    refine' wpAnyH_take (i := 6) (oi := _) (v := _) rfl (by kernel_rfl) (by kernel_rfl) (by kernel_rfl) (fun _ _ _ h => h) (Or.inl ⟨by rfl, ?hvn126⟩) (by assumption) ?rsn126
    case hvn126 => (intro w' hSw; (try dsimp only at hSw); go_simp; try with_reducible rfl)
    try simp only [Act.put, List.setIfInBounds_toArray, List.set_cons_zero, List.set_cons_succ, List.getElem_toArray, List.getElem_cons_zero, List.getElem_cons_succ]
    refine wpAnyH_done (by kernel_rfl) ?_ _
    repeat go_step
    refine ret_cl rfl rfl (ClAt.stored HTD.out zeroC none 0 0) rfl ?_
    exact HFIN.out _ _ HD4.out hB4.drew
  obtain ⟨hat, A', n', c', hcl, hown⟩ := HOK.out hz
  have HHAT := Lib.hid hat
  have HCL := Lib.hid hcl
  have HOWN := Lib.hid hown
  have hez := HEV.out
  subst hz
  have HEZ := Lib.hid hez.symm
  clear hat hcl hown hez HOK HEV
  generalize hpy : payD l ((qn1 : Nat) : Int) = y at *
  obtain ⟨yt, ys, yl, ya, ye⟩ := y
  by_cases hend : at4 = (n : Int)
  rotate_left
  · have hbq : (at4 == (n : Int)) = false := by simp [hend]
    have HEND := Lib.hid hend
    clear hend
    obtain ⟨⟨r0, r1, r2⟩, f1, f2⟩ := HR4.out
    go_wp2_with fail
    refine (form_no2 _ g A n c _ HR4.out).mono ?_
    rintro e w5 ⟨rfl, hr5, ho5⟩
    have HR5 := Lib.hid hr5
    have hB5 : Below w.heap.size w w5 := hB4.trans (ho5.below (by omega))
    have HG5 := Lib.hid (there_keepC HG4.out (ho5.below (Nat.le_refl g)) (by omega))
    have hz5 := ho5.size
    have z1 : ((8 : Int) != 0) = true := by decide
    have HD5 := Lib.hid (show decC 4 l = (zeroC, 8) from
      dec_long 4 l ⟨by omega, by omega⟩ (by rw [HEn1.out]) (by rw [HEn1.out]; simp only; rw [HEKY.out]) (by rw [HEn1.out]; simp only; rw [HEKY.out]; simp only; rw [HLD.out]; exact HEZ.out) (by rw [HEn1.out]; simp only; rw [HEKY.out]; simp only; rw [HLD.out, HN.out]; exact fun h => HEND.out (HHAT.out.trans h)))
    clear hr5 ho5 r0 r1 r2 f1 f2
    obtain ⟨⟨r0, r1, r2⟩, f1, f2⟩ := HR5.out
    have hE2 : ∀ X, HeldD g w.heap.size A n c at4 8 w X → X.cell? ⟨g, 2, none⟩ = some (.int .i64 8) := fun X h => h.1.1.2.2
    go_upto_region 16 with fail
    clear r0 r1 r2 f1 f2
    have HTD := Lib.hid (there_keepC HG5.out (Below.refl w5.heap.size w5).drew (by omega))
    refine wp_region_held_drew (S := (fun X => HeldD g w.heap.size A n c at4 8 w X)) (by kernel_rfl) ?_ (fun hHeld => ?_)
    · exact ⟨HR5.out.drewN 1, HTD.out, hB5.drew⟩
    refine' wpAnyH_take (i := 0) (oi := _) (v := _) rfl (by kernel_rfl) (by kernel_rfl) (by kernel_rfl) (fun _ _ _ h => h) (Or.inl ⟨by rfl, ?hvn130⟩) (by assumption) ?rsn130
    case hvn130 => (intro w' hSw; (try dsimp only at hSw); go_simp; try with_reducible rfl)
    try simp only [Act.put, List.setIfInBounds_toArray, List.set_cons_zero, List.set_cons_succ, List.getElem_toArray, List.getElem_cons_zero, List.getElem_cons_succ]
    refine' wpAnyH_take (i := 1) (oi := _) (v := _) rfl (by kernel_rfl) (by kernel_rfl) (by kernel_rfl) (fun _ _ _ h => h) (Or.inl ⟨by rfl, ?hvn131⟩) (by assumption) ?rsn131
    case hvn131 => (intro w' hSw; (try dsimp only at hSw); go_simp; try with_reducible rfl)
    try simp only [Act.put, List.setIfInBounds_toArray, List.set_cons_zero, List.set_cons_succ, List.getElem_toArray, List.getElem_cons_zero, List.getElem_cons_succ]
    refine' wpAnyH_take (i := 2) (oi := _) (v := _) rfl (by kernel_rfl) (by kernel_rfl) (by kernel_rfl) (fun _ _ _ h => h) (Or.inl ⟨by rfl, ?hvn132⟩) (by assumption) ?rsn132
    case hvn132 => (intro w' hSw; (try dsimp only at hSw); go_simp; try with_reducible rfl)
    try simp only [Act.put, List.setIfInBounds_toArray, List.set_cons_zero, List.set_cons_succ, List.getElem_toArray, List.getElem_cons_zero, List.getElem_cons_succ]
    refine' wpAnyH_take (i := 3) (oi := _) (v := _) rfl (by kernel_rfl) (by kernel_rfl) (by kernel_rfl) (fun _ _ _ h => h) (Or.inl ⟨by rfl, ?hvn133⟩) (by assumption) ?rsn133
    case hvn133 => (intro w' hSw; (try dsimp only at hSw); go_simp; try with_reducible rfl)
    try simp only [Act.put, List.setIfInBounds_toArray, List.set_cons_zero, List.set_cons_succ, List.getElem_toArray, List.getElem_cons_zero, List.getElem_cons_succ]
    refine' wpAnyH_take (i := 4) (oi := _) (v := _) rfl (by kernel_rfl) (by kernel_rfl) (by kernel_rfl) (fun _ _ _ h => h) (Or.inl ⟨by rfl, ?hvn134⟩) (by assumption) ?rsn134
    case hvn134 => (intro w' hSw; (try dsimp only at hSw); go_simp; try with_reducible rfl)
    try simp only [Act.put, List.setIfInBounds_toArray, List.set_cons_zero, List.set_cons_succ, List.getElem_toArray, List.getElem_cons_zero, List.getElem_cons_succ]
    refine wpAnyH_ready (rs := [5]) (by kernel_rfl) (by simp) ?_
    refine AllReadyH.cons (o := _) rfl (fun K hK => ?_) AllReadyH.nil
    rw [if_pos (by kernel_rfl)]
    refine wp_store_mid 55 (.tmp 4) (.tmp 56) rfl w.heap.size 0 (clC zeroC none 0 0).toArray rfl rfl HTD.out size_cl (all_oneCell_toArray (by intro v hv; simp [clC] at hv; rcases hv with rfl | rfl | rfl | rfl | rfl <;> rfl)) ?_
    refine hK.out _ _ ?_ (fun hHeld => ?_)
    · exact ⟨RrAt.others (by omega) _ _ _ (HR5.out.drewN 1), World.there_setCells HTD.out _ _ _, below_setCellsC hB5.drew (Nat.le_refl _) _ _⟩
    clear hK K
    try simp only [Act.put, List.setIfInBounds_toArray, List.set_cons_zero, List.set_cons_succ, List.getElem_toArray, List.getElem_cons_zero, List.getElem_cons_succ]
    refine' wpAnyH_take (i := 6) (oi := _) (v := _) rfl (by kernel_rfl) (by kernel_rfl) (by kernel_rfl) (fun _ _ _ h => h) (Or.inl ⟨by rfl, ?hvn136⟩) (by assumption) ?rsn136
    case hvn136 => (intro w' hSw; (try dsimp only at hSw); go_simp; try with_reducible rfl)
    try simp only [Act.put, List.setIfInBounds_toArray, List.set_cons_zero, List.set_cons_succ, List.getElem_toArray, List.getElem_cons_zero, List.getElem_cons_succ]
    refine wpAnyH_done (by kernel_rfl) ?_ _
    repeat go_step
    refine ret_cl rfl rfl (ClAt.stored HTD.out zeroC none 0 0) rfl ?_
    exact HFIN.out _ _ HD5.out hB5.drew
  have hbq : (at4 == (n : Int)) = true := by simp [hend]
  have HEND := Lib.hid hend
  clear hend
  obtain ⟨⟨r0, r1, r2⟩, f1, f2⟩ := HR4.out
  go_wp2_with fail
  refine (form_ok _ g A n c _ _ HR4.out).mono ?_
  rintro e w0 ⟨rfl, rfl⟩
  go_upto_region 17 with fail
  go_step
  refine wp_load_cl rfl _ rfl gc ⟨0, vn1, yt, ys, yl⟩ A' n' c' rfl HCL.out ?_
  refine wp_store_cl rfl _ _ rfl w.heap.size ⟨0, vn1, yt, ys, yl⟩ A' n' c' rfl rfl HG4.out ?_
  repeat go_step
  refine ret_cl rfl rfl (ClAt.stored HG4.out ⟨0, vn1, yt, ys, yl⟩ A' n' c') rfl ?_
  rw [HP.out]
  have hdec : decC 4 l = (⟨0, vn1, yt, ys, yl⟩, 0) := by
    have h7 := dec_ok 4 l ⟨by omega, by omega⟩ (by rw [HEn1.out]) (by rw [HEn1.out]; simp only; rw [HEKY.out]) (by rw [HEn1.out]; simp only; rw [HEKY.out]; simp only; rw [HLD.out]; exact HEZ.out) (by rw [HEn1.out]; simp only; rw [HEKY.out]; simp only; rw [HLD.out, HN.out]; exact HHAT.out.symm.trans HEND.out)
    rw [HEn1.out] at h7; simp only at h7; rw [HEKY.out] at h7; simp only at h7; rw [HLD.out] at h7
    exact h7
  have hO : OwnB (w4.setCells w.heap.size 0 (clC ⟨0, vn1, yt, ys, yl⟩ A' n' c')) (g + 1) A' n' c' _ := HOWN.out.apartC (fun i hi => heap_setCellsC _ _ _ _ _ (by omega))
  exact ⟨A', n', c', by rw [hdec]; rfl, by rw [hdec]; exact hO.mono (by omega), below_setCellsC hB4 (Nat.le_refl _) _ _⟩
theorem cdecC_any (w : World) (k : Int) (A : Option Addr) (n c : Nat) (l : List Int) (hn : l.length = n) (hnc : n ≤ c) (hcm : c ≤ maxLen) (hA : Rd w A l) (hB : IsB l) :
    Calls Try.prog 32 #[.int .i64 k, .slice A n c] w (DecCBack w k l) := by
  have hAg : ∀ x, A = some x → l ≠ [] → x.block < w.heap.size := fun x hx hl0 => hA.blk hl0 x hx
  by_cases h : isK k
  · have := h
    unfold isK at this
    rcases (by omega : k = 1 ∨ k = 2 ∨ k = 3 ∨ k = 4) with rfl | rfl | rfl | rfl
    · exact cdec_one w A n c l hn hnc hcm hA hAg hB _ rfl
    · exact cdec_two w A n c l hn hnc hcm hA hAg hB _ rfl
    · exact cdec_three w A n c l hn hnc hcm hA hAg hB _ rfl
    · exact cdec_four w A n c l hn hnc hcm hA hAg hB _ rfl
  · exact cdec_no w k A n c l h _ rfl
end
section
open Go.RowKit
theorem wn_zero {l : List Int} {a lo hi v p : Int} (h : wn l a lo hi = (v, p, 0)) : unvL l a = (v, p, 0) ∧ lo ≤ v ∧ v ≤ hi := by
  obtain ⟨⟨x, q, z⟩, hU⟩ : ∃ U, unvL l a = U := ⟨_, rfl⟩
  by_cases hz : z = 0
  · subst hz
    by_cases hb : x < lo ∨ hi < x
    · rw [wn_form hU hb] at h; simp at h
    · rw [wn_ok hU hb] at h
      simp only [Prod.mk.injEq, and_true] at h
      obtain ⟨rfl, rfl⟩ := h
      exact ⟨hU, by omega, by omega⟩
  · rw [wn_err hU hz] at h
    simp only [Prod.mk.injEq] at h
    exact absurd h.2.2 hz
theorem wn_at {l : List Int} (hB : IsB l) {a : Nat} {lo hi v p : Int} (h : wn l a lo hi = (v, p, 0)) : ∃ q : Nat, p = q ∧ a < q ∧ q ≤ l.length ∧ varL v = (l.drop a).take (q - a) ∧ (-9223372036854775808 ≤ v ∧ v ≤ 9223372036854775807) ∧ lo ≤ v ∧ v ≤ hi := by
  obtain ⟨hU, h1, h2⟩ := wn_zero h
  obtain ⟨q, e1, e2, e3, e4, e5⟩ := unv_at hB a (by rw [hU])
  rw [hU] at e1 e4 e5
  exact ⟨q, e1, e2, e3, e4, e5, h1, h2⟩

/-- A part of a row. -/
def seg (l : List Int) (a b : Nat) : List Int := (l.drop a).take (b - a)
theorem seg_app (l : List Int) {a b c : Nat} (h1 : a ≤ b) (h2 : b ≤ c) : seg l a b ++ seg l b c = seg l a c := by
  unfold seg
  rw [show c - a = (b - a) + (c - b) by omega, List.take_add, List.drop_drop, show a + (b - a) = b by omega]
theorem seg_all (l : List Int) : seg l 0 l.length = l := by simp [seg]
theorem pay_back {l : List Int} (hB : IsB l) (a : Nat) (_ha : a ≤ l.length) (h : (payD l a).e = 0) :
    ∃ q : Nat, (payD l a).at_ = q ∧ a ≤ q ∧ q ≤ l.length ∧ varL (payD l a).total ++ (varL ((payD l a).loc.length : Int) ++ ((payD l a).loc ++ (if (payD l a).spill = 0 then [] else varL (payD l a).spill))) = seg l a q ∧ goodL (payD l a).total (payD l a).spill (payD l a).loc.length := by
  obtain ⟨⟨v, p, z⟩, hU⟩ : ∃ U, unvL l a = U := ⟨_, rfl⟩
  by_cases hz : z = 0
  case neg => rw [pay_e1 hU hz] at h; exact absurd h hz
  subst hz
  by_cases hb : v < 0 ∨ 16384 < v
  · rw [pay_f1 hU hb] at h; exact absurd h (by decide)
  obtain ⟨q1, rfl, l1, l2, l3, _, _, _⟩ := wn_at hB (wn_ok hU hb)
  obtain ⟨⟨m, p2, z⟩, hU2⟩ : ∃ U, unvL l q1 = U := ⟨_, rfl⟩
  by_cases hz : z = 0
  case neg => rw [pay_e2 hU hb hU2 hz] at h; exact absurd h hz
  subst hz
  by_cases hb2 : m < 0 ∨ v < m
  · rw [pay_f2 hU hb hU2 hb2] at h; exact absurd h (by decide)
  obtain ⟨q2, rfl, k1, k2, k3, _, _, _⟩ := wn_at hB (wn_ok hU2 hb2)
  by_cases hs : (l.length : Int) - q2 < m
  · rw [pay_s hU hb hU2 hb2 hs] at h; exact absurd h (by decide)
  obtain ⟨M, rfl⟩ : ∃ M : Nat, m = M := ⟨m.toNat, by omega⟩
  have hseg : seg l q2 (q2 + M) = (l.drop q2).take M := by unfold seg; rw [show q2 + M - q2 = M by omega]
  have hlen : ((l.drop q2).take M).length = M := by simp; omega
  by_cases hm : (M : Int) = v
  · subst hm
    rw [pay_all hU hb hU2 hb2 hs]
    simp only [Int.toNat_natCast, hlen]
    refine ⟨q2 + M, by simp, by omega, by omega, ?_, ⟨by omega, by omega, Int.le_refl _, fun _ => rfl, fun hh => absurd hh (by omega)⟩⟩
    have t : seg l a q1 ++ (seg l q1 q2 ++ seg l q2 (q2 + M)) = seg l a (q2 + M) := by rw [seg_app l (by omega) (by omega), seg_app l (by omega) (by omega)]
    simp only [if_true, List.append_nil]
    rw [← hseg]
    exact (congrArg (· ++ (varL (M : Int) ++ seg l q2 (q2 + M))) l3).trans ((congrArg (fun x => seg l a q1 ++ (x ++ seg l q2 (q2 + M))) k3).trans t)
  · obtain ⟨⟨s, p3, z⟩, hU3⟩ : ∃ U, unvL l ((q2 : Int) + M) = U := ⟨_, rfl⟩
    by_cases hz : z = 0
    case neg => rw [pay_e3 hU hb hU2 hb2 hs hm hU3 hz] at h; exact absurd h hz
    subst hz
    by_cases hb3 : s < 1 ∨ 1048576 < s
    · rw [pay_f3 hU hb hU2 hb2 hs hm hU3 hb3] at h; exact absurd h (by decide)
    have hU3' : unvL l ((q2 + M : Nat) : Int) = (s, p3, 0) := by rw [← hU3]; congr 1
    obtain ⟨q3, rfl, n1, n2, n3, _, _, _⟩ := wn_at hB (wn_ok hU3' hb3)
    rw [pay_ok hU hb hU2 hb2 hs hm hU3 hb3]
    simp only [Int.toNat_natCast, hlen]
    refine ⟨q3, rfl, by omega, by omega, ?_, ⟨by omega, by omega, by omega, fun hh => absurd hh hm, fun _ => ⟨by omega, by omega⟩⟩⟩
    rw [if_neg (by omega), ← hseg, l3, k3, n3]
    show seg l a q1 ++ (seg l q1 q2 ++ (seg l q2 (q2 + M) ++ seg l (q2 + M) q3)) = _
    rw [seg_app l (by omega) (by omega), seg_app l (by omega) (by omega), seg_app l (by omega) (by omega)]

theorem child_back {l : List Int} (hB : IsB l) (k : Int) (h : (childD k l).2.2 = 0) :
    ∃ q : Nat, (childD k l).2.1 = q ∧ q ≤ l.length ∧ (if hasC k then varL (childD k l).1 else []) = seg l 0 q ∧ (hasC k → isP (childD k l).1) ∧ (¬ hasC k → (childD k l).1 = 0) := by
  by_cases hc : hasC k
  · have e : childD k l = wn l 0 1 1048576 := if_pos hc
    rw [e] at h ⊢
    obtain ⟨⟨v, p, z⟩, hU⟩ : ∃ U, wn l 0 1 1048576 = U := ⟨_, rfl⟩
    rw [hU] at h ⊢
    obtain rfl : z = 0 := h
    obtain ⟨q, rfl, l1, l2, l3, _, l4, l5⟩ := wn_at (a := 0) hB (by simpa using hU)
    exact ⟨q, rfl, l2, by rw [if_pos hc]; exact l3, fun _ => ⟨l4, l5⟩, fun h => absurd hc h⟩
  · have e : childD k l = (0, 0, 0) := if_neg hc
    rw [e]
    exact ⟨0, rfl, Nat.zero_le _, by rw [if_neg hc]; simp [seg], fun h => absurd h hc, fun _ => rfl⟩
theorem key_back {l : List Int} (hB : IsB l) (k : Int) (a : Nat) (ha : a ≤ l.length) (h : (keyD k l a).2.2 = 0) :
    ∃ q : Nat, (keyD k l a).2.1 = q ∧ a ≤ q ∧ q ≤ l.length ∧ (if hasK k then varL (keyD k l a).1 else []) = seg l a q ∧ (¬ hasK k → (keyD k l a).1 = 0) ∧ (-9223372036854775808 ≤ (keyD k l a).1 ∧ (keyD k l a).1 ≤ 9223372036854775807) := by
  by_cases hc : hasK k
  · have e : keyD k l a = unvL l a := if_pos hc
    rw [e] at h ⊢
    obtain ⟨q, l1, l2, l3, l4, l5⟩ := unv_at hB a h
    exact ⟨q, l1, by omega, l3, by rw [if_pos hc]; exact l4, fun h => absurd hc h, l5⟩
  · have e : keyD k l a = (0, (a : Int), 0) := if_neg hc
    rw [e]
    exact ⟨a, rfl, Nat.le_refl _, ha, by rw [if_neg hc]; simp [seg], fun _ => rfl, by omega⟩

theorem decC_back {l : List Int} (hB : IsB l) (k : Int) (h : (decC k l).2 = 0) : cellB k (decC k l).1 = l ∧ goodC k (decC k l).1 (decC k l).1.loc.length ∧ (decC k l).1.ok := by
  by_cases hk : isK k
  case neg => rw [show decC k l = (zeroC, 1) from if_pos hk] at h; exact absurd h (by decide)
  by_cases h1 : (childD k l).2.2 = 0
  case neg => rw [dec_child k l hk h1] at h; exact absurd h h1
  by_cases h2 : (keyD k l (childD k l).2.1).2.2 = 0
  case neg => rw [dec_key k l hk h1 h2] at h; exact absurd h h2
  by_cases h3 : (loadD k l (keyD k l (childD k l).2.1).2.1).e = 0
  case neg => rw [dec_load k l hk h1 h2 h3] at h; exact absurd h h3
  by_cases h4 : (loadD k l (keyD k l (childD k l).2.1).2.1).at_ = (l.length : Int)
  case neg => rw [dec_long k l hk h1 h2 h3 h4] at h; exact absurd h (by decide)
  rw [dec_ok k l hk h1 h2 h3 h4]
  obtain ⟨q1, c1, c2, c3, c4, c5⟩ := child_back hB k h1
  rw [c1] at h2 h3 h4 ⊢
  obtain ⟨q2, d1, d2, d3, d4, d5, d6⟩ := key_back hB k q1 c2 h2
  rw [d1] at h3 h4 ⊢
  have hch : -9223372036854775808 ≤ (childD k l).1 ∧ (childD k l).1 ≤ 9223372036854775807 := by
    by_cases hc : hasC k
    · have := c4 hc; unfold isP at this; omega
    · rw [c5 hc]; omega
  by_cases hk2 : k = 2
  · have e : loadD k l q2 = ⟨0, 0, [], q2, 0⟩ := if_pos hk2
    rw [e] at h4 ⊢
    have h4' : q2 = l.length := by simp only at h4; omega
    refine ⟨?_, ⟨hk, c4, c5, d5, fun hh => absurd hk2 hh, fun _ => ⟨rfl, rfl, rfl⟩⟩, ⟨d6, hch, by simp, by simp⟩⟩
    simp only [cellB, childB, keyB, loadB, if_pos hk2, List.append_nil]
    rw [c3, d4, seg_app l (Nat.zero_le _) d2, h4', seg_all]
  · have e : loadD k l q2 = payD l q2 := if_neg hk2
    rw [e] at h3 h4 ⊢
    obtain ⟨q3, e1, e2, e3, e4, e5⟩ := pay_back hB q2 d3 h3
    have e6 : q3 = l.length := by rw [e1] at h4; omega
    refine ⟨?_, ⟨hk, c4, c5, d5, fun _ => e5, fun hh => absurd hh hk2⟩, ⟨d6, hch, ⟨by have := e5.1; simp only; omega, by have := e5.2.1; simp only; omega⟩, ?_⟩⟩
    · simp only [cellB, childB, keyB, loadB, if_neg hk2, spillB]
      rw [c3, d4, e4, seg_app l d2 e2, seg_app l (Nat.zero_le _) (by omega), e6, seg_all]
    · simp only
      obtain ⟨_, _, g3, g4, g5⟩ := e5
      by_cases hm : ((payD l q2).loc.length : Int) = (payD l q2).total
      · rw [g4 hm]; omega
      · have := g5 (by omega); unfold isP at this; omega

end
end Go.Proofs.Ytoeaffmlolapnaa
