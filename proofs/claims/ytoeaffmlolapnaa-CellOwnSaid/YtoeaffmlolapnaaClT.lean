/- Walk: CellOwn. Printed by genCo.py. -/
import Derived.Test.YtoeaffmlolapnaaClQ
import Derived.Deep.RegionHeld3
namespace Go.Proofs.Ytoeaffmlolapnaa
open Go.RowKit
set_option maxRecDepth 100000
set_option linter.unusedVariables false
set_option linter.unusedSimpArgs false

theorem cell_same {w w' : World} {a : Addr} (h : w'.heap[a.block]? = w.heap[a.block]?) : w'.cell? a = w.cell? a := by unfold World.cell?; rw [h]
theorem ClAt.same {w w' : World} {g : Nat} {c : Cl} {A : Option Addr} {n d : Nat} (h : ClAt w g c A n d) (e : w'.heap[g]? = w.heap[g]?) : ClAt w' g c A n d := by
  obtain ⟨k0, k1, k2, k3, k4⟩ := h
  exact ⟨(cell_same e).trans k0, (cell_same e).trans k1, (cell_same e).trans k2, (cell_same e).trans k3, (cell_same e).trans k4⟩
theorem OwnB.same {w w' : World} {base : Nat} {A : Option Addr} {n c : Nat} {l : List Int} (h : OwnB w base A n c l) (e : ∀ x, A = some x → w'.heap[x.block]? = w.heap[x.block]?) : OwnB w' base A n c l := by
  refine ⟨h.1, ?_⟩
  rcases h.2 with hv | ⟨g, cap, cur, hv, hbg, hg, rest⟩
  · exact .inl hv
  · have hA : A = some ⟨g, 0, none⟩ := by injection hv
    exact .inr ⟨g, cap, cur, hv, hbg, (e _ hA).trans hg, rest⟩
theorem Rd.apartB {w w' : World} {A : Option Addr} {b : Nat} {l : List Int} (h : Rd w A l) (hA : BlkA A b w) (e : ∀ i, b ≤ i → w'.heap[i]? = w.heap[i]?) : Rd w' A l := by
  rcases h with rfl | ⟨g, o, rfl, hc⟩
  · exact .inl rfl
  · exact .inr ⟨g, o, rfl, fun i hi => (cell_same (a := ⟨g, o + i, none⟩) (e _ (hA _ rfl).1)).trans (hc i hi)⟩
/-- All but one slice's block is as it was. -/
def But (A : Option Addr) (w w' : World) : Prop := w'.heap.size = w.heap.size ∧ ∀ q, (∀ x, A = some x → q ≠ x.block) → w'.heap[q]? = w.heap[q]?
theorem But.refl (A : Option Addr) (w : World) : But A w w := ⟨rfl, fun _ _ => rfl⟩
theorem But.set {A : Option Addr} {g : Nat} {w w' : World} (h : But A w w') (hA : A = some ⟨g, 0, none⟩) (j : Nat) (v : Value) : But A w (w'.setCell ⟨g, j, none⟩ v) := by
  refine ⟨?_, fun q hq => ?_⟩
  · have e : (w'.setCell ⟨g, j, none⟩ v).heap.size = w'.heap.size := by simp only [World.setCell, Array.size_modify]
    rw [e]; exact h.1
  · exact (heapC_ne w' ⟨g, j, none⟩ v (hq ⟨g, 0, none⟩ hA)).trans (h.2 q hq)

theorem frozen_same {w w' : World} {a : Addr} (h : w'.heap[a.block]? = w.heap[a.block]?) : w'.frozen? a = w.frozen? a := by unfold World.frozen?; rw [h]
theorem shared_rest {F : Nat → Nat → Option Addr → Nat → World → Prop} {G : Prop} (act : Nat → Nat → Option Addr → Nat → Act) (K : Act → World → Prop) (h : ∀ gA gO D dc W, F gA gO D dc W → K (act gA gO D dc) W)
    (g : (∀ gA gO D dc W, F gA gO D dc W → K (act gA gO D dc) W) → G) : G := g h
/-- The cell of its own stands. -/
def OwnF7 (w3 W : World) (gO : Nat) (c : Cl) (D : Option Addr) (n dc : Nat) : Prop := ClAt W gO c D n dc ∧ OwnB W w3.heap.size D n dc c.loc ∧ Below w3.heap.size w3 W ∧ w3.heap.size ≤ gO ∧ ∀ x, D = some x → x.block ≠ gO

set_option maxHeartbeats 16000000 in
theorem cellOwn_walk (w : World) (k : Int) (c : Cl) (A : Option Addr) (n d : Nat) (_hk : -9223372036854775808 ≤ k ∧ k ≤ 9223372036854775807) (hc : c.ok) (hl : c.loc.length = n) (hnd : n ≤ d) (hd : d ≤ maxLen) (hA : Rd w A c.loc) (hB : IsB c.loc) :
    Calls Try.prog 9 #[.int .i64 k, c.val A n d] w (CYes w) := by
  have HC := Lib.hid hc; clear hc
  have HL := Lib.hid hl; clear hl
  have HB := Lib.hid hB; clear hB
  have HND := Lib.hid hnd
  have HD := Lib.hid hd
  have hn9 : (n : Int) ≤ 9223372036854775807 := by unfold maxLen at hd; omega
  obtain ⟨W1, hW1⟩ : ∃ W, W = w.alloc (.cells #[.int .i64 c.key, .int .i64 c.child, .int .i64 c.total, .slice A n d, .int .i64 c.spill] 55) := ⟨_, rfl⟩
  have hbW : Below w.heap.size w W1 := by rw [hW1]; exact (Below.refl _ _).alloc (Nat.le_refl _) _
  have hsW : W1.heap.size = w.heap.size + 1 := by rw [hW1]; simp
  have hat : ClAt W1 w.heap.size c A n d := by rw [hW1]; exact ⟨by simp [go_sem], by simp [go_sem], by simp [go_sem], by simp [go_sem], by simp [go_sem]⟩
  have HT := Lib.hid hat; clear hat
  have HA := Lib.hid hA; clear hA
  have HW := Lib.hid hW1
  unfold Cl.val
  go_enter Try.func9, Try.ntmps9
  go_upto_region 1 with fail
  rw [← hW1]
  clear hW1 HW
  iterate 4 go_step
  refine wp_load_cl rfl _ rfl w.heap.size c A n d rfl HT.out ?_
  go_wp2_with fail
  refine (rcencC_any _ k c A n d HC.out HND.out HD.out HL.out (HA.out.keep hbW)).mono ?_
  rintro e w2 ⟨A2, n2, c2, rfl, hown2, hb2⟩
  obtain ⟨z, hz⟩ : ∃ z, checkZ k c n = z := ⟨_, rfl⟩
  have HZ := Lib.hid hz
  rw [hz]
  clear hz
  obtain ⟨L, hL⟩ : ∃ L, encC k c = L := ⟨_, rfl⟩
  have HE := Lib.hid hL
  rw [hL] at hown2
  clear hL
  have HO2 := Lib.hid hown2; clear hown2
  have hB2 : Below w.heap.size w w2 := hbW.trans (hb2.mono (by omega))
  have hz2 := hb2.size
  have HT2 := Lib.hid (HT.out.keep hb2)
  have HK2 := Lib.hid (HO2.out.blkA (b := w.heap.size + 1) (by omega))
  clear hb2 HT
  go_wp2_with fail
  refine (cawake_any _).mono ?_
  rintro e w3 ⟨rfl, hb3⟩
  have hB3 : Below w.heap.size w w3 := hB2.trans (hb3.mono hB2.size)
  have hz3 := hb3.size
  have HT3 := Lib.hid (HT2.out.keep hb3)
  have HO3 := Lib.hid (HO2.out.keep hb3)
  have HK3 := Lib.hid (HK2.out.keep hb3)
  clear hb3 HT2 HO2 HK2
  obtain ⟨k0, k1, k2, k3, k4⟩ := HT3.out
  by_cases hg : 20000 < n
  · go_wp2_with fail
    refine (cawake_any _).mono ?_
    rintro e w4 ⟨rfl, hb4⟩
    have hB4 := hB3.trans (hb4.mono hB3.size)
    go_wp2
    go_ret
    exact ⟨rfl, hB4⟩
  by_cases h0 : z = 0
  rotate_left
  · have h0b : (z != 0) = true := by simp [h0]
    go_wp2_with fail
    refine (cawake_any _).mono ?_
    rintro e w4 ⟨rfl, hb4⟩
    have hB4 := hB3.trans (hb4.mono hB3.size)
    go_wp2
    go_ret
    exact ⟨rfl, hB4⟩
  subst h0
  have hgood : goodC k c n := by
    have := HZ.out
    unfold checkZ at this
    by_cases hg2 : goodC k c n
    · exact hg2
    · rw [if_neg hg2] at this; exact absurd this (by decide)
  have hLc : cellB k c = L := by
    have := HE.out
    unfold encC at this
    rwa [if_pos (by rw [HL.out]; exact hgood)] at this
  have hdec : decC k L = (c, 0) := by rw [← hLc]; exact decC_put k c HC.out (by rw [HL.out]; exact hgood)
  have hLB : IsB L := by rw [← hLc]; exact cellB_isB k c HB.out
  have HDEC := Lib.hid hdec
  have HLB := Lib.hid hLB
  clear hdec hgood hLc hLB
  go_upto_region 4 with fail
  have K0 : ∀ W : World, Below w3.heap.size w3 W → W.cell? ⟨w.heap.size, 0, none⟩ = some (.int .i64 c.key) := fun W hW => (HT3.out.keep hW).1
  have K1 : ∀ W : World, Below w3.heap.size w3 W → W.cell? ⟨w.heap.size, 1, none⟩ = some (.int .i64 c.child) := fun W hW => (HT3.out.keep hW).2.1
  have K2 : ∀ W : World, Below w3.heap.size w3 W → W.cell? ⟨w.heap.size, 2, none⟩ = some (.int .i64 c.total) := fun W hW => (HT3.out.keep hW).2.2.1
  have K3 : ∀ W : World, Below w3.heap.size w3 W → W.cell? ⟨w.heap.size, 3, none⟩ = some (.slice A n d) := fun W hW => (HT3.out.keep hW).2.2.2.1
  have K4 : ∀ W : World, Below w3.heap.size w3 W → W.cell? ⟨w.heap.size, 4, none⟩ = some (.int .i64 c.spill) := fun W hW => (HT3.out.keep hW).2.2.2.2
  clear k0 k1 k2 k3 k4
  refine shared_rest (F := fun _ gO D dc W => OwnF7 w3 W gO c D n dc) ?act ?K ?rest (fun hrest => ?main)
  case main =>
    refine wp_region_held_drew (S := (fun W => Below w3.heap.size w3 W)) (by kernel_rfl) ?_ (fun hHeld => ?_)
    · exact (Below.refl _ w3).drew
    refine' wpAnyH_take (i := 0) (oi := _) (v := _) rfl (by kernel_rfl) (by kernel_rfl) (by kernel_rfl) (fun _ _ _ h => h) (Or.inl ⟨by rfl, ?hz1⟩) (by assumption) ?rezt1
    case hz1 => (intro w' hSw; (try dsimp only at hSw); go_simp; try with_reducible rfl)
    try simp only [Act.put, List.setIfInBounds_toArray, List.set_cons_zero, List.set_cons_succ, List.getElem_toArray, List.getElem_cons_zero, List.getElem_cons_succ]
    refine' wpAnyH_take (i := 1) (oi := _) (v := _) rfl (by kernel_rfl) (by kernel_rfl) (by kernel_rfl) (fun _ _ _ h => h) (Or.inl ⟨by rfl, ?hz2⟩) (by assumption) ?rezt2
    case hz2 => (intro w' hSw; (try dsimp only at hSw); go_simp; try with_reducible rfl)
    try simp only [Act.put, List.setIfInBounds_toArray, List.set_cons_zero, List.set_cons_succ, List.getElem_toArray, List.getElem_cons_zero, List.getElem_cons_succ]
    refine' wpAnyH_take (i := 2) (oi := _) (v := _) rfl (by kernel_rfl) (by kernel_rfl) (by kernel_rfl) (fun _ _ _ h => h) (Or.inl ⟨by rfl, ?hz3⟩) (by assumption) ?rezt3
    case hz3 => (intro w' hSw; (try dsimp only at hSw); go_simp; try with_reducible rfl)
    try simp only [Act.put, List.setIfInBounds_toArray, List.set_cons_zero, List.set_cons_succ, List.getElem_toArray, List.getElem_cons_zero, List.getElem_cons_succ]
    refine' wpAnyH_take (i := 3) (oi := _) (v := _) rfl (by kernel_rfl) (by kernel_rfl) (by kernel_rfl) (fun _ _ _ h => h) (Or.inl ⟨by rfl, ?hz4⟩) (by assumption) ?rezt4
    case hz4 => (intro w' hSw; (try dsimp only at hSw); go_simp; try with_reducible rfl)
    try simp only [Act.put, List.setIfInBounds_toArray, List.set_cons_zero, List.set_cons_succ, List.getElem_toArray, List.getElem_cons_zero, List.getElem_cons_succ]
    refine' wpAnyH_take (i := 4) (oi := _) (v := _) rfl (by kernel_rfl) (by kernel_rfl) (by kernel_rfl) (fun _ _ _ h => h) (Or.inl ⟨by rfl, ?hz5⟩) (by assumption) ?rezt5
    case hz5 => (intro w' hSw; (try dsimp only at hSw); go_simp; try with_reducible rfl)
    try simp only [Act.put, List.setIfInBounds_toArray, List.set_cons_zero, List.set_cons_succ, List.getElem_toArray, List.getElem_cons_zero, List.getElem_cons_succ]
    refine' wpAnyH_take (i := 5) (oi := _) (v := _) rfl (by kernel_rfl) (by kernel_rfl) (by kernel_rfl) (fun _ _ _ h => h) (Or.inl ⟨by rfl, ?hz6⟩) (by assumption) ?rezt6
    case hz6 => (intro w' hSw; (try dsimp only at hSw); go_simp; try with_reducible rfl)
    try simp only [Act.put, List.setIfInBounds_toArray, List.set_cons_zero, List.set_cons_succ, List.getElem_toArray, List.getElem_cons_zero, List.getElem_cons_succ]
    refine' wpAnyH_take (i := 7) (oi := _) (v := _) rfl (by kernel_rfl) (by kernel_rfl) (by kernel_rfl) (fun _ _ _ h => h) (Or.inl ⟨by rfl, ?hz7⟩) (by assumption) ?rezt7
    case hz7 => (intro w' hSw; (try dsimp only at hSw); go_simp; try with_reducible rfl)
    try simp only [Act.put, List.setIfInBounds_toArray, List.set_cons_zero, List.set_cons_succ, List.getElem_toArray, List.getElem_cons_zero, List.getElem_cons_succ]
    refine' wpAnyH_take (i := 8) (oi := _) (v := _) rfl (by kernel_rfl) (by kernel_rfl) (by kernel_rfl) (fun _ _ _ h => h) (Or.inl ⟨by rfl, ?hz8⟩) (by assumption) ?rezt8
    case hz8 => (intro w' hSw; (try dsimp only at hSw); go_simp; try with_reducible rfl)
    try simp only [Act.put, List.setIfInBounds_toArray, List.set_cons_zero, List.set_cons_succ, List.getElem_toArray, List.getElem_cons_zero, List.getElem_cons_succ]
    refine' wpAnyH_take (i := 10) (oi := _) (v := _) rfl (by kernel_rfl) (by kernel_rfl) (by kernel_rfl) (fun _ _ _ h => h) (Or.inl ⟨by rfl, ?hz9⟩) (by assumption) ?rezt9
    case hz9 => (intro w' hSw; (try dsimp only at hSw); go_simp; try with_reducible rfl)
    try simp only [Act.put, List.setIfInBounds_toArray, List.set_cons_zero, List.set_cons_succ, List.getElem_toArray, List.getElem_cons_zero, List.getElem_cons_succ]
    refine' wpAnyH_take (i := 11) (oi := _) (v := _) rfl (by kernel_rfl) (by kernel_rfl) (by kernel_rfl) (fun _ _ _ h => h) (Or.inl ⟨by rfl, ?hz10⟩) (by assumption) ?rezt10
    case hz10 => (intro w' hSw; (try dsimp only at hSw); go_simp; try with_reducible rfl)
    try simp only [Act.put, List.setIfInBounds_toArray, List.set_cons_zero, List.set_cons_succ, List.getElem_toArray, List.getElem_cons_zero, List.getElem_cons_succ]
    refine wpAnyH_ready (rs := [6, 13]) (by kernel_rfl) (by simp) ?_
    refine AllReadyH.cons (o := _) rfl (fun K hK => ?_) (AllReadyH.cons (o := _) rfl (fun K hK => ?_) (AllReadyH.nil))
    · go_simp
      refine hK.out _ _ ?_ (fun hHeld => ?_)
      · exact ((Below.refl _ w3).alloc (Nat.le_refl _) _).drew
      clear hK K
      try simp only [Act.put, List.setIfInBounds_toArray, List.set_cons_zero, List.set_cons_succ, List.getElem_toArray, List.getElem_cons_zero, List.getElem_cons_succ]
      obtain ⟨W4, hW4⟩ : ∃ W, W = (w3.alloc (.cells #[] 5)).drew := ⟨_, rfl⟩
      have hb4 : Below w3.heap.size w3 W4 := by rw [hW4]; exact ((Below.refl _ w3).alloc (Nat.le_refl _) _).drew
      have HOL := Lib.hid (show OwnB W4 w3.heap.size (some ⟨w3.heap.size, 0, none⟩) 0 0 [] by rw [hW4]; exact (OwnB.lit w3 #[] [] _ 0 rfl rfl (Nat.le_refl _) (by decide)).drew)
      have HS4 := Lib.hid (show W4.heap.size = w3.heap.size + 1 by rw [hW4]; simp [World.drew])
      rw [← hW4]
      clear hW4
      have hz4 := hb4.size
      refine wpAnyH_ready (rs := [9, 13]) (by kernel_rfl) (by simp) ?_
      refine AllReadyH.cons (o := _) rfl (fun K hK => ?_) (AllReadyH.cons (o := _) rfl (fun K hK => ?_) (AllReadyH.nil))
      · refine step_append rfl (.tmp 41) (.tmp 43) rfl w3.heap.size (some ⟨w3.heap.size, 0, none⟩) 0 0 [] rfl HOL.out A n d c.loc rfl HL.out (HA.out.keep (hB3.trans (hb4.mono hB3.size))) (by omega) (by omega) ?_
        intro D dc w5 hown5 _ hb5'
        simp only [List.nil_append, Nat.zero_add] at hown5 ⊢
        have hb5 : Below w3.heap.size w3 w5 := hb4.trans hb5'
        have HO5 := Lib.hid hown5
        have hz5 := hb5.size
        have HDK := Lib.hid (show BlkA D w3.heap.size w5 from HO5.out.blkA (Nat.le_refl _))
        clear hown5 hb5' HOL
        refine hK.out _ _ ?_ (fun hHeld => ?_)
        · exact hb5
        clear hK K
        try simp only [Act.put, List.setIfInBounds_toArray, List.set_cons_zero, List.set_cons_succ, List.getElem_toArray, List.getElem_cons_zero, List.getElem_cons_succ]
        refine' wpAnyH_take (i := 12) (oi := _) (v := _) rfl (by kernel_rfl) (by kernel_rfl) (by kernel_rfl) (fun _ _ _ h => h) (Or.inl ⟨by rfl, ?hz11⟩) (by assumption) ?rezt11
        case hz11 => (intro w' hSw; (try dsimp only at hSw); go_simp; try with_reducible rfl)
        try simp only [Act.put, List.setIfInBounds_toArray, List.set_cons_zero, List.set_cons_succ, List.getElem_toArray, List.getElem_cons_zero, List.getElem_cons_succ]
        refine wpAnyH_ready (rs := [13]) (by kernel_rfl) (by simp) ?_
        refine AllReadyH.cons (o := _) rfl (fun K hK => ?_) AllReadyH.nil
        go_simp
        refine hK.out _ _ ?_ (fun hHeld => ?_)
        · exact hb5.alloc hz5 _
        clear hK K
        try simp only [Act.put, List.setIfInBounds_toArray, List.set_cons_zero, List.set_cons_succ, List.getElem_toArray, List.getElem_cons_zero, List.getElem_cons_succ]
        obtain ⟨W6, hW6⟩ : ∃ W, W = w5.alloc (.cells #[.int .i64 0, .int .i64 0, .int .i64 0, .slice none 0 0, .int .i64 0] 55) := ⟨_, rfl⟩
        have hb6 : Below w3.heap.size w3 W6 := by rw [hW6]; exact hb5.alloc hz5 _
        have HO6 := Lib.hid (show OwnB W6 w3.heap.size D n dc c.loc by rw [hW6]; exact HO5.out.alloc _)
        have HTH := Lib.hid (show W6.there w5.heap.size 0 5 by
          rw [hW6]
          intro j hj
          rcases (by omega : j = 0 ∨ j = 1 ∨ j = 2 ∨ j = 3 ∨ j = 4) with rfl | rfl | rfl | rfl | rfl <;> simp [go_sem])
        have HNE := Lib.hid (show ∀ x, D = some x → x.block ≠ w5.heap.size from fun x hx => by have := (HDK.out x hx).2; omega)
        rw [← hW6]
        clear hW6 HO5
        refine wpAnyH_ready (rs := [14]) (by kernel_rfl) (by simp) ?_
        refine AllReadyH.cons (o := _) rfl (fun K hK => ?_) AllReadyH.nil
        rw [if_pos (by kernel_rfl)]
        refine wp_store_mid 55 _ _ rfl w5.heap.size 0 (clC c D n dc).toArray rfl rfl HTH.out size_cl (all_oneCell_toArray (by intro v hv; simp [clC] at hv; rcases hv with rfl | rfl | rfl | rfl | rfl <;> rfl)) ?_
        refine hK.out _ _ ?_ (fun hHeld => ?_)
        · exact below_setCellsC hb6 (by omega) _ _
        clear hK K
        try simp only [Act.put, List.setIfInBounds_toArray, List.set_cons_zero, List.set_cons_succ, List.getElem_toArray, List.getElem_cons_zero, List.getElem_cons_succ]
        refine wpAnyH_done (by kernel_rfl) ?_ _
        obtain ⟨W7, hW7⟩ : ∃ W, W = W6.setCells w5.heap.size 0 (clC c D n dc) := ⟨_, rfl⟩
        have HC7 := Lib.hid (show ClAt W7 (w5.heap.size) c D n dc by rw [hW7]; exact ClAt.stored HTH.out c D n dc)
        have hb7 : Below w3.heap.size w3 W7 := by rw [hW7]; exact below_setCellsC hb6 (by omega) _ _
        have HO7 := Lib.hid (show OwnB W7 w3.heap.size D n dc c.loc by rw [hW7]; exact HO6.out.same (fun x hx => heap_setCellsC _ _ _ _ _ (HNE.out x hx)))
        have HW7 := Lib.hid hW7
        first | rw [← hW7] | (rw [show (clC c D n dc).toArray.toList = clC c D n dc from rfl, ← hW7])
        clear hW7 HW7
        obtain ⟨gO, hgO⟩ : ∃ g, g = w5.heap.size := ⟨_, rfl⟩
        obtain ⟨gA, hgA⟩ : ∃ g, g = w3.heap.size := ⟨_, rfl⟩
        rw [← hgO] at HC7
        have HNE7 := Lib.hid (show ∀ x, D = some x → x.block ≠ gO by rw [hgO]; exact HNE.out)
        have hF : OwnF7 w3 W7 gO c D n dc := ⟨HC7.out, HO7.out, hb7, by omega, HNE7.out⟩
        have HF := Lib.hid hF
        first | rw [← hgO, ← hgA] | rw [← hgA, ← hgO]
        exact hrest gA gO D dc W7 HF.out
      · go_simp
        refine hK.out _ _ ?_ (fun hHeld => ?_)
        · exact hb4.alloc hz4 _
        clear hK K
        try simp only [Act.put, List.setIfInBounds_toArray, List.set_cons_zero, List.set_cons_succ, List.getElem_toArray, List.getElem_cons_zero, List.getElem_cons_succ]
        obtain ⟨W5, hW5⟩ : ∃ W, W = W4.alloc (.cells #[.int .i64 0, .int .i64 0, .int .i64 0, .slice none 0 0, .int .i64 0] 55) := ⟨_, rfl⟩
        have hb5 : Below w3.heap.size w3 W5 := by rw [hW5]; exact hb4.alloc hz4 _
        have hs5 : W5.heap.size = w3.heap.size + 2 := by rw [hW5]; simp [HS4.out]
        have HOL5 := Lib.hid (show OwnB W5 w3.heap.size (some ⟨w3.heap.size, 0, none⟩) 0 0 [] by rw [hW5]; exact HOL.out.alloc _)
        have hobj : W5.heap[W4.heap.size]? = some (.cells #[.int .i64 0, .int .i64 0, .int .i64 0, .slice none 0 0, .int .i64 0] 55 (0, 0)) := by rw [hW5]; first | exact Array.getElem?_push_size | (show (W4.heap.push _)[W4.heap.size]? = _; simp only [Array.getElem?_push_size]) | simp only [World.alloc, Array.getElem?_push_size]
        have HTH := Lib.hid (show W5.there W4.heap.size 0 5 by
          rw [hW5]
          intro j hj
          rcases (by omega : j = 0 ∨ j = 1 ∨ j = 2 ∨ j = 3 ∨ j = 4) with rfl | rfl | rfl | rfl | rfl <;> simp [go_sem])
        rw [← hW5]
        clear hW5 HOL
        refine wpAnyH_ready (rs := [9]) (by kernel_rfl) (by simp) ?_
        refine AllReadyH.cons (o := _) rfl (fun K hK => ?_) AllReadyH.nil
        refine step_append rfl (.tmp 41) (.tmp 43) rfl w3.heap.size (some ⟨w3.heap.size, 0, none⟩) 0 0 [] rfl HOL5.out A n d c.loc rfl HL.out (HA.out.keep (hB3.trans (hb5.mono hB3.size))) (by omega) (by omega) ?_
        intro D dc w6 hown6 hgr6 hb6'
        simp only [List.nil_append, Nat.zero_add] at hown6 ⊢
        have hb6 : Below w3.heap.size w3 w6 := hb5.trans hb6'
        have HO6 := Lib.hid hown6
        have hsame : w6.heap[W4.heap.size]? = W5.heap[W4.heap.size]? := hgr6.block _ (by have := HS4.out; omega) (by have := HS4.out; simp [Value.ownBlock]; omega)
        have HNE := Lib.hid (show ∀ x, D = some x → x.block ≠ W4.heap.size from fun x hx hq => by
          rcases HO6.out.form with ⟨hn0, _⟩ | ⟨g, cur, hg1, hg2, hg3, _⟩
          · rw [hn0] at hx; cases hx
          · rw [hg1] at hx; injection hx with hx; subst hx
            rw [show g = W4.heap.size from hq, hsame, hobj] at hg3
            injection hg3 with hg3; injection hg3 with _ ht _; exact absurd ht (by decide))
        have HTH6 := Lib.hid (show w6.there W4.heap.size 0 5 from fun j hj => by
          have := HTH.out j hj
          exact ⟨by rw [cell_same (w := W5) (by exact hsame)]; exact this.1, by rw [frozen_same (w := W5) (by exact hsame)]; exact this.2⟩)
        clear hown6 hb6' hgr6 HOL5 hobj hsame
        refine hK.out _ _ ?_ (fun hHeld => ?_)
        · exact hb6
        clear hK K
        try simp only [Act.put, List.setIfInBounds_toArray, List.set_cons_zero, List.set_cons_succ, List.getElem_toArray, List.getElem_cons_zero, List.getElem_cons_succ]
        refine' wpAnyH_take (i := 12) (oi := _) (v := _) rfl (by kernel_rfl) (by kernel_rfl) (by kernel_rfl) (fun _ _ _ h => h) (Or.inl ⟨by rfl, ?hz12⟩) (by assumption) ?rezt12
        case hz12 => (intro w' hSw; (try dsimp only at hSw); go_simp; try with_reducible rfl)
        try simp only [Act.put, List.setIfInBounds_toArray, List.set_cons_zero, List.set_cons_succ, List.getElem_toArray, List.getElem_cons_zero, List.getElem_cons_succ]
        refine wpAnyH_ready (rs := [14]) (by kernel_rfl) (by simp) ?_
        refine AllReadyH.cons (o := _) rfl (fun K hK => ?_) AllReadyH.nil
        rw [if_pos (by kernel_rfl)]
        refine wp_store_mid 55 _ _ rfl W4.heap.size 0 (clC c D n dc).toArray rfl rfl HTH6.out size_cl (all_oneCell_toArray (by intro v hv; simp [clC] at hv; rcases hv with rfl | rfl | rfl | rfl | rfl <;> rfl)) ?_
        refine hK.out _ _ ?_ (fun hHeld => ?_)
        · exact below_setCellsC hb6 (by omega) _ _
        clear hK K
        try simp only [Act.put, List.setIfInBounds_toArray, List.set_cons_zero, List.set_cons_succ, List.getElem_toArray, List.getElem_cons_zero, List.getElem_cons_succ]
        refine wpAnyH_done (by kernel_rfl) ?_ _
        obtain ⟨W7, hW7⟩ : ∃ W, W = w6.setCells W4.heap.size 0 (clC c D n dc) := ⟨_, rfl⟩
        have HC7 := Lib.hid (show ClAt W7 (W4.heap.size) c D n dc by rw [hW7]; exact ClAt.stored HTH6.out c D n dc)
        have hb7 : Below w3.heap.size w3 W7 := by rw [hW7]; exact below_setCellsC hb6 (by omega) _ _
        have HO7 := Lib.hid (show OwnB W7 w3.heap.size D n dc c.loc by rw [hW7]; exact HO6.out.same (fun x hx => heap_setCellsC _ _ _ _ _ (HNE.out x hx)))
        have HW7 := Lib.hid hW7
        first | rw [← hW7] | (rw [show (clC c D n dc).toArray.toList = clC c D n dc from rfl, ← hW7])
        clear hW7 HW7
        obtain ⟨gO, hgO⟩ : ∃ g, g = W4.heap.size := ⟨_, rfl⟩
        obtain ⟨gA, hgA⟩ : ∃ g, g = w3.heap.size := ⟨_, rfl⟩
        rw [← hgO] at HC7
        have HNE7 := Lib.hid (show ∀ x, D = some x → x.block ≠ gO by rw [hgO]; exact HNE.out)
        have hF : OwnF7 w3 W7 gO c D n dc := ⟨HC7.out, HO7.out, hb7, by omega, HNE7.out⟩
        have HF := Lib.hid hF
        first | rw [← hgO, ← hgA] | rw [← hgA, ← hgO]
        exact hrest gA gO D dc W7 HF.out
    · go_simp
      refine hK.out _ _ ?_ (fun hHeld => ?_)
      · exact ((Below.refl _ w3).alloc (Nat.le_refl _) _).drew
      clear hK K
      try simp only [Act.put, List.setIfInBounds_toArray, List.set_cons_zero, List.set_cons_succ, List.getElem_toArray, List.getElem_cons_zero, List.getElem_cons_succ]
      obtain ⟨W4, hW4⟩ : ∃ W, W = (w3.alloc (.cells #[.int .i64 0, .int .i64 0, .int .i64 0, .slice none 0 0, .int .i64 0] 55)).drew := ⟨_, rfl⟩
      have hb4 : Below w3.heap.size w3 W4 := by rw [hW4]; exact ((Below.refl _ w3).alloc (Nat.le_refl _) _).drew
      have HS4 := Lib.hid (show W4.heap.size = w3.heap.size + 1 by rw [hW4]; simp [World.drew])
      have hX : (w3.alloc (.cells #[.int .i64 0, .int .i64 0, .int .i64 0, .slice none 0 0, .int .i64 0] 55)).there w3.heap.size 0 5 := by
        intro j hj
        rcases (by omega : j = 0 ∨ j = 1 ∨ j = 2 ∨ j = 3 ∨ j = 4) with rfl | rfl | rfl | rfl | rfl <;> simp [go_sem]
      have HTH := Lib.hid (show W4.there w3.heap.size 0 5 by rw [hW4]; exact hX)
      clear hX
      rw [← hW4]
      clear hW4
      have hz4 := hb4.size
      refine wpAnyH_ready (rs := [6]) (by kernel_rfl) (by simp) ?_
      refine AllReadyH.cons (o := _) rfl (fun K hK => ?_) AllReadyH.nil
      go_simp
      refine hK.out _ _ ?_ (fun hHeld => ?_)
      · exact hb4.alloc hz4 _
      clear hK K
      try simp only [Act.put, List.setIfInBounds_toArray, List.set_cons_zero, List.set_cons_succ, List.getElem_toArray, List.getElem_cons_zero, List.getElem_cons_succ]
      obtain ⟨W5, hW5⟩ : ∃ W, W = W4.alloc (.cells #[] 5) := ⟨_, rfl⟩
      have hb5 : Below w3.heap.size w3 W5 := by rw [hW5]; exact hb4.alloc hz4 _
      have hb45 : Below W4.heap.size W4 W5 := by rw [hW5]; exact (Below.refl _ _).alloc (Nat.le_refl _) _
      have HOL := Lib.hid (show OwnB W5 W4.heap.size (some ⟨W4.heap.size, 0, none⟩) 0 0 [] by rw [hW5]; exact OwnB.lit W4 #[] [] _ 0 rfl rfl (Nat.le_refl _) (by decide))
      have hz5 := hb45.size
      have hs4 := HS4.out
      rw [← hW5]
      clear hW5
      refine wpAnyH_ready (rs := [9]) (by kernel_rfl) (by simp) ?_
      refine AllReadyH.cons (o := _) rfl (fun K hK => ?_) AllReadyH.nil
      refine step_append rfl (.tmp 41) (.tmp 43) rfl W4.heap.size (some ⟨W4.heap.size, 0, none⟩) 0 0 [] rfl HOL.out A n d c.loc rfl HL.out (HA.out.keep (hB3.trans (hb5.mono hB3.size))) (by omega) (by omega) ?_
      intro D dc w6 hown6 _ hb6'
      simp only [List.nil_append, Nat.zero_add] at hown6 ⊢
      have hb6 : Below w3.heap.size w3 w6 := hb5.trans (hb6'.mono (by omega))
      have HO6 := Lib.hid (hown6.mono (base' := w3.heap.size) (by omega))
      have HDK := Lib.hid (show BlkA D W4.heap.size w6 from hown6.blkA (Nat.le_refl _))
      have HNE := Lib.hid (show ∀ x, D = some x → x.block ≠ w3.heap.size from fun x hx => by have := (HDK.out x hx).1; omega)
      have HTH6 := Lib.hid (show w6.there w3.heap.size 0 5 from there_keepC HTH.out (hb45.trans hb6') (by omega))
      clear hown6 hb6' HOL HDK
      refine hK.out _ _ ?_ (fun hHeld => ?_)
      · exact hb6
      clear hK K
      try simp only [Act.put, List.setIfInBounds_toArray, List.set_cons_zero, List.set_cons_succ, List.getElem_toArray, List.getElem_cons_zero, List.getElem_cons_succ]
      refine' wpAnyH_take (i := 12) (oi := _) (v := _) rfl (by kernel_rfl) (by kernel_rfl) (by kernel_rfl) (fun _ _ _ h => h) (Or.inl ⟨by rfl, ?hz13⟩) (by assumption) ?rezt13
      case hz13 => (intro w' hSw; (try dsimp only at hSw); go_simp; try with_reducible rfl)
      try simp only [Act.put, List.setIfInBounds_toArray, List.set_cons_zero, List.set_cons_succ, List.getElem_toArray, List.getElem_cons_zero, List.getElem_cons_succ]
      refine wpAnyH_ready (rs := [14]) (by kernel_rfl) (by simp) ?_
      refine AllReadyH.cons (o := _) rfl (fun K hK => ?_) AllReadyH.nil
      rw [if_pos (by kernel_rfl)]
      refine wp_store_mid 55 _ _ rfl w3.heap.size 0 (clC c D n dc).toArray rfl rfl HTH6.out size_cl (all_oneCell_toArray (by intro v hv; simp [clC] at hv; rcases hv with rfl | rfl | rfl | rfl | rfl <;> rfl)) ?_
      refine hK.out _ _ ?_ (fun hHeld => ?_)
      · exact below_setCellsC hb6 (by omega) _ _
      clear hK K
      try simp only [Act.put, List.setIfInBounds_toArray, List.set_cons_zero, List.set_cons_succ, List.getElem_toArray, List.getElem_cons_zero, List.getElem_cons_succ]
      refine wpAnyH_done (by kernel_rfl) ?_ _
      obtain ⟨W7, hW7⟩ : ∃ W, W = w6.setCells w3.heap.size 0 (clC c D n dc) := ⟨_, rfl⟩
      have HC7 := Lib.hid (show ClAt W7 (w3.heap.size) c D n dc by rw [hW7]; exact ClAt.stored HTH6.out c D n dc)
      have hb7 : Below w3.heap.size w3 W7 := by rw [hW7]; exact below_setCellsC hb6 (by omega) _ _
      have HO7 := Lib.hid (show OwnB W7 w3.heap.size D n dc c.loc by rw [hW7]; exact HO6.out.same (fun x hx => heap_setCellsC _ _ _ _ _ (HNE.out x hx)))
      have HW7 := Lib.hid hW7
      first | rw [← hW7] | (rw [show (clC c D n dc).toArray.toList = clC c D n dc from rfl, ← hW7])
      clear hW7 HW7
      obtain ⟨gO, hgO⟩ : ∃ g, g = w3.heap.size := ⟨_, rfl⟩
      obtain ⟨gA, hgA⟩ : ∃ g, g = W4.heap.size := ⟨_, rfl⟩
      rw [← hgO] at HC7
      have HNE7 := Lib.hid (show ∀ x, D = some x → x.block ≠ gO by rw [hgO]; exact HNE.out)
      have hF : OwnF7 w3 W7 gO c D n dc := ⟨HC7.out, HO7.out, hb7, by omega, HNE7.out⟩
      have HF := Lib.hid hF
      first | rw [← hgO, ← hgA] | rw [← hgA, ← hgO]
      exact hrest gA gO D dc W7 HF.out
  case rest =>
    intro gA gO D dc W7 hF
    obtain ⟨f1, f2, f3, f4, f5⟩ := hF
    have HC7 := Lib.hid f1
    have HO7 := Lib.hid f2
    have HNE := Lib.hid f5
    have hz7 : gO < W7.heap.size := World.block_lt_of_cell? _ _ f1.1
    have hB7 : Below w.heap.size w W7 := hB3.trans (f3.mono hB3.size)
    have HT7 := Lib.hid (HT3.out.keep f3)
    have HOb := Lib.hid (HO3.out.keep f3)
    have HDK := Lib.hid (f2.blkA (b := w3.heap.size) (Nat.le_refl _))
    have hz37 := f3.size
    clear HT3 HO3 f1 f2 f3 f5 K0 K1 K2 K3 K4
    -- the decoded cell
    try simp only []
    go_wp2_with fail
    refine (cdecC_any _ k A2 n2 c2 L HOb.out.len HOb.out.cap.1 HOb.out.cap.2 HOb.out.rd HLB.out).mono ?_
    rintro e w8 ⟨A8, n8, c8, rfl, hown8, hb8⟩
    rw [HDEC.out] at hown8
    rw [HDEC.out]
    have hB8 : Below w.heap.size w w8 := hB7.trans (hb8.mono hB7.size)
    have HO8 := Lib.hid hown8
    have HT8 := Lib.hid (HT7.out.keep hb8)
    have HOb8 := Lib.hid (HOb.out.keep hb8)
    have HC8 := Lib.hid (HC7.out.keep hb8)
    have HD8 := Lib.hid (HO7.out.keep hb8)
    have hz8 := hb8.size
    clear hb8 hown8 HT7 HOb HC7 HO7
    obtain ⟨W9, hW9⟩ : ∃ W, W = w8.alloc (.cells #[.int .i64 0, .int .i64 0, .int .i64 0, .slice none 0 0, .int .i64 0] 55) := ⟨_, rfl⟩
    have hb9 : Below w8.heap.size w8 W9 := by rw [hW9]; exact (Below.refl _ _).alloc (Nat.le_refl _) _
    have HTH := Lib.hid (show W9.there w8.heap.size 0 5 by
      rw [hW9]
      intro j hj
      rcases (by omega : j = 0 ∨ j = 1 ∨ j = 2 ∨ j = 3 ∨ j = 4) with rfl | rfl | rfl | rfl | rfl <;> simp [go_sem])
    have HW := Lib.hid hW9
    dsimp only
    iterate 13 go_step
    rw [← hW9]
    clear hW9 HW
    refine wp_store_cl rfl _ _ rfl w8.heap.size c A8 n8 c8 rfl rfl HTH.out ?_
    obtain ⟨W10, hW10⟩ : ∃ W, W = W9.setCells w8.heap.size 0 (clC c A8 n8 c8) := ⟨_, rfl⟩
    have hb10 : Below w8.heap.size w8 W10 := by rw [hW10]; exact below_setCellsC hb9 (Nat.le_refl _) _ _
    have HE10 := Lib.hid (show ClAt W10 w8.heap.size c A8 n8 c8 by rw [hW10]; exact ClAt.stored HTH.out c A8 n8 c8)
    have hz10 : w8.heap.size < W10.heap.size := World.block_lt_of_cell? _ _ HE10.out.1
    rw [← hW10]
    clear hW10 hb9 HTH
    have hB10 := hB8.trans (hb10.mono hB8.size)
    have HO10 := Lib.hid (HO8.out.keep hb10)
    have HT10 := Lib.hid (HT8.out.keep hb10)
    have HOb10 := Lib.hid (HOb8.out.keep hb10)
    have HC10 := Lib.hid (HC8.out.keep hb10)
    have HD10 := Lib.hid (HD8.out.keep hb10)
    clear HO8 HT8 HOb8 HC8 HD8 hb10
    -- the cell of its own, encoded
    go_upto_region 6 with fail
    iterate 4 go_step
    refine wp_load_cl rfl _ rfl gO c D n dc rfl HC10.out ?_
    go_wp2_with fail
    refine (cencC_any _ k c D n dc HC.out HD10.out.cap.1 HD10.out.cap.2 HL.out HD10.out.rd).mono ?_
    rintro e w11 ⟨Ax, nx, cx, rfl, a1, a2, a3, a4, hb11, a5⟩
    rw [HZ.out]
    rw [HE.out] at a1 a4
    have HRx := Lib.hid a4
    have HNx := Lib.hid a1
    have HKx := Lib.hid a5
    have hnx : nx ≤ 9223372036854775807 := by unfold maxLen at a3; omega
    have hB11 := hB10.trans (hb11.mono hB10.size)
    have HO11 := Lib.hid (HO10.out.keep hb11)
    have HT11 := Lib.hid (HT10.out.keep hb11)
    have HOb11 := Lib.hid (HOb10.out.keep hb11)
    have HC11 := Lib.hid (HC10.out.keep hb11)
    have HD11 := Lib.hid (HD10.out.keep hb11)
    have HE11 := Lib.hid (HE10.out.keep hb11)
    have hz11 := hb11.size
    clear a1 a2 a3 a4 a5 hb11 HO10 HT10 HOb10 HC10 HD10 HE10
    have hn2 : n2 ≤ 9223372036854775807 := by have := HOb11.out.cap; unfold maxLen at this; omega
    go_wp2_with fail
    go_loopw [12] (fun i wr => ∃ (j : Nat) (l' : List Int), j ≤ n2 ∧ i = .int .i64 j ∧ Hid (OwnB wr (w.heap.size + 1) A2 n2 c2 l') ∧ Hid (But A2 w11 wr) ∧ Below w.heap.size w wr) (fun i _ => n2 - (intOf i).toNat)
    case atStart => exact ⟨0, L, Nat.zero_le _, rfl, Lib.hid (HOb11.out.mono (by omega)), Lib.hid (But.refl _ _), hB11⟩
    case round =>
      obtain ⟨j, l', hj, rfl, HOj, HBj, hBj⟩ := hrel
      by_cases hlt : j < n2
      · obtain ⟨g2, hA2, q1, q2⟩ := HOj.out.at (by omega)
        subst hA2
        have cj := HOj.out.cellAt j hlt
        have fj := HOj.out.frozenAt j
        have i0 : (0 : Int) ≤ (j : Int) := by omega
        have i1 : (j : Int) < (n2 : Int) := by omega
        go_wp2_with fail
        go_roundw
        case rel => exact ⟨j + 1, _, by omega, by go_num, Lib.hid (HOj.out.stored j _), Lib.hid (HBj.out.set rfl j _), hBj.setCell (by simp only; omega) _⟩
        case measure => simp [intOf]; omega
      · have hd2 : ∀ x, A2 = some x → w.heap.size + 1 ≤ x.block ∧ x.block < w3.heap.size := HK3.out
        have HC12 := Lib.hid (HC11.out.same (HBj.out.2 gO (fun x hx => by have := hd2 x hx; omega)))
        have HT12 := Lib.hid (HT11.out.same (HBj.out.2 w.heap.size (fun x hx => by have := hd2 x hx; omega)))
        have HE12 := Lib.hid (HE11.out.same (HBj.out.2 w8.heap.size (fun x hx => by have := hd2 x hx; omega)))
        have HD12 := Lib.hid (HD11.out.apartC (fun i hi => HBj.out.2 i (fun x hx => by have := hd2 x hx; omega)))
        have HO12 := Lib.hid (HO11.out.apartC (fun i hi => HBj.out.2 i (fun x hx => by have := hd2 x hx; omega)))
        have HR12 := Lib.hid (HRx.out.apartB HKx.out (fun i hi => HBj.out.2 i (fun x hx => by have := hd2 x hx; omega)))
        have hs12 : wr.heap.size = w11.heap.size := HBj.out.1
        clear HC11 HT11 HE11 HD11 HO11 HRx HBj HOj hd2
        have hdk : ∀ x, D = some x → w3.heap.size ≤ x.block ∧ x.block < W7.heap.size := HDK.out
        have HDD := Lib.hid hdk
        clear hdk
        have e3 := HC12.out.2.2.2.1
        go_wp2_with fail
        go_loopw [13] (fun i wr2 => ∃ (j : Nat) (l' : List Int), j ≤ n ∧ i = .int .i64 j ∧ Hid (OwnB wr2 w3.heap.size D n dc l') ∧ Hid (But D wr wr2) ∧ Below w.heap.size w wr2) (fun i _ => n - (intOf i).toNat)
        case atStart => exact ⟨0, c.loc, Nat.zero_le _, rfl, Lib.hid HD12.out, Lib.hid (But.refl _ _), hBj⟩
        case round =>
          rename_i wr2
          obtain ⟨j, l', hj, rfl, HOj, HBj, hBj⟩ := hrel
          have HC13 := Lib.hid (HC12.out.same (HBj.out.2 gO (fun x hx => Ne.symm (HNE.out x hx))))
          have e3' := HC13.out.2.2.2.1
          clear e3
          by_cases hlt : j < n
          · obtain ⟨g2, hA2, q1, q2⟩ := HOj.out.at (by omega)
            subst hA2
            have cj := HOj.out.cellAt j hlt
            have fj := HOj.out.frozenAt j
            have i0 : (0 : Int) ≤ (j : Int) := by omega
            have i1 : (j : Int) < (n : Int) := by omega
            go_wp2_with fail
            go_roundw
            case rel => exact ⟨j + 1, _, by omega, by go_num, Lib.hid (HOj.out.stored j _), Lib.hid (HBj.out.set rfl j _), hBj.setCell (by simp only; omega) _⟩
            case measure => simp [intOf]; omega
          · have HT13 := Lib.hid (HT12.out.same (HBj.out.2 w.heap.size (fun x hx => by have := HDD.out x hx; omega)))
            have HE13 := Lib.hid (HE12.out.same (HBj.out.2 w8.heap.size (fun x hx => by have := HDD.out x hx; omega)))
            have HO13 := Lib.hid (HO12.out.apartC (fun i hi => HBj.out.2 i (fun x hx => by have := HDD.out x hx; omega)))
            have HR13 := Lib.hid (HR12.out.apartB (b := W10.heap.size) (fun x hx => ⟨(HKx.out x hx).1, by rw [hs12]; exact (HKx.out x hx).2⟩) (fun i hi => HBj.out.2 i (fun x hx => by have := HDD.out x hx; omega)))
            clear HT12 HE12 HO12 HR12 HBj HOj HC12
            go_upto_region 15 with fail
            iterate 4 go_step
            refine wp_load_cl rfl _ rfl w.heap.size c A n d rfl HT13.out ?_
            go_wp2_with fail
            refine (rcencC_any _ k c A n d HC.out HND.out HD.out HL.out (HA.out.keep hBj)).mono ?_
            rintro e w14 ⟨Ay, ny, cy, rfl, hown14, hb14⟩
            rw [HE.out] at hown14
            have HO14 := Lib.hid hown14
            have hB14 := hBj.trans (hb14.mono hBj.size)
            have HT14 := Lib.hid (HT13.out.keep hb14)
            have HE14 := Lib.hid (HE13.out.keep hb14)
            have HR14 := Lib.hid (HR13.out.keep hb14)
            have HX14 := Lib.hid (HO13.out.keep hb14)
            have h88 : n8 ≤ maxLen := Nat.le_trans HX14.out.cap.1 HX14.out.cap.2
            clear hown14 hb14 HT13 HE13 HR13 HO13
            go_upto_region 16 with fail
            iterate 20 go_step
            refine wp_load_clg (by kernel_rfl) _ rfl w8.heap.size c A8 n8 c8 rfl HE14.out ?_
            refine wp_load_clg (by kernel_rfl) _ rfl w.heap.size c A n d rfl HT14.out ?_
            go_wp2_with fail
            refine (sameC_any _ c c A8 A n8 c8 n d HX14.out.len HL.out h88 HX14.out.rd (HA.out.keep hB14)).mono ?_
            rintro e w15 ⟨rfl, hb15⟩
            simp only [decide_true]
            have hB15 := hB14.trans (hb15.mono hB14.size)
            have HR15 := Lib.hid (HR14.out.keep hb15)
            have HO15 := Lib.hid (HO14.out.keep hb15)
            go_wp2_with fail
            refine (same1_any _ Ax Ay nx cx ny cy L L HNx.out HO15.out.len hnx HR15.out HO15.out.rd).mono ?_
            rintro e w16 ⟨rfl, hb16⟩
            simp only [beqL_self]
            have hB16 := hB15.trans (hb16.mono hB15.size)
            go_wp2
            go_ret
            exact ⟨rfl, hB16⟩
end Go.Proofs.Ytoeaffmlolapnaa
