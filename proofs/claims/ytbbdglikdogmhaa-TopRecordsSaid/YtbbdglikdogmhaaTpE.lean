/- Walks: order.Sort's closure, slices.insertionSortCmpFunc. Printed by genTpE.py. -/
import Derived.Test.YtbbdglikdogmhaaTpD
namespace Go.Proofs.Ytbbdglikdogmhaa
open Go.RowKit
set_option maxRecDepth 100000
set_option linter.unusedVariables false
set_option linter.unusedSimpArgs false
set_option linter.unnecessarySimpa false

def hdr (r : Rw) : Value := .slice r.A r.n r.c
theorem RwO.ty {w w' : World} {r : Rw} {t : Nat} {T : TypeId} (h : RwO w r) (hty : TyAt w t T) (hT : T ≠ 49) (e : ∀ k, k ≠ t → k < w.heap.size → w'.heap[k]? = w.heap[k]?) : RwO w' r := by
  obtain ⟨⟨b, h1⟩, h2⟩ := h
  exact ⟨⟨b, h1.1, ownsRow_ty h1.2 hty hT e⟩, h2⟩
theorem Dt.at {w : World} {base g c : Nat} {L : List Rw} (h : Dt w base (some ⟨g, 0, none⟩) c L) {i : Nat} (hi : i < L.length) : w.cell? ⟨g, i, none⟩ = some (hdr (vw_ L i)) ∧ w.frozen? ⟨g, i, none⟩ = false := by
  refine ⟨?_, World.ownsRow.frozenAt h.1.2 i⟩
  have := World.ownsRow.cells h.1.2 (g := g) rfl i (hdr (vw_ L i)) (by simp [hdrC, hdr, vw_, hi])
  simpa [Addr.add_lit] using this
theorem Dt.ty {w : World} {base g c : Nat} {L : List Rw} (h : Dt w base (some ⟨g, 0, none⟩) c L) : TyAt w g 22 ∧ base ≤ g ∧ g < w.heap.size := row_ty h.1.2 g (by simp [blkO])
theorem Dt.swap {w : World} {base g c : Nat} {L : List Rw} (h : Dt w base (some ⟨g, 0, none⟩) c L) {j : Nat} (hj : j + 1 < L.length) : Dt ((w.setCell ⟨g, j + 1, none⟩ (hdr (vw_ L j))).setCell ⟨g, j, none⟩ (hdr (vw_ L (j + 1)))) base (some ⟨g, 0, none⟩) c (swp L (vw_ L j) (vw_ L (j + 1)) j) := by
  have hl : (swp L (vw_ L j) (vw_ L (j + 1)) j).length = L.length := by simp [swp]
  have h1 := (World.ownsRow.stored h.1.2 (j + 1) (hdr (vw_ L j))).1
  have h2 := (World.ownsRow.stored h1 j (hdr (vw_ L (j + 1)))).1
  have e : hdrC (swp L (vw_ L j) (vw_ L (j + 1)) j) = ((hdrC L).set (j + 1) (hdr (vw_ L j))).set j (hdr (vw_ L (j + 1))) := by simp [hdrC, swp, List.map_set, hdr]
  refine ⟨⟨by simp [hdrC], by rw [hl, e]; exact h2⟩, fun r hr => ?_⟩
  refine (h.2 r (swp_mem hj hr)).ty h.ty.1 (by decide) (fun k hk _ => ?_)
  rw [heap_setG_ne _ _ _ hk, heap_setG_ne _ _ _ hk]
theorem sort1_any (w : World) (gk : Nat) (C : Option Addr) (t e0 : Nat) (ks : List Ky) (x y : Rw) (hc : w.cell? ⟨gk, 0, none⟩ = some (.slice C t e0)) (ht : ks.length = t) (htm : t ≤ maxLen) (hC : RdKy w C ks) (hK : ∀ k ∈ ks, KyOk k) (hx : RwOk w x) (hy : RwOk w y) :
    Calls Try.prog 48 #[.slice x.A x.n x.c, .slice y.A y.n y.c, .pointer (some ⟨gk, 0, none⟩)] w fun e w' => e = .returned (.int .i64 (cmpK ks x.F y.F)) ∧ Below w.heap.size w w' := by
  have HE := Lib.hid (ocompare_any w x.A y.A C x.n x.c y.n y.c t e0 x.F y.F ks hx.1 hy.1 ht (Nat.le_trans hx.2.1 hx.2.2.1) (Nat.le_trans hy.2.1 hy.2.2.1) htm hx.2.2.2.1 hy.2.2.2.1 hC hx.2.2.2.2 hy.2.2.2.2 hK)
  clear ht hC hK hx hy
  go_enter Try.func48, Try.ntmps48
  go_wp2_with fail
  refine HE.out.mono ?_
  rintro e w1 ⟨rfl, hb1⟩
  clear HE
  go_wp2_with fail
  go_ret
  exact ⟨rfl, hb1⟩
def ltK (ks : List Ky) (x y : List Vl) : Bool := decide (cmpK ks x y < 0)
def SoRel (w : World) (B0 base g oc n : Nat) (ks : List Ky) (Z : List Rw) (iv : Value) (wr : World) : Prop :=
  ∃ (i k : Nat) (M : List Rw), 1 ≤ i ∧ iv = .int .i64 (i : Int) ∧ i ≤ n + 1 ∧ (i < n → i + k = n) ∧ (¬ i < n → k = 0) ∧ srt (ltK ks) k i M = Z ∧ M.length = n ∧ Dt wr base (some ⟨g, 0, none⟩) oc M ∧ Below B0 w wr
def SiRel (w : World) (B0 base g oc n i : Nat) (ks : List Ky) (Y : List Rw) (jv : Value) (wr : World) : Prop :=
  ∃ (j : Nat) (M : List Rw), j ≤ i ∧ jv = .int .i64 (j : Int) ∧ bub (ltK ks) j M = Y ∧ M.length = n ∧ Dt wr base (some ⟨g, 0, none⟩) oc M ∧ Below B0 w wr

set_option maxHeartbeats 64000000 in
theorem isort_any (w : World) (B0 base g oc n gk : Nat) (C : Option Addr) (t e0 : Nat) (ks : List Ky) (L : List Rw) (hL : L.length = n) (hn : n ≤ 100000) (hB : B0 ≤ base) (hkw : ∀ W : World, Below B0 w W → W.cell? ⟨gk, 0, none⟩ = some (.slice C t e0) ∧ RdKy W C ks) (ht : ks.length = t) (htm : t ≤ maxLen) (hK : ∀ k ∈ ks, KyOk k) (hd : Dt w base (some ⟨g, 0, none⟩) oc L)
    (R : Ending → World → Prop) (hR : R = fun e w' => e = .returned (.tuple #[]) ∧ Dt w' base (some ⟨g, 0, none⟩) oc (srt (ltK ks) (n - 1) 1 L) ∧ Below B0 w w') :
    Calls Try.prog 71 #[.slice (some ⟨g, 0, none⟩) n oc, .int .i64 0, .int .i64 (n : Int), .func (.func 48) #[] #[.pointer (some ⟨gk, 0, none⟩)]] w R := by
  have HR := Lib.hid hR; clear hR
  have HL := Lib.hid hL
  have HKW := Lib.hid hkw
  have HT := Lib.hid ht
  have HK := Lib.hid hK
  have HD := Lib.hid hd
  have hgB : B0 ≤ g := Nat.le_trans hB hd.ty.2.1
  have hf : ∀ (v u : Value) (w : World), (callFunc 48 #[v, u, .pointer (some ⟨gk, 0, none⟩)]).run Try.prog w = .ok (.enter 48 #[v, u, .pointer (some ⟨gk, 0, none⟩)]) w := fun _ _ _ => by rfl
  obtain ⟨Z, hZ⟩ : ∃ Z, srt (ltK ks) (n - 1) 1 L = Z := ⟨_, rfl⟩
  rw [hZ] at HR
  have HZ := Lib.hid hZ
  clear hL hkw ht hK hd hZ
  go_enter Try.func71, Try.ntmps71
  go_wp2_with fail
  go_loopw [8] (SoRel w B0 base g oc n ks Z) (fun i _ => n + 1 - (intOf i).toNat)
  case atStart => exact ⟨1, n - 1, L, Nat.le_refl _, rfl, by omega, fun h => by omega, fun h => by omega, HZ.out, HL.out, HD.out, Below.refl _ _⟩
  case round =>
    obtain ⟨i, k, M, hi1, rfl, hi2, hik, hik0, hz, hlen, hdt, hb⟩ := hrel
    have HZM := Lib.hid hz
    have HLM := Lib.hid hlen
    have HDM := Lib.hid hdt
    clear hz hlen hdt HD HZ HL
    by_cases hlt : i < n
    · have hlt' : (i : Int) < (n : Int) := by omega
      have hk := hik hlt
      obtain ⟨k', rfl⟩ : ∃ k', k = k' + 1 := ⟨k - 1, by omega⟩
      obtain ⟨Y, hY⟩ : ∃ Y, bub (ltK ks) i M = Y := ⟨_, rfl⟩
      have HY := Lib.hid hY
      have HNX := Lib.hid (show srt (ltK ks) k' (i + 1) Y = Z by have := HZM.out; unfold srt at this; rwa [hY] at this)
      have HK2 := Lib.hid (show i + k' + 1 = n by omega)
      clear hk hY hik hik0
      go_wp2_with fail
      go_loopw [9] (SiRel w B0 base g oc n i ks Y) (fun j _ => (intOf j).toNat)
      case atStart => exact ⟨i, M, Nat.le_refl _, rfl, HY.out, HLM.out, HDM.out, hb⟩
      case round =>
        rename World => wk
        obtain ⟨j, M2, hji, rfl, hbub, hlen2, hdt2, hbk⟩ := hrel
        have HBU := Lib.hid hbub
        have HL2 := Lib.hid hlen2
        have HD2 := Lib.hid hdt2
        clear hbub hlen2 hdt2
        go_upto_region 4 with fail
        cases j with
        | zero =>
          have HYM := Lib.hid (show M2 = Y from HBU.out)
          refine wp_region_held_drew (S := (fun W => Below wk.heap.size wk W)) (by kernel_rfl) ?_ (fun hHeld => ?_)
          · exact (Below.refl _ wk).drew
          refine' wpAnyH_take (i := 0) (oi := _) (v := _) rfl (by kernel_rfl) (by kernel_rfl) (by kernel_rfl) (fun _ _ _ h => h) (Or.inl ⟨by rfl, ?hz1⟩) (by assumption) ?rezt1
          case hz1 => (intro w' hSw; (try dsimp only at hSw); go_simp; try with_reducible rfl)
          try simp only [Act.put, List.setIfInBounds_toArray, List.set_cons_zero, List.set_cons_succ, List.getElem_toArray, List.getElem_cons_zero, List.getElem_cons_succ]
          refine' wpAnyH_take (i := 1) (oi := _) (v := _) rfl (by kernel_rfl) (by kernel_rfl) (by kernel_rfl) (fun _ _ _ h => h) (Or.inl ⟨by rfl, ?hz2⟩) (by assumption) ?rezt2
          case hz2 => (intro w' hSw; (try dsimp only at hSw); go_simp; try with_reducible rfl)
          try simp only [Act.put, List.setIfInBounds_toArray, List.set_cons_zero, List.set_cons_succ, List.getElem_toArray, List.getElem_cons_zero, List.getElem_cons_succ]
          refine' wpAnyH_take (i := 2) (oi := _) (v := _) rfl (by kernel_rfl) (by kernel_rfl) (by kernel_rfl) (fun _ _ _ h => h) (Or.inl ⟨by rfl, ?hz3⟩) (by assumption) ?rezt3
          case hz3 => (intro w' hSw; (try dsimp only at hSw); go_simp; try with_reducible rfl)
          try simp only [Act.put, List.setIfInBounds_toArray, List.set_cons_zero, List.set_cons_succ, List.getElem_toArray, List.getElem_cons_zero, List.getElem_cons_succ]
          refine' wpAnyH_take (i := 3) (oi := _) (v := _) rfl (by kernel_rfl) (by kernel_rfl) (by kernel_rfl) (fun _ _ _ h => h) (Or.inl ⟨by rfl, ?hz4⟩) (by assumption) ?rezt4
          case hz4 => (intro w' hSw; (try dsimp only at hSw); go_simp; try with_reducible rfl)
          try simp only [Act.put, List.setIfInBounds_toArray, List.set_cons_zero, List.set_cons_succ, List.getElem_toArray, List.getElem_cons_zero, List.getElem_cons_succ]
          refine' wpAnyH_take (i := 4) (oi := _) (v := _) rfl (by kernel_rfl) (by kernel_rfl) (by kernel_rfl) (fun _ _ _ h => h) (Or.inr ⟨by rfl, rfl⟩) (by assumption) ?rezn1
          try simp only [Act.put, List.setIfInBounds_toArray, List.set_cons_zero, List.set_cons_succ, List.getElem_toArray, List.getElem_cons_zero, List.getElem_cons_succ]
          refine' wpAnyH_take (i := 5) (oi := _) (v := _) rfl (by kernel_rfl) (by kernel_rfl) (by kernel_rfl) (fun _ _ _ h => h) (Or.inr ⟨by rfl, rfl⟩) (by assumption) ?rezn2
          try simp only [Act.put, List.setIfInBounds_toArray, List.set_cons_zero, List.set_cons_succ, List.getElem_toArray, List.getElem_cons_zero, List.getElem_cons_succ]
          refine' wpAnyH_take (i := 6) (oi := _) (v := _) rfl (by kernel_rfl) (by kernel_rfl) (by kernel_rfl) (fun _ _ _ h => h) (Or.inr ⟨by rfl, rfl⟩) (by assumption) ?rezn3
          try simp only [Act.put, List.setIfInBounds_toArray, List.set_cons_zero, List.set_cons_succ, List.getElem_toArray, List.getElem_cons_zero, List.getElem_cons_succ]
          refine' wpAnyH_take (i := 7) (oi := _) (v := _) rfl (by kernel_rfl) (by kernel_rfl) (by kernel_rfl) (fun _ _ _ h => h) (Or.inr ⟨by rfl, rfl⟩) (by assumption) ?rezn4
          try simp only [Act.put, List.setIfInBounds_toArray, List.set_cons_zero, List.set_cons_succ, List.getElem_toArray, List.getElem_cons_zero, List.getElem_cons_succ]
          refine' wpAnyH_take (i := 8) (oi := _) (v := _) rfl (by kernel_rfl) (by kernel_rfl) (by kernel_rfl) (fun _ _ _ h => h) (Or.inr ⟨by rfl, rfl⟩) (by assumption) ?rezn5
          try simp only [Act.put, List.setIfInBounds_toArray, List.set_cons_zero, List.set_cons_succ, List.getElem_toArray, List.getElem_cons_zero, List.getElem_cons_succ]
          refine' wpAnyH_take (i := 9) (oi := _) (v := _) rfl (by kernel_rfl) (by kernel_rfl) (by kernel_rfl) (fun _ _ _ h => h) (Or.inr ⟨by rfl, rfl⟩) (by assumption) ?rezn6
          try simp only [Act.put, List.setIfInBounds_toArray, List.set_cons_zero, List.set_cons_succ, List.getElem_toArray, List.getElem_cons_zero, List.getElem_cons_succ]
          refine' wpAnyH_take (i := 10) (oi := _) (v := _) rfl (by kernel_rfl) (by kernel_rfl) (by kernel_rfl) (fun _ _ _ h => h) (Or.inr ⟨by rfl, rfl⟩) (by assumption) ?rezn7
          try simp only [Act.put, List.setIfInBounds_toArray, List.set_cons_zero, List.set_cons_succ, List.getElem_toArray, List.getElem_cons_zero, List.getElem_cons_succ]
          refine' wpAnyH_take (i := 11) (oi := _) (v := _) rfl (by kernel_rfl) (by kernel_rfl) (by kernel_rfl) (fun _ _ _ h => h) (Or.inr ⟨by rfl, rfl⟩) (by assumption) ?rezn8
          try simp only [Act.put, List.setIfInBounds_toArray, List.set_cons_zero, List.set_cons_succ, List.getElem_toArray, List.getElem_cons_zero, List.getElem_cons_succ]
          refine' wpAnyH_take (i := 12) (oi := _) (v := _) rfl (by kernel_rfl) (by kernel_rfl) (by kernel_rfl) (fun _ _ _ h => h) (Or.inr ⟨by rfl, rfl⟩) (by assumption) ?rezn9
          try simp only [Act.put, List.setIfInBounds_toArray, List.set_cons_zero, List.set_cons_succ, List.getElem_toArray, List.getElem_cons_zero, List.getElem_cons_succ]
          refine' wpAnyH_take (i := 13) (oi := _) (v := _) rfl (by kernel_rfl) (by kernel_rfl) (by kernel_rfl) (fun _ _ _ h => h) (Or.inr ⟨by rfl, rfl⟩) (by assumption) ?rezn10
          try simp only [Act.put, List.setIfInBounds_toArray, List.set_cons_zero, List.set_cons_succ, List.getElem_toArray, List.getElem_cons_zero, List.getElem_cons_succ]
          refine' wpAnyH_take (i := 14) (oi := _) (v := _) rfl (by kernel_rfl) (by kernel_rfl) (by kernel_rfl) (fun _ _ _ h => h) (Or.inr ⟨by rfl, rfl⟩) (by assumption) ?rezn11
          try simp only [Act.put, List.setIfInBounds_toArray, List.set_cons_zero, List.set_cons_succ, List.getElem_toArray, List.getElem_cons_zero, List.getElem_cons_succ]
          refine' wpAnyH_take (i := 15) (oi := _) (v := _) rfl (by kernel_rfl) (by kernel_rfl) (by kernel_rfl) (fun _ _ _ h => h) (Or.inr ⟨by rfl, rfl⟩) (by assumption) ?rezn12
          try simp only [Act.put, List.setIfInBounds_toArray, List.set_cons_zero, List.set_cons_succ, List.getElem_toArray, List.getElem_cons_zero, List.getElem_cons_succ]
          refine' wpAnyH_take (i := 16) (oi := _) (v := _) rfl (by kernel_rfl) (by kernel_rfl) (by kernel_rfl) (fun _ _ _ h => h) (Or.inl ⟨by rfl, ?hz5⟩) (by assumption) ?rezt5
          case hz5 => (intro w' hSw; (try dsimp only at hSw); go_simp; try with_reducible rfl)
          try simp only [Act.put, List.setIfInBounds_toArray, List.set_cons_zero, List.set_cons_succ, List.getElem_toArray, List.getElem_cons_zero, List.getElem_cons_succ]
          refine wpAnyH_done (by kernel_rfl) ?_ _
          go_wp2_with fail
          go_roundw
          case rel => exact ⟨i + 1, k', M2, by omega, by go_num, by omega, fun h => by have := HK2.out; omega, fun h => by have := HK2.out; omega, by rw [HYM.out]; exact HNX.out, HL2.out, HD2.out.keep (Below.refl _ wk).drew, hbk.drew⟩
          case measure => simp [intOf]; omega
        | succ j =>
          have hjn : j + 1 < n := by omega
          have hjM : j + 1 < M2.length := by rw [HL2.out]; exact hjn
          have c1 := HD2.out.at hjM
          have c0 := HD2.out.at (i := j) (by omega)
          have HX := Lib.hid ((HD2.out.2 _ (vw_mem hjM)).ok)
          have HYo := Lib.hid ((HD2.out.2 _ (vw_mem (i := j) (by omega))).ok)
          have HB1 := Lib.hid (show bub (ltK ks) (j + 1) M2 = if ltK ks (vw_ M2 (j + 1)).F (vw_ M2 j).F then bub (ltK ks) j (swp M2 (vw_ M2 j) (vw_ M2 (j + 1)) j) else M2 from rfl)
          obtain ⟨x, hx⟩ : ∃ x, vw_ M2 (j + 1) = x := ⟨_, rfl⟩
          obtain ⟨y, hy⟩ : ∃ y, vw_ M2 j = y := ⟨_, rfl⟩
          rw [hx] at c1 HX HB1
          rw [hy] at c0 HYo HB1
          have HXE := Lib.hid hx
          have HYE := Lib.hid hy
          have hl : g < wk.heap.size := HD2.out.ty.2.2
          have F1 : ∀ W : World, Below wk.heap.size wk W → W.cell? ⟨g, j + 1, none⟩ = some (.slice x.A x.n x.c) := fun W hW => (hW.cell (p := ⟨g, j + 1, none⟩) hl).trans c1.1
          have F0 : ∀ W : World, Below wk.heap.size wk W → W.cell? ⟨g, j, none⟩ = some (.slice y.A y.n y.c) := fun W hW => (hW.cell (p := ⟨g, j, none⟩) hl).trans c0.1
          have hlt2 : (j : Int) + 1 < (n : Int) := by omega
          have hlt0 : (j : Int) < (n : Int) := by omega
          have i02 : (0 : Int) ≤ (j : Int) + 1 := by omega
          have i01 : (0 : Int) < (j : Int) + 1 := by omega
          have j0 : (0 : Int) ≤ (j : Int) := by omega
          have hjc : ((j + 1 : Nat) : Int) = (j : Int) + 1 := rfl
          have hwj : IntKind.i64.wrap (j : Int) = (j : Int) := IntWalk.i64_in _ (by omega)
          have HM1 := Lib.hid hjM
          clear hx hy c0 c1 hjM
          refine wp_region_held_drew (S := (fun W => Below wk.heap.size wk W)) (by kernel_rfl) ?_ (fun hHeld => ?_)
          · exact (Below.refl _ wk).drew
          refine' wpAnyH_take (i := 0) (oi := _) (v := _) rfl (by kernel_rfl) (by kernel_rfl) (by kernel_rfl) (fun _ _ _ h => h) (Or.inl ⟨by rfl, ?hz6⟩) (by assumption) ?rezt6
          case hz6 => (intro w' hSw; (try dsimp only at hSw); go_simp; try with_reducible rfl)
          try simp only [Act.put, List.setIfInBounds_toArray, List.set_cons_zero, List.set_cons_succ, List.getElem_toArray, List.getElem_cons_zero, List.getElem_cons_succ]
          refine' wpAnyH_take (i := 1) (oi := _) (v := _) rfl (by kernel_rfl) (by kernel_rfl) (by kernel_rfl) (fun _ _ _ h => h) (Or.inl ⟨by rfl, ?hz7⟩) (by assumption) ?rezt7
          case hz7 => (intro w' hSw; (try dsimp only at hSw); go_simp; try with_reducible rfl)
          try simp only [Act.put, List.setIfInBounds_toArray, List.set_cons_zero, List.set_cons_succ, List.getElem_toArray, List.getElem_cons_zero, List.getElem_cons_succ]
          refine' wpAnyH_take (i := 2) (oi := _) (v := _) rfl (by kernel_rfl) (by kernel_rfl) (by kernel_rfl) (fun _ _ _ h => h) (Or.inl ⟨by rfl, ?hz8⟩) (by assumption) ?rezt8
          case hz8 => (intro w' hSw; (try dsimp only at hSw); go_simp; try with_reducible rfl)
          try simp only [Act.put, List.setIfInBounds_toArray, List.set_cons_zero, List.set_cons_succ, List.getElem_toArray, List.getElem_cons_zero, List.getElem_cons_succ]
          refine' wpAnyH_take (i := 3) (oi := _) (v := _) rfl (by kernel_rfl) (by kernel_rfl) (by kernel_rfl) (fun _ _ _ h => h) (Or.inl ⟨by rfl, ?hz9⟩) (by assumption) ?rezt9
          case hz9 => (intro w' hSw; (try dsimp only at hSw); go_simp; try with_reducible rfl)
          try simp only [Act.put, List.setIfInBounds_toArray, List.set_cons_zero, List.set_cons_succ, List.getElem_toArray, List.getElem_cons_zero, List.getElem_cons_succ]
          refine' wpAnyH_take (i := 4) (oi := _) (v := _) rfl (by kernel_rfl) (by kernel_rfl) (by kernel_rfl) (fun _ _ _ h => h) (Or.inl ⟨by rfl, ?hz10⟩) (by assumption) ?rezt10
          case hz10 => (intro w' hSw; (try dsimp only at hSw); go_simp; try with_reducible rfl)
          try simp only [Act.put, List.setIfInBounds_toArray, List.set_cons_zero, List.set_cons_succ, List.getElem_toArray, List.getElem_cons_zero, List.getElem_cons_succ]
          refine' wpAnyH_take (i := 5) (oi := _) (v := _) rfl (by kernel_rfl) (by kernel_rfl) (by kernel_rfl) (fun _ _ _ h => h) (Or.inl ⟨by rfl, ?hz11⟩) (by assumption) ?rezt11
          case hz11 => (intro w' hSw; (try dsimp only at hSw); go_simp; try with_reducible rfl)
          try simp only [Act.put, List.setIfInBounds_toArray, List.set_cons_zero, List.set_cons_succ, List.getElem_toArray, List.getElem_cons_zero, List.getElem_cons_succ]
          refine' wpAnyH_take (i := 6) (oi := _) (v := _) rfl (by kernel_rfl) (by kernel_rfl) (by kernel_rfl) (fun _ _ _ h => h) (Or.inl ⟨by rfl, ?hz12⟩) (by assumption) ?rezt12
          case hz12 => (intro w' hSw; (try dsimp only at hSw); go_simp; try with_reducible rfl)
          try simp only [Act.put, List.setIfInBounds_toArray, List.set_cons_zero, List.set_cons_succ, List.getElem_toArray, List.getElem_cons_zero, List.getElem_cons_succ]
          refine' wpAnyH_take (i := 7) (oi := _) (v := _) rfl (by kernel_rfl) (by kernel_rfl) (by kernel_rfl) (fun _ _ _ h => h) (Or.inl ⟨by rfl, ?hz13⟩) (by assumption) ?rezt13
          case hz13 => (intro w' hSw; (try dsimp only at hSw); go_simp; try with_reducible rfl)
          try simp only [Act.put, List.setIfInBounds_toArray, List.set_cons_zero, List.set_cons_succ, List.getElem_toArray, List.getElem_cons_zero, List.getElem_cons_succ]
          refine' wpAnyH_take (i := 8) (oi := _) (v := _) rfl (by kernel_rfl) (by kernel_rfl) (by kernel_rfl) (fun _ _ _ h => h) (Or.inl ⟨by rfl, ?hz14⟩) (by assumption) ?rezt14
          case hz14 => (intro w' hSw; (try dsimp only at hSw); go_simp; try with_reducible rfl)
          try simp only [Act.put, List.setIfInBounds_toArray, List.set_cons_zero, List.set_cons_succ, List.getElem_toArray, List.getElem_cons_zero, List.getElem_cons_succ]
          refine' wpAnyH_take (i := 9) (oi := _) (v := _) rfl (by kernel_rfl) (by kernel_rfl) (by kernel_rfl) (fun _ _ _ h => h) (Or.inl ⟨by rfl, ?hz15⟩) (by assumption) ?rezt15
          case hz15 => (intro w' hSw; (try dsimp only at hSw); go_simp; try with_reducible rfl)
          try simp only [Act.put, List.setIfInBounds_toArray, List.set_cons_zero, List.set_cons_succ, List.getElem_toArray, List.getElem_cons_zero, List.getElem_cons_succ]
          refine' wpAnyH_take (i := 10) (oi := _) (v := _) rfl (by kernel_rfl) (by kernel_rfl) (by kernel_rfl) (fun _ _ _ h => h) (Or.inl ⟨by rfl, ?hz16⟩) (by assumption) ?rezt16
          case hz16 => (intro w' hSw; (try dsimp only at hSw); go_simp; try with_reducible rfl)
          try simp only [Act.put, List.setIfInBounds_toArray, List.set_cons_zero, List.set_cons_succ, List.getElem_toArray, List.getElem_cons_zero, List.getElem_cons_succ]
          refine' wpAnyH_take (i := 11) (oi := _) (v := _) rfl (by kernel_rfl) (by kernel_rfl) (by kernel_rfl) (fun _ _ _ h => h) (Or.inl ⟨by rfl, ?hz17⟩) (by assumption) ?rezt17
          case hz17 => (intro w' hSw; (try dsimp only at hSw); go_simp; try with_reducible rfl)
          try simp only [Act.put, List.setIfInBounds_toArray, List.set_cons_zero, List.set_cons_succ, List.getElem_toArray, List.getElem_cons_zero, List.getElem_cons_succ]
          refine' wpAnyH_take (i := 12) (oi := _) (v := _) rfl (by kernel_rfl) (by kernel_rfl) (by kernel_rfl) (fun _ _ _ h => h) (Or.inl ⟨by rfl, ?hz18⟩) (by assumption) ?rezt18
          case hz18 => (intro w' hSw; (try dsimp only at hSw); go_simp; try with_reducible rfl)
          try simp only [Act.put, List.setIfInBounds_toArray, List.set_cons_zero, List.set_cons_succ, List.getElem_toArray, List.getElem_cons_zero, List.getElem_cons_succ]
          refine' wpAnyH_take (i := 13) (oi := _) (v := _) rfl (by kernel_rfl) (by kernel_rfl) (by kernel_rfl) (fun _ _ _ h => h) (Or.inl ⟨by rfl, ?hz19⟩) (by assumption) ?rezt19
          case hz19 => (intro w' hSw; (try dsimp only at hSw); go_simp; try with_reducible rfl)
          try simp only [Act.put, List.setIfInBounds_toArray, List.set_cons_zero, List.set_cons_succ, List.getElem_toArray, List.getElem_cons_zero, List.getElem_cons_succ]
          refine wpAnyH_ready (rs := [14]) (by kernel_rfl) (by simp) ?_
          refine AllReadyH.cons (o := _) rfl (fun K hK => ?_) AllReadyH.nil
          go_simp
          have hbd : Below wk.heap.size wk wk.drew := (Below.refl _ wk).drew
          have hkw := HKW.out _ hbk.drew
          refine (sort1_any _ gk C t e0 ks x y hkw.1 HT.out htm hkw.2 HK.out (HX.out.keep hbd) (HYo.out.keep hbd)).mono ?_
          rintro e w3 ⟨rfl, hb3⟩
          have hb3k : Below wk.heap.size wk w3 := hbd.trans (hb3.mono hbd.size)
          clear hb3 hbd hkw
          obtain ⟨v, hv⟩ : ∃ v, cmpK ks x.F y.F = v := ⟨_, rfl⟩
          rw [hv]
          have HV := Lib.hid hv
          clear hv
          refine hK.out _ _ ?_ (fun hHeld => ?_)
          · exact hb3k
          clear hK K
          try simp only [Act.put, List.setIfInBounds_toArray, List.set_cons_zero, List.set_cons_succ, List.getElem_toArray, List.getElem_cons_zero, List.getElem_cons_succ]
          have HD3 := Lib.hid (HD2.out.keep hb3k)
          have hbw3 : Below B0 w w3 := hbk.trans (hb3k.mono (Nat.le_trans hgB (Nat.le_of_lt hl)))
          by_cases hneg : v < 0
          · refine' wpAnyH_take (i := 15) (oi := _) (v := _) rfl (by kernel_rfl) (by kernel_rfl) (by kernel_rfl) (fun _ _ _ h => h) (Or.inl ⟨by rfl, ?hz20⟩) (by assumption) ?rezt20
            case hz20 => (intro w' hSw; (try dsimp only at hSw); go_simp; try with_reducible rfl)
            try simp only [Act.put, List.setIfInBounds_toArray, List.set_cons_zero, List.set_cons_succ, List.getElem_toArray, List.getElem_cons_zero, List.getElem_cons_succ]
            refine' wpAnyH_take (i := 16) (oi := _) (v := _) rfl (by kernel_rfl) (by kernel_rfl) (by kernel_rfl) (fun _ _ _ h => h) (Or.inl ⟨by rfl, ?hz21⟩) (by assumption) ?rezt21
            case hz21 => (intro w' hSw; (try dsimp only at hSw); go_simp; try with_reducible rfl)
            try simp only [Act.put, List.setIfInBounds_toArray, List.set_cons_zero, List.set_cons_succ, List.getElem_toArray, List.getElem_cons_zero, List.getElem_cons_succ]
            refine wpAnyH_done (by kernel_rfl) ?_ _
            have HNB := Lib.hid (show bub (ltK ks) j (swp M2 (vw_ M2 j) (vw_ M2 (j + 1)) j) = Y by have := HBU.out; rw [HB1.out, if_pos (by unfold ltK; rw [HV.out]; exact decide_eq_true hneg)] at this; rw [HXE.out, HYE.out]; exact this)
            have HD4 := Lib.hid (HD3.out.swap HM1.out)
            rw [HXE.out, HYE.out] at HD4 HNB
            have c0 := (F0 w3 hb3k)
            have c1 := (F1 w3 hb3k)
            have f0 := (HD3.out.at (i := j) (by have := HM1.out; omega)).2
            have f1 := (HD3.out.at HM1.out).2
            have HLS := Lib.hid (show (swp M2 y x j).length = n by simp [swp, HL2.out])
            clear F0 F1
            go_upto_region 6 with fail
            refine wp_region_held_drew (S := (fun W => True)) (by kernel_rfl) ?_ (fun hHeld => ?_)
            · trivial
            refine' wpAnyH_take (i := 0) (oi := _) (v := _) rfl (by kernel_rfl) (by kernel_rfl) (by kernel_rfl) (fun _ _ _ h => h) (Or.inl ⟨by rfl, ?hz22⟩) (by assumption) ?rezt22
            case hz22 => (intro w' hSw; (try dsimp only at hSw); go_simp; try with_reducible rfl)
            try simp only [Act.put, List.setIfInBounds_toArray, List.set_cons_zero, List.set_cons_succ, List.getElem_toArray, List.getElem_cons_zero, List.getElem_cons_succ]
            refine' wpAnyH_take (i := 1) (oi := _) (v := _) rfl (by kernel_rfl) (by kernel_rfl) (by kernel_rfl) (fun _ _ _ h => h) (Or.inl ⟨by rfl, ?hz23⟩) (by assumption) ?rezt23
            case hz23 => (intro w' hSw; (try dsimp only at hSw); go_simp; try with_reducible rfl)
            try simp only [Act.put, List.setIfInBounds_toArray, List.set_cons_zero, List.set_cons_succ, List.getElem_toArray, List.getElem_cons_zero, List.getElem_cons_succ]
            refine' wpAnyH_take (i := 2) (oi := _) (v := _) rfl (by kernel_rfl) (by kernel_rfl) (by kernel_rfl) (fun _ _ _ h => h) (Or.inl ⟨by rfl, ?hz24⟩) (by assumption) ?rezt24
            case hz24 => (intro w' hSw; (try dsimp only at hSw); go_simp; try with_reducible rfl)
            try simp only [Act.put, List.setIfInBounds_toArray, List.set_cons_zero, List.set_cons_succ, List.getElem_toArray, List.getElem_cons_zero, List.getElem_cons_succ]
            refine' wpAnyH_take (i := 3) (oi := _) (v := _) rfl (by kernel_rfl) (by kernel_rfl) (by kernel_rfl) (fun _ _ _ h => h) (Or.inl ⟨by rfl, ?hz25⟩) (by assumption) ?rezt25
            case hz25 => (intro w' hSw; (try dsimp only at hSw); go_simp; try with_reducible rfl)
            try simp only [Act.put, List.setIfInBounds_toArray, List.set_cons_zero, List.set_cons_succ, List.getElem_toArray, List.getElem_cons_zero, List.getElem_cons_succ]
            refine' wpAnyH_take (i := 4) (oi := _) (v := _) rfl (by kernel_rfl) (by kernel_rfl) (by kernel_rfl) (fun _ _ _ h => h) (Or.inl ⟨by rfl, ?hz26⟩) (by assumption) ?rezt26
            case hz26 => (intro w' hSw; (try dsimp only at hSw); go_simp; try with_reducible rfl)
            try simp only [Act.put, List.setIfInBounds_toArray, List.set_cons_zero, List.set_cons_succ, List.getElem_toArray, List.getElem_cons_zero, List.getElem_cons_succ]
            refine' wpAnyH_take (i := 5) (oi := _) (v := _) rfl (by kernel_rfl) (by kernel_rfl) (by kernel_rfl) (fun _ _ _ h => h) (Or.inl ⟨by rfl, ?hz27⟩) (by assumption) ?rezt27
            case hz27 => (intro w' hSw; (try dsimp only at hSw); go_simp; try with_reducible rfl)
            try simp only [Act.put, List.setIfInBounds_toArray, List.set_cons_zero, List.set_cons_succ, List.getElem_toArray, List.getElem_cons_zero, List.getElem_cons_succ]
            refine' wpAnyH_take (i := 6) (oi := _) (v := _) rfl (by kernel_rfl) (by kernel_rfl) (by kernel_rfl) (fun _ _ _ h => h) (Or.inl ⟨by rfl, ?hz28⟩) (by assumption) ?rezt28
            case hz28 => (intro w' hSw; (try dsimp only at hSw); go_simp; try with_reducible rfl)
            try simp only [Act.put, List.setIfInBounds_toArray, List.set_cons_zero, List.set_cons_succ, List.getElem_toArray, List.getElem_cons_zero, List.getElem_cons_succ]
            refine' wpAnyH_take (i := 7) (oi := _) (v := _) rfl (by kernel_rfl) (by kernel_rfl) (by kernel_rfl) (fun _ _ _ h => h) (Or.inl ⟨by rfl, ?hz29⟩) (by assumption) ?rezt29
            case hz29 => (intro w' hSw; (try dsimp only at hSw); go_simp; try with_reducible rfl)
            try simp only [Act.put, List.setIfInBounds_toArray, List.set_cons_zero, List.set_cons_succ, List.getElem_toArray, List.getElem_cons_zero, List.getElem_cons_succ]
            refine' wpAnyH_take (i := 8) (oi := _) (v := _) rfl (by kernel_rfl) (by kernel_rfl) (by kernel_rfl) (fun _ _ _ h => h) (Or.inl ⟨by rfl, ?hz30⟩) (by assumption) ?rezt30
            case hz30 => (intro w' hSw; (try dsimp only at hSw); go_simp; try with_reducible rfl)
            try simp only [Act.put, List.setIfInBounds_toArray, List.set_cons_zero, List.set_cons_succ, List.getElem_toArray, List.getElem_cons_zero, List.getElem_cons_succ]
            refine' wpAnyH_take (i := 10) (oi := _) (v := _) rfl (by kernel_rfl) (by kernel_rfl) (by kernel_rfl) (fun _ _ _ h => h) (Or.inl ⟨by rfl, ?hz31⟩) (by assumption) ?rezt31
            case hz31 => (intro w' hSw; (try dsimp only at hSw); go_simp; try with_reducible rfl)
            try simp only [Act.put, List.setIfInBounds_toArray, List.set_cons_zero, List.set_cons_succ, List.getElem_toArray, List.getElem_cons_zero, List.getElem_cons_succ]
            refine' wpAnyH_take (i := 11) (oi := _) (v := _) rfl (by kernel_rfl) (by kernel_rfl) (by kernel_rfl) (fun _ _ _ h => h) (Or.inl ⟨by rfl, ?hz32⟩) (by assumption) ?rezt32
            case hz32 => (intro w' hSw; (try dsimp only at hSw); go_simp; try with_reducible rfl)
            try simp only [Act.put, List.setIfInBounds_toArray, List.set_cons_zero, List.set_cons_succ, List.getElem_toArray, List.getElem_cons_zero, List.getElem_cons_succ]
            refine' wpAnyH_take (i := 12) (oi := _) (v := _) rfl (by kernel_rfl) (by kernel_rfl) (by kernel_rfl) (fun _ _ _ h => h) (Or.inl ⟨by rfl, ?hz33⟩) (by assumption) ?rezt33
            case hz33 => (intro w' hSw; (try dsimp only at hSw); go_simp; try with_reducible rfl)
            try simp only [Act.put, List.setIfInBounds_toArray, List.set_cons_zero, List.set_cons_succ, List.getElem_toArray, List.getElem_cons_zero, List.getElem_cons_succ]
            refine wpAnyH_ready (rs := [9, 13]) (by kernel_rfl) (by simp) ?_
            refine AllReadyH.cons (o := _) rfl (fun K hK => ?_) (AllReadyH.cons (o := _) rfl (fun K hK => ?_) AllReadyH.nil)
            · go_simp
              refine hK.out _ _ ?_ (fun hHeld => ?_)
              · trivial
              clear hK K
              try simp only [Act.put, List.setIfInBounds_toArray, List.set_cons_zero, List.set_cons_succ, List.getElem_toArray, List.getElem_cons_zero, List.getElem_cons_succ]
              refine wpAnyH_ready (rs := [13]) (by kernel_rfl) (by simp) ?_
              refine AllReadyH.cons (o := _) rfl (fun K hK => ?_) AllReadyH.nil
              go_simp
              refine hK.out _ _ ?_ (fun hHeld => ?_)
              · trivial
              clear hK K
              try simp only [Act.put, List.setIfInBounds_toArray, List.set_cons_zero, List.set_cons_succ, List.getElem_toArray, List.getElem_cons_zero, List.getElem_cons_succ]
              refine' wpAnyH_take (i := 14) (oi := _) (v := _) rfl (by kernel_rfl) (by kernel_rfl) (by kernel_rfl) (fun _ _ _ h => h) (Or.inl ⟨by rfl, ?hz34⟩) (by assumption) ?rezt34
              case hz34 => (intro w' hSw; (try dsimp only at hSw); go_simp; try with_reducible rfl)
              try simp only [Act.put, List.setIfInBounds_toArray, List.set_cons_zero, List.set_cons_succ, List.getElem_toArray, List.getElem_cons_zero, List.getElem_cons_succ]
              refine wpAnyH_ready (rs := [15]) (by kernel_rfl) (by simp) ?_
              refine AllReadyH.cons (o := _) rfl (fun K hK => ?_) AllReadyH.nil
              go_simp
              refine hK.out _ _ ?_ (fun hHeld => ?_)
              · trivial
              clear hK K
              try simp only [Act.put, List.setIfInBounds_toArray, List.set_cons_zero, List.set_cons_succ, List.getElem_toArray, List.getElem_cons_zero, List.getElem_cons_succ]
              refine' wpAnyH_take (i := 16) (oi := _) (v := _) rfl (by kernel_rfl) (by kernel_rfl) (by kernel_rfl) (fun _ _ _ h => h) (Or.inl ⟨by rfl, ?hz35⟩) (by assumption) ?rezt35
              case hz35 => (intro w' hSw; (try dsimp only at hSw); go_simp; try with_reducible rfl)
              try simp only [Act.put, List.setIfInBounds_toArray, List.set_cons_zero, List.set_cons_succ, List.getElem_toArray, List.getElem_cons_zero, List.getElem_cons_succ]
              refine wpAnyH_ready (rs := [17]) (by kernel_rfl) (by simp) ?_
              refine AllReadyH.cons (o := _) rfl (fun K hK => ?_) AllReadyH.nil
              go_simp
              refine hK.out _ _ ?_ (fun hHeld => ?_)
              · trivial
              clear hK K
              try simp only [Act.put, List.setIfInBounds_toArray, List.set_cons_zero, List.set_cons_succ, List.getElem_toArray, List.getElem_cons_zero, List.getElem_cons_succ]
              refine wpAnyH_done (by kernel_rfl) ?_ _
              clear c0 c1 f0 f1
              go_wp2_with fail
              go_roundw
              case rel => exact ⟨j, swp M2 y x j, by omega, rfl, HNB.out, HLS.out, HD4.out, ((hbw3.drew).setCell hgB _).setCell hgB _⟩
              case measure => (simp [intOf] <;> omega)
            · go_simp
              refine hK.out _ _ ?_ (fun hHeld => ?_)
              · trivial
              clear hK K
              try simp only [Act.put, List.setIfInBounds_toArray, List.set_cons_zero, List.set_cons_succ, List.getElem_toArray, List.getElem_cons_zero, List.getElem_cons_succ]
              refine wpAnyH_ready (rs := [9]) (by kernel_rfl) (by simp) ?_
              refine AllReadyH.cons (o := _) rfl (fun K hK => ?_) AllReadyH.nil
              go_simp
              refine hK.out _ _ ?_ (fun hHeld => ?_)
              · trivial
              clear hK K
              try simp only [Act.put, List.setIfInBounds_toArray, List.set_cons_zero, List.set_cons_succ, List.getElem_toArray, List.getElem_cons_zero, List.getElem_cons_succ]
              refine' wpAnyH_take (i := 14) (oi := _) (v := _) rfl (by kernel_rfl) (by kernel_rfl) (by kernel_rfl) (fun _ _ _ h => h) (Or.inl ⟨by rfl, ?hz36⟩) (by assumption) ?rezt36
              case hz36 => (intro w' hSw; (try dsimp only at hSw); go_simp; try with_reducible rfl)
              try simp only [Act.put, List.setIfInBounds_toArray, List.set_cons_zero, List.set_cons_succ, List.getElem_toArray, List.getElem_cons_zero, List.getElem_cons_succ]
              refine wpAnyH_ready (rs := [15]) (by kernel_rfl) (by simp) ?_
              refine AllReadyH.cons (o := _) rfl (fun K hK => ?_) AllReadyH.nil
              go_simp
              refine hK.out _ _ ?_ (fun hHeld => ?_)
              · trivial
              clear hK K
              try simp only [Act.put, List.setIfInBounds_toArray, List.set_cons_zero, List.set_cons_succ, List.getElem_toArray, List.getElem_cons_zero, List.getElem_cons_succ]
              refine' wpAnyH_take (i := 16) (oi := _) (v := _) rfl (by kernel_rfl) (by kernel_rfl) (by kernel_rfl) (fun _ _ _ h => h) (Or.inl ⟨by rfl, ?hz37⟩) (by assumption) ?rezt37
              case hz37 => (intro w' hSw; (try dsimp only at hSw); go_simp; try with_reducible rfl)
              try simp only [Act.put, List.setIfInBounds_toArray, List.set_cons_zero, List.set_cons_succ, List.getElem_toArray, List.getElem_cons_zero, List.getElem_cons_succ]
              refine wpAnyH_ready (rs := [17]) (by kernel_rfl) (by simp) ?_
              refine AllReadyH.cons (o := _) rfl (fun K hK => ?_) AllReadyH.nil
              go_simp
              refine hK.out _ _ ?_ (fun hHeld => ?_)
              · trivial
              clear hK K
              try simp only [Act.put, List.setIfInBounds_toArray, List.set_cons_zero, List.set_cons_succ, List.getElem_toArray, List.getElem_cons_zero, List.getElem_cons_succ]
              refine wpAnyH_done (by kernel_rfl) ?_ _
              clear c0 c1 f0 f1
              go_wp2_with fail
              go_roundw
              case rel => exact ⟨j, swp M2 y x j, by omega, rfl, HNB.out, HLS.out, HD4.out, ((hbw3.drew).setCell hgB _).setCell hgB _⟩
              case measure => (simp [intOf] <;> omega)
          · refine' wpAnyH_take (i := 15) (oi := _) (v := _) rfl (by kernel_rfl) (by kernel_rfl) (by kernel_rfl) (fun _ _ _ h => h) (Or.inl ⟨by rfl, ?hz38⟩) (by assumption) ?rezt38
            case hz38 => (intro w' hSw; (try dsimp only at hSw); go_simp; try with_reducible rfl)
            try simp only [Act.put, List.setIfInBounds_toArray, List.set_cons_zero, List.set_cons_succ, List.getElem_toArray, List.getElem_cons_zero, List.getElem_cons_succ]
            refine' wpAnyH_take (i := 16) (oi := _) (v := _) rfl (by kernel_rfl) (by kernel_rfl) (by kernel_rfl) (fun _ _ _ h => h) (Or.inl ⟨by rfl, ?hz39⟩) (by assumption) ?rezt39
            case hz39 => (intro w' hSw; (try dsimp only at hSw); go_simp; try with_reducible rfl)
            try simp only [Act.put, List.setIfInBounds_toArray, List.set_cons_zero, List.set_cons_succ, List.getElem_toArray, List.getElem_cons_zero, List.getElem_cons_succ]
            refine wpAnyH_done (by kernel_rfl) ?_ _
            have HYM := Lib.hid (show M2 = Y by have := HBU.out; rw [HB1.out, if_neg (by unfold ltK; rw [HV.out, decide_eq_false hneg]; simp)] at this; exact this)
            clear F0 F1
            go_wp2_with fail
            go_roundw
            case rel => exact ⟨i + 1, k', M2, by omega, by go_num, by omega, fun h => by have := HK2.out; omega, fun h => by have := HK2.out; omega, by rw [HYM.out]; exact HNX.out, HL2.out, HD3.out, hbw3⟩
            case measure => simp [intOf]; omega
    · have HKZ := Lib.hid (hik0 hlt)
      have HFIN := Lib.hid (show M = Z by have := HZM.out; rw [HKZ.out] at this; exact this)
      have hlt' : ¬ (i : Int) < (n : Int) := by omega
      clear hik hik0
      go_wp2_with fail
      first | go_end0 | skip
      rw [HR.out]
      exact ⟨rfl, by rw [← HFIN.out]; exact HDM.out, hb⟩
end Go.Proofs.Ytbbdglikdogmhaa
