/- Walk: tomeref18.pay . -/
import Derived.Test.YtoeaffmlolapnaaClK
import Derived.Test.YtoeaffmlolapnaaClM
import Derived.Test.YtoeaffmlolapnaaSli
namespace Go.Proofs.Ytoeaffmlolapnaa
open Go.RowKit
set_option maxRecDepth 100000

theorem results_cell_tmp2 {fn : Func} {p t u : Tmp} {ty : TypeId} (h : fn.results = #[.cell p ty, .tmp t, .tmp u]) (tmps : Array Value) (P : Program) (w : World) :
    (results fn tmps).run P w =
      ((asAddr (tmps.getD p undef)).run P w).andThen fun a w₁ => ((loadVar ty a).run P w₁).andThen fun v w₂ => .ok (.tuple #[v, tmps.getD t undef, tmps.getD u undef]) w₂ := by
  simp only [results, h]
  simp [Sem.run_bind, Result.andThen]
theorem ret_cl2 {fn : Func} {R : Ending → World → Prop} {a : Act} {w : World} {q t u : Tmp} {g : Nat} {c : Cl} {A : Option Addr} {n d : Nat} (hres : fn.results = #[.cell q 55, .tmp t, .tmp u]) (hp : a.tmps.getD q undef = .pointer (some ⟨g, 0, none⟩)) (hc : ClAt w g c A n d) (hd : a.defers = [])
    (hR : R (.returned (.tuple #[c.val A n d, a.tmps.getD t undef, a.tmps.getD u undef])) w) : bodyPost Try.prog fn R .ret a w := by
  refine bodyPost_ret (v := .tuple #[c.val A n d, a.tmps.getD t undef, a.tmps.getD u undef]) ?_ hd hR
  rw [results_cell_tmp2 hres, hp]
  show ((loadVar 55 ⟨g, 0, none⟩).run Try.prog w).andThen _ = _
  rw [run_loadCl w g c A n d hc]
  rfl
/-- The cell that pay gives. -/
def payC (ky ch : Int) (y : Py) : Cl := if y.e = 0 then ⟨ky, ch, y.total, y.spill, y.loc⟩ else zeroC
def RPayBack (w : World) (ky ch : Int) (y : Py) (e : Ending) (w' : World) : Prop :=
  ∃ A n c, e = .returned (.tuple #[(payC ky ch y).val A n c, .int .i64 y.at_, .int .i64 y.e]) ∧ OwnB w' w.heap.size A n c (payC ky ch y).loc ∧ Below w.heap.size w w'

set_option maxHeartbeats 16000000 in
theorem rpay_any (w : World) (ky ch : Int) (A : Option Addr) (n c : Nat) (l : List Int) (a : Nat) (hn : l.length = n) (hnc : n ≤ c) (hcm : c ≤ maxLen) (hA : Rd w A l) (hB : IsB l) (ha : a ≤ n) (R : Ending → World → Prop) (hP : R = RPayBack w ky ch (payD l a)) :
    Calls Try.prog 83 #[.agg #[.int .i64 ky, .int .i64 ch, .int .i64 0, .slice none 0 0, .int .i64 0], .slice A n c, .int .i64 a] w R := by
  have HP := Lib.hid hP; clear hP
  have HN := Lib.hid hn; clear hn
  have HB := Lib.hid hB; clear hB
  have HCM := Lib.hid hcm
  unfold maxLen at hcm
  obtain ⟨W2, hW2⟩ : ∃ W, W = (w.alloc (.cells #[.int .i64 ky, .int .i64 ch, .int .i64 0, .slice none 0 0, .int .i64 0] 55)).alloc (.cells #[.int .i64 0, .int .i64 0, .int .i64 0, .slice none 0 0, .int .i64 0] 55) := ⟨_, rfl⟩
  have hb2 : Below w.heap.size w W2 := by rw [hW2]; exact ((Below.refl _ _).alloc (Nat.le_refl _) _).alloc (by simp) _
  have hz2 : W2.heap.size = w.heap.size + 2 := by rw [hW2]; simp
  have hc2 : ClAt W2 w.heap.size ⟨ky, ch, 0, 0, []⟩ none 0 0 := by
    rw [hW2]
    exact ⟨by simp [go_sem], by simp [go_sem], by simp [go_sem], by simp [go_sem], by simp [go_sem]⟩
  have ht2 : W2.there w.heap.size 0 5 := by
    rw [hW2]
    intro j hj
    rcases (by omega : j = 0 ∨ j = 1 ∨ j = 2 ∨ j = 3 ∨ j = 4) with rfl | rfl | rfl | rfl | rfl <;> simp [go_sem]
  have hg2 : W2.there (w.heap.size + 1) 0 5 := by
    rw [hW2]
    intro j hj
    rcases (by omega : j = 0 ∨ j = 1 ∨ j = 2 ∨ j = 3 ∨ j = 4) with rfl | rfl | rfl | rfl | rfl <;> simp [go_sem]
  have HA0 := Lib.hid hA
  have HA := Lib.hid (hA.keep hb2); clear hA
  have HC := Lib.hid hc2
  have HT := Lib.hid ht2
  have HG := Lib.hid hg2
  have HW := Lib.hid hW2
  clear hc2 ht2 hg2
  have hfin : ∀ (W : World) (e' : Int), e' ≠ 0 → payD l a = py0 e' → Below w.heap.size w W → R (.returned (.tuple #[zeroC.val none 0 0, .int .i64 0, .int .i64 e'])) (W.setCells (w.heap.size + 1) 0 (clC zeroC none 0 0)) := by
    intro W e' h1 h2 h3
    rw [HP.out]
    have hpc : payC ky ch (payD l a) = zeroC := by rw [h2]; simp [payC, py0, h1]
    exact ⟨none, 0, 0, by rw [hpc, h2]; rfl, by rw [hpc]; exact OwnB.nil _ _, below_setCellsC h3 (by omega) _ _⟩
  have HFIN := Lib.hid hfin; clear hfin
  go_enter Try.func83, Try.ntmps83
  go_upto_region 1 with fail
  rw [← hW2]
  clear hW2 HW
  go_wp2_with fail
  refine (within_any _ A n c l a 0 16384 HN.out (by omega) HA.out HB.out (by omega) _ rfl).mono ?_
  rintro e w3 ⟨rfl, hb3⟩
  have hB3 : Below w.heap.size w w3 := hb2.trans (hb3.mono (by omega))
  have HG3 := Lib.hid (there_keepC HG.out hb3 (by omega))
  have HA3 := Lib.hid (HA.out.keep hb3)
  have hz3 := hb3.size
  obtain ⟨⟨v, p, z⟩, hU⟩ : ∃ U, wn l a 0 16384 = U := ⟨_, rfl⟩
  have HU := Lib.hid hU
  have HB3 := Lib.hid hb3
  simp only [hU]
  clear hU hb3
  by_cases hz : z = 0
  rotate_left
  · have hzb : (z != 0) = true := by simp [hz]
    have hpy : payD l a = py0 z := by simp [payD, HU.out, hz]
    have HPY := Lib.hid hpy
    clear hpy
    go_upto_region 3 with fail
    iterate 7 go_step
    refine wp_store_cl rfl _ _ rfl (w.heap.size + 1) zeroC none 0 0 rfl rfl HG3.out ?_
    repeat go_step
    refine ret_cl2 rfl rfl (ClAt.stored HG3.out zeroC none 0 0) rfl ?_
    exact HFIN.out _ _ hz HPY.out hB3
  subst hz
  obtain ⟨q1, rfl, l1, l2, _, _, v0, v1⟩ := wn_at HB.out HU.out
  rw [HN.out] at l2
  go_wp2_with fail
  refine (within_any _ A n c l q1 0 v HN.out (by omega) HA3.out HB.out (by omega) _ rfl).mono ?_
  rintro e w4 ⟨rfl, hb4⟩
  have hB4 : Below w.heap.size w w4 := hB3.trans (hb4.mono hB3.size)
  have HG4 := Lib.hid (there_keepC HG3.out hb4 (by omega))
  have HA4 := Lib.hid (HA3.out.keep hb4)
  have HC4 := Lib.hid ((HC.out.keep HB3.out).keep hb4)
  have HT4 := Lib.hid (there_keepC (there_keepC HT.out HB3.out (by omega)) hb4 (by omega))
  have hz4 := hb4.size
  obtain ⟨⟨m, p2, z⟩, hU2⟩ : ∃ U, wn l q1 0 v = U := ⟨_, rfl⟩
  have HU2 := Lib.hid hU2
  simp only [hU2]
  clear hU2 hb4
  by_cases hz : z = 0
  rotate_left
  · have hzb : (z != 0) = true := by simp [hz]
    have hpy : payD l a = py0 z := by simp [payD, HU.out, HU2.out, hz]
    have HPY := Lib.hid hpy
    clear hpy
    go_upto_region 6 with fail
    iterate 7 go_step
    refine wp_store_cl rfl _ _ rfl (w.heap.size + 1) zeroC none 0 0 rfl rfl HG4.out ?_
    repeat go_step
    refine ret_cl2 rfl rfl (ClAt.stored HG4.out zeroC none 0 0) rfl ?_
    exact HFIN.out _ _ hz HPY.out hB4
  subst hz
  obtain ⟨q2, rfl, k1, k2, _, _, m0, m1⟩ := wn_at HB.out HU2.out
  rw [HN.out] at k2
  by_cases hs : (n : Int) - q2 < m
  · have hpy : payD l a = py0 6 := by simp [payD, HU.out, HU2.out, HN.out, hs]
    have HPY := Lib.hid hpy
    clear hpy
    go_upto_region 8 with fail
    iterate 4 go_step
    refine wp_store_cl rfl _ _ rfl (w.heap.size + 1) zeroC none 0 0 rfl rfl HG4.out ?_
    repeat go_step
    refine ret_cl2 rfl rfl (ClAt.stored HG4.out zeroC none 0 0) rfl ?_
    exact HFIN.out _ _ (by decide) HPY.out hB4
  obtain ⟨M, rfl⟩ : ∃ M : Nat, m = M := ⟨m.toNat, by omega⟩
  obtain ⟨Z, hZ⟩ : ∃ Z, Z = (l.drop q2).take M := ⟨_, rfl⟩
  have hzl : Z.length = M := by rw [hZ]; simp only [List.length_take, List.length_drop, HN.out]; omega
  have HZL := Lib.hid hzl; clear hzl
  have hcut := run_cut A n c q2 M (by omega)
  have HZ := Lib.hid hZ; clear hZ
  obtain ⟨a0, a1, a2, a3, a4⟩ := HC4.out
  have f2 : w4.frozen? ⟨w.heap.size, 2, none⟩ = false := by simpa using (HT4.out 2 (by decide)).2
  go_upto_region 10 with fail
  obtain ⟨W5, hW5⟩ : ∃ W, W = w4.setCell ⟨w.heap.size, 2, none⟩ (.int .i64 v) := ⟨_, rfl⟩
  rw [← hW5]
  have HC5 := Lib.hid (show ClAt W5 w.heap.size ⟨ky, ch, v, 0, []⟩ none 0 0 by rw [hW5]; exact HC4.out.setTotal v)
  have HT5 := Lib.hid (show W5.there w.heap.size 0 5 by rw [hW5]; exact there_setC HT4.out _ _)
  have HG5 := Lib.hid (show W5.there (w.heap.size + 1) 0 5 by rw [hW5]; exact there_setC HG4.out _ _)
  have hB5 : Below w.heap.size w W5 := by rw [hW5]; exact hB4.setCell (Nat.le_refl _) _
  have hz5 : w4.heap.size ≤ W5.heap.size := by rw [hW5]; simp only [World.setCell, Array.size_modify]; exact Nat.le_refl _
  have HZ5 := Lib.hid (show Rd W5 (cutA A c q2) Z by rw [HZ.out]; exact cutA_rd (HA0.out.keep hB5) c q2 M (by rw [HN.out]; exact hnc))
  clear hW5 a0 a1 a2 a3 a4 f2
  have hba : Below W5.heap.size W5 (W5.alloc (.cells #[] 5)) := (Below.refl _ _).alloc (Nat.le_refl _) _
  iterate 22 go_step
  refine wp_append rfl (.tmp 50) (.tmp 56) rfl W5.heap.size _ _ _ [] rfl (OwnB.lit W5 #[] [] _ 0 rfl rfl (Nat.le_refl _) (by decide)) (cutA A c q2) M (c - q2) Z rfl HZL.out (HZ5.out.keep hba) (by omega) (by simp) ?_
  intro D dc w6 hown6 _ hb6'
  have hb6 : Below W5.heap.size W5 w6 := hba.trans hb6'
  simp only [List.nil_append, Nat.zero_add] at hown6 ⊢
  have HO6 := Lib.hid hown6
  have HC6 := Lib.hid (HC5.out.keep hb6)
  have HT6 := Lib.hid (there_keepC HT5.out hb6 (by omega))
  have HG6 := Lib.hid (there_keepC HG5.out hb6 (by omega))
  have hB6 : Below w.heap.size w w6 := hB5.trans (hb6.mono (by omega))
  have hz6 := hb6.size
  clear hown6 hb6' hb6 hba
  have a3 := HC6.out.2.2.2.1
  have f3 : w6.frozen? ⟨w.heap.size, 3, none⟩ = false := by simpa using (HT6.out 3 (by decide)).2
  by_cases hm : (M : Int) = v
  · subst hm
    have hpy : payD l a = ⟨(M : Int), 0, Z, (q2 : Int) + (M : Int), 0⟩ := by rw [HZ.out]; simp [payD, HU.out, HU2.out, HN.out, hs]
    have HPY := Lib.hid hpy
    clear hpy
    go_upto_region 12 with fail
    obtain ⟨W7, hW7⟩ : ∃ W, W = w6.setCell ⟨w.heap.size, 3, none⟩ (.slice D M dc) := ⟨_, rfl⟩
    rw [← hW7]
    have HC7 := Lib.hid (show ClAt W7 w.heap.size ⟨ky, ch, (M : Int), 0, Z⟩ D M dc by rw [hW7]; exact HC6.out.setLoc Z D M dc)
    have HG7 := Lib.hid (show W7.there (w.heap.size + 1) 0 5 by rw [hW7]; exact there_setC HG6.out _ _)
    have hB7 : Below w.heap.size w W7 := by rw [hW7]; exact hB6.setCell (Nat.le_refl _) _
    have HD7 := Lib.hid (show OwnB W7 W5.heap.size D M dc Z by rw [hW7]; exact HO6.out.apartC (fun i hi => heapC_ne _ _ _ (by simp only; omega)))
    clear hW7 a3 f3
    go_step
    refine wp_load_cl rfl _ rfl w.heap.size ⟨ky, ch, (M : Int), 0, Z⟩ D M dc rfl HC7.out ?_
    iterate 9 go_step
    refine wp_store_cl rfl _ _ rfl (w.heap.size + 1) ⟨ky, ch, (M : Int), 0, Z⟩ D M dc rfl rfl HG7.out ?_
    repeat go_step
    refine ret_cl2 rfl rfl (ClAt.stored HG7.out ⟨ky, ch, (M : Int), 0, Z⟩ D M dc) rfl ?_
    rw [HP.out]
    have hpc : payC ky ch (payD l a) = ⟨ky, ch, (M : Int), 0, Z⟩ := by rw [HPY.out]; rfl
    exact ⟨D, M, dc, by rw [hpc, HPY.out] <;> rfl, by rw [hpc]; exact (HD7.out.apartC (fun i hi => heap_setCellsC _ _ _ _ _ (by omega))).mono (by omega), below_setCellsC hB7 (by omega) _ _⟩
  · have hmb : ((M : Int) == v) = false := by simp [hm]
    go_upto_region 13 with fail
    obtain ⟨W7, hW7⟩ : ∃ W, W = w6.setCell ⟨w.heap.size, 3, none⟩ (.slice D M dc) := ⟨_, rfl⟩
    rw [← hW7]
    have HC7 := Lib.hid (show ClAt W7 w.heap.size ⟨ky, ch, v, 0, Z⟩ D M dc by rw [hW7]; exact HC6.out.setLoc Z D M dc)
    have HT7 := Lib.hid (show W7.there w.heap.size 0 5 by rw [hW7]; exact there_setC HT6.out _ _)
    have HG7 := Lib.hid (show W7.there (w.heap.size + 1) 0 5 by rw [hW7]; exact there_setC HG6.out _ _)
    have hB7 : Below w.heap.size w W7 := by rw [hW7]; exact hB6.setCell (Nat.le_refl _) _
    have HD7 := Lib.hid (show OwnB W7 W5.heap.size D M dc Z by rw [hW7]; exact HO6.out.apartC (fun i hi => heapC_ne _ _ _ (by simp only; omega)))
    have hz7 : w6.heap.size ≤ W7.heap.size := by rw [hW7]; simp only [World.setCell, Array.size_modify]; exact Nat.le_refl _
    clear hW7 a3 f3
    go_wp2_with fail
    refine (within_any _ A n c l ((q2 : Int) + (M : Int)) 1 1048576 HN.out (by omega) (HA0.out.keep hB7) HB.out (by omega) _ rfl).mono ?_
    rintro e w8 ⟨rfl, hb8⟩
    have hB8 : Below w.heap.size w w8 := hB7.trans (hb8.mono (by omega))
    have HG8 := Lib.hid (there_keepC HG7.out hb8 (by omega))
    have HC8 := Lib.hid (HC7.out.keep hb8)
    have HT8 := Lib.hid (there_keepC HT7.out hb8 (by omega))
    have HD8 := Lib.hid (HD7.out.keep hb8)
    have hz8 := hb8.size
    obtain ⟨⟨s, p3, z⟩, hU3⟩ : ∃ U, wn l ((q2 : Int) + (M : Int)) 1 1048576 = U := ⟨_, rfl⟩
    have HU3 := Lib.hid hU3
    simp only [hU3]
    clear hU3 hb8
    by_cases hz : z = 0
    rotate_left
    · have hzb : (z != 0) = true := by simp [hz]
      have hpy : payD l a = py0 z := by simp only [payD, HU.out, HU2.out, HU3.out]; simp [HN.out, hm, hz]; exact fun h => absurd h (by omega)
      have HPY := Lib.hid hpy
      clear hpy
      go_upto_region 15 with fail
      iterate 7 go_step
      refine wp_store_cl rfl _ _ rfl (w.heap.size + 1) zeroC none 0 0 rfl rfl HG8.out ?_
      repeat go_step
      refine ret_cl2 rfl rfl (ClAt.stored HG8.out zeroC none 0 0) rfl ?_
      exact HFIN.out _ _ hz HPY.out hB8
    subst hz
    have hpy : payD l a = ⟨v, s, Z, p3, 0⟩ := by rw [HZ.out]; simp only [payD, HU.out, HU2.out, HU3.out]; simp [HN.out, hm]; exact fun h => absurd h (by omega)
    have HPY := Lib.hid hpy
    clear hpy
    have a4 := HC8.out.2.2.2.2
    have f4 : w8.frozen? ⟨w.heap.size, 4, none⟩ = false := by simpa using (HT8.out 4 (by decide)).2
    go_upto_region 17 with fail
    obtain ⟨W9, hW9⟩ : ∃ W, W = w8.setCell ⟨w.heap.size, 4, none⟩ (.int .i64 s) := ⟨_, rfl⟩
    rw [← hW9]
    have HC9 := Lib.hid (show ClAt W9 w.heap.size ⟨ky, ch, v, s, Z⟩ D M dc by rw [hW9]; exact HC8.out.setSpill s)
    have HG9 := Lib.hid (show W9.there (w.heap.size + 1) 0 5 by rw [hW9]; exact there_setC HG8.out _ _)
    have hB9 : Below w.heap.size w W9 := by rw [hW9]; exact hB8.setCell (Nat.le_refl _) _
    have HD9 := Lib.hid (show OwnB W9 W5.heap.size D M dc Z by rw [hW9]; exact HD8.out.apartC (fun i hi => heapC_ne _ _ _ (by simp only; omega)))
    clear hW9 a4 f4
    go_step
    refine wp_load_cl rfl _ rfl w.heap.size ⟨ky, ch, v, s, Z⟩ D M dc rfl HC9.out ?_
    iterate 3 go_step
    refine wp_store_cl rfl _ _ rfl (w.heap.size + 1) ⟨ky, ch, v, s, Z⟩ D M dc rfl rfl HG9.out ?_
    repeat go_step
    refine ret_cl2 rfl rfl (ClAt.stored HG9.out ⟨ky, ch, v, s, Z⟩ D M dc) rfl ?_
    rw [HP.out]
    have hpc : payC ky ch (payD l a) = ⟨ky, ch, v, s, Z⟩ := by rw [HPY.out]; rfl
    exact ⟨D, M, dc, by rw [hpc, HPY.out] <;> rfl, by rw [hpc]; exact (HD9.out.apartC (fun i hi => heap_setCellsC _ _ _ _ _ (by omega))).mono (by omega), below_setCellsC hB9 (by omega) _ _⟩
end Go.Proofs.Ytoeaffmlolapnaa
