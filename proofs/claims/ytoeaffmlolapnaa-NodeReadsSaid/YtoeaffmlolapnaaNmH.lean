/- Several texts of this proof as one: ClL, ClN, ClO. Laid by merge.py. -/
import Derived.Test.YtoeaffmlolapnaaNmA
import Derived.Test.YtoeaffmlolapnaaNmB
import Derived.Test.YtoeaffmlolapnaaNmC
import Derived.Test.YtoeaffmlolapnaaNmD
import Derived.Test.YtoeaffmlolapnaaNmF
import Derived.Test.YtoeaffmlolapnaaNmG
import Derived.ArgAppend
import Derived.BigQuiet
import Derived.Deep.DeepCutAuto
import Derived.Deep.MidRow
import Derived.Deep.QuietTactic
import Derived.Deep.RegionHeld3
import Derived.Handy
import Derived.Laws.Externs
import Derived.Laws.ResultCell
import Derived.Lib.AppendStr
import Derived.Lib.Hide
import Derived.Lib.MakeNoZero
import Derived.Lib.SlBuf
import Derived.Lib.SmallJoins
import Derived.Maps.AppendAt
import Derived.Test.YtoeaffmlolapnaaProg
import Derived.WalkKit
import Derived.WalkSpells
namespace Go.Proofs.Ytoeaffmlolapnaa
section
open Go.RowKit
set_option maxRecDepth 100000
theorem results_cell_tmp2 {fn : Func} {p t u : Tmp} {ty : TypeId} (h : fn.results = #[.cell p ty, .tmp t, .tmp u]) (tmps : Array Value) (P : Program) (w : World) :
    (results fn tmps).run P w =
      ((asAddr (tmps.getD p undef)).run P w).andThen fun a w₁ => ((loadVar ty a).run P w₁).andThen fun v w₂ => .ok (.tuple #[v, tmps.getD t undef, tmps.getD u undef]) w₂ := by
  simp only [results, h]
  simp [Sem.run_bind, Result.andThen]
theorem ret_cl2 {fn : Func} {R : Ending → World → Prop} {a : Act} {w : World} {q t u : Tmp} {g : Nat} {c : Cl} {A : Option Addr} {n d : Nat} (hres : fn.results = #[.cell q 55, .tmp t, .tmp u]) (hp : a.tmps.getD q undef = .pointer (some ⟨g, 0, none⟩)) (hc : ClAt w g c A n d) (hd : a.defers = [])
    (hR : R (.returned (.tuple #[c.val A n d, a.tmps.getD t undef, a.tmps.getD u undef])) w) : bodyPost Try.prog fn R .ret a w := by
  refine bodyPost_ret (v := .tuple #[c.val A n d, a.tmps.getD t undef, a.tmps.getD u undef]) ?_ hd hR
  rw [results_cell_tmp2 hres, hp]
  show ((loadVar 55 ⟨g, 0, none⟩).run Try.prog w).andThen _ = _
  rw [run_loadCl w g c A n d hc]
  rfl
/-- The cell that pay gives. -/
def payC (ky ch : Int) (y : Py) : Cl := if y.e = 0 then ⟨ky, ch, y.total, y.spill, y.loc⟩ else zeroC
def RPayBack (w : World) (ky ch : Int) (y : Py) (e : Ending) (w' : World) : Prop :=
  ∃ A n c, e = .returned (.tuple #[(payC ky ch y).val A n c, .int .i64 y.at_, .int .i64 y.e]) ∧ OwnB w' w.heap.size A n c (payC ky ch y).loc ∧ Below w.heap.size w w'

set_option maxHeartbeats 16000000 in
theorem rpay_any (w : World) (ky ch : Int) (A : Option Addr) (n c : Nat) (l : List Int) (a : Nat) (hn : l.length = n) (hnc : n ≤ c) (hcm : c ≤ maxLen) (hA : Rd w A l) (hB : IsB l) (ha : a ≤ n) (R : Ending → World → Prop) (hP : R = RPayBack w ky ch (payD l a)) :
    Calls Try.prog 83 #[.agg #[.int .i64 ky, .int .i64 ch, .int .i64 0, .slice none 0 0, .int .i64 0], .slice A n c, .int .i64 a] w R := by
  have HP := Lib.hid hP; clear hP
  have HN := Lib.hid hn; clear hn
  have HB := Lib.hid hB; clear hB
  have HCM := Lib.hid hcm
  unfold maxLen at hcm
  obtain ⟨W2, hW2⟩ : ∃ W, W = (w.alloc (.cells #[.int .i64 ky, .int .i64 ch, .int .i64 0, .slice none 0 0, .int .i64 0] 55)).alloc (.cells #[.int .i64 0, .int .i64 0, .int .i64 0, .slice none 0 0, .int .i64 0] 55) := ⟨_, rfl⟩
  have hb2 : Below w.heap.size w W2 := by rw [hW2]; exact ((Below.refl _ _).alloc (Nat.le_refl _) _).alloc (by simp) _
  have hz2 : W2.heap.size = w.heap.size + 2 := by rw [hW2]; simp
  have hc2 : ClAt W2 w.heap.size ⟨ky, ch, 0, 0, []⟩ none 0 0 := by
    rw [hW2]
    exact ⟨by simp [go_sem], by simp [go_sem], by simp [go_sem], by simp [go_sem], by simp [go_sem]⟩
  have ht2 : W2.there w.heap.size 0 5 := by
    rw [hW2]
    intro j hj
    rcases (by omega : j = 0 ∨ j = 1 ∨ j = 2 ∨ j = 3 ∨ j = 4) with rfl | rfl | rfl | rfl | rfl <;> simp [go_sem]
  have hg2 : W2.there (w.heap.size + 1) 0 5 := by
    rw [hW2]
    intro j hj
    rcases (by omega : j = 0 ∨ j = 1 ∨ j = 2 ∨ j = 3 ∨ j = 4) with rfl | rfl | rfl | rfl | rfl <;> simp [go_sem]
  have HA0 := Lib.hid hA
  have HA := Lib.hid (hA.keep hb2); clear hA
  have HC := Lib.hid hc2
  have HT := Lib.hid ht2
  have HG := Lib.hid hg2
  have HW := Lib.hid hW2
  clear hc2 ht2 hg2
  have hfin : ∀ (W : World) (e' : Int), e' ≠ 0 → payD l a = py0 e' → Below w.heap.size w W → R (.returned (.tuple #[zeroC.val none 0 0, .int .i64 0, .int .i64 e'])) (W.setCells (w.heap.size + 1) 0 (clC zeroC none 0 0)) := by
    intro W e' h1 h2 h3
    rw [HP.out]
    have hpc : payC ky ch (payD l a) = zeroC := by rw [h2]; simp [payC, py0, h1]
    exact ⟨none, 0, 0, by rw [hpc, h2]; rfl, by rw [hpc]; exact OwnB.nil _ _, below_setCellsC h3 (by omega) _ _⟩
  have HFIN := Lib.hid hfin; clear hfin
  go_enter Try.func83, Try.ntmps83
  go_upto_region 1 with fail
  rw [← hW2]
  clear hW2 HW
  go_wp2_with fail
  refine (within_any _ A n c l a 0 16384 HN.out (by omega) HA.out HB.out (by omega) _ rfl).mono ?_
  rintro e w3 ⟨rfl, hb3⟩
  have hB3 : Below w.heap.size w w3 := hb2.trans (hb3.mono (by omega))
  have HG3 := Lib.hid (there_keepC HG.out hb3 (by omega))
  have HA3 := Lib.hid (HA.out.keep hb3)
  have hz3 := hb3.size
  obtain ⟨⟨v, p, z⟩, hU⟩ : ∃ U, wn l a 0 16384 = U := ⟨_, rfl⟩
  have HU := Lib.hid hU
  have HB3 := Lib.hid hb3
  simp only [hU]
  clear hU hb3
  by_cases hz : z = 0
  rotate_left
  · have hzb : (z != 0) = true := by simp [hz]
    have hpy : payD l a = py0 z := by simp [payD, HU.out, hz]
    have HPY := Lib.hid hpy
    clear hpy
    go_upto_region 3 with fail
    iterate 7 go_step
    refine wp_store_cl rfl _ _ rfl (w.heap.size + 1) zeroC none 0 0 rfl rfl HG3.out ?_
    repeat go_step
    refine ret_cl2 rfl rfl (ClAt.stored HG3.out zeroC none 0 0) rfl ?_
    exact HFIN.out _ _ hz HPY.out hB3
  subst hz
  obtain ⟨q1, rfl, l1, l2, _, _, v0, v1⟩ := wn_at HB.out HU.out
  rw [HN.out] at l2
  go_wp2_with fail
  refine (within_any _ A n c l q1 0 v HN.out (by omega) HA3.out HB.out (by omega) _ rfl).mono ?_
  rintro e w4 ⟨rfl, hb4⟩
  have hB4 : Below w.heap.size w w4 := hB3.trans (hb4.mono hB3.size)
  have HG4 := Lib.hid (there_keepC HG3.out hb4 (by omega))
  have HA4 := Lib.hid (HA3.out.keep hb4)
  have HC4 := Lib.hid ((HC.out.keep HB3.out).keep hb4)
  have HT4 := Lib.hid (there_keepC (there_keepC HT.out HB3.out (by omega)) hb4 (by omega))
  have hz4 := hb4.size
  obtain ⟨⟨m, p2, z⟩, hU2⟩ : ∃ U, wn l q1 0 v = U := ⟨_, rfl⟩
  have HU2 := Lib.hid hU2
  simp only [hU2]
  clear hU2 hb4
  by_cases hz : z = 0
  rotate_left
  · have hzb : (z != 0) = true := by simp [hz]
    have hpy : payD l a = py0 z := by simp [payD, HU.out, HU2.out, hz]
    have HPY := Lib.hid hpy
    clear hpy
    go_upto_region 6 with fail
    iterate 7 go_step
    refine wp_store_cl rfl _ _ rfl (w.heap.size + 1) zeroC none 0 0 rfl rfl HG4.out ?_
    repeat go_step
    refine ret_cl2 rfl rfl (ClAt.stored HG4.out zeroC none 0 0) rfl ?_
    exact HFIN.out _ _ hz HPY.out hB4
  subst hz
  obtain ⟨q2, rfl, k1, k2, _, _, m0, m1⟩ := wn_at HB.out HU2.out
  rw [HN.out] at k2
  by_cases hs : (n : Int) - q2 < m
  · have hpy : payD l a = py0 6 := by simp [payD, HU.out, HU2.out, HN.out, hs]
    have HPY := Lib.hid hpy
    clear hpy
    go_upto_region 8 with fail
    iterate 4 go_step
    refine wp_store_cl rfl _ _ rfl (w.heap.size + 1) zeroC none 0 0 rfl rfl HG4.out ?_
    repeat go_step
    refine ret_cl2 rfl rfl (ClAt.stored HG4.out zeroC none 0 0) rfl ?_
    exact HFIN.out _ _ (by decide) HPY.out hB4
  obtain ⟨M, rfl⟩ : ∃ M : Nat, m = M := ⟨m.toNat, by omega⟩
  obtain ⟨Z, hZ⟩ : ∃ Z, Z = (l.drop q2).take M := ⟨_, rfl⟩
  have hzl : Z.length = M := by rw [hZ]; simp only [List.length_take, List.length_drop, HN.out]; omega
  have HZL := Lib.hid hzl; clear hzl
  have hcut := run_cut A n c q2 M (by omega)
  have HZ := Lib.hid hZ; clear hZ
  obtain ⟨a0, a1, a2, a3, a4⟩ := HC4.out
  have f2 : w4.frozen? ⟨w.heap.size, 2, none⟩ = false := by simpa using (HT4.out 2 (by decide)).2
  go_upto_region 10 with fail
  obtain ⟨W5, hW5⟩ : ∃ W, W = w4.setCell ⟨w.heap.size, 2, none⟩ (.int .i64 v) := ⟨_, rfl⟩
  rw [← hW5]
  have HC5 := Lib.hid (show ClAt W5 w.heap.size ⟨ky, ch, v, 0, []⟩ none 0 0 by rw [hW5]; exact HC4.out.setTotal v)
  have HT5 := Lib.hid (show W5.there w.heap.size 0 5 by rw [hW5]; exact there_setC HT4.out _ _)
  have HG5 := Lib.hid (show W5.there (w.heap.size + 1) 0 5 by rw [hW5]; exact there_setC HG4.out _ _)
  have hB5 : Below w.heap.size w W5 := by rw [hW5]; exact hB4.setCell (Nat.le_refl _) _
  have hz5 : w4.heap.size ≤ W5.heap.size := by rw [hW5]; simp only [World.setCell, Array.size_modify]; exact Nat.le_refl _
  have HZ5 := Lib.hid (show Rd W5 (cutA A c q2) Z by rw [HZ.out]; exact cutA_rd (HA0.out.keep hB5) c q2 M (by rw [HN.out]; exact hnc))
  clear hW5 a0 a1 a2 a3 a4 f2
  have hba : Below W5.heap.size W5 (W5.alloc (.cells #[] 5)) := (Below.refl _ _).alloc (Nat.le_refl _) _
  iterate 22 go_step
  refine wp_append rfl (.tmp 50) (.tmp 56) rfl W5.heap.size _ _ _ [] rfl (OwnB.lit W5 #[] [] _ 0 rfl rfl (Nat.le_refl _) (by decide)) (cutA A c q2) M (c - q2) Z rfl HZL.out (HZ5.out.keep hba) (by omega) (by simp) ?_
  intro D dc w6 hown6 _ hb6'
  have hb6 : Below W5.heap.size W5 w6 := hba.trans hb6'
  simp only [List.nil_append, Nat.zero_add] at hown6 ⊢
  have HO6 := Lib.hid hown6
  have HC6 := Lib.hid (HC5.out.keep hb6)
  have HT6 := Lib.hid (there_keepC HT5.out hb6 (by omega))
  have HG6 := Lib.hid (there_keepC HG5.out hb6 (by omega))
  have hB6 : Below w.heap.size w w6 := hB5.trans (hb6.mono (by omega))
  have hz6 := hb6.size
  clear hown6 hb6' hb6 hba
  have a3 := HC6.out.2.2.2.1
  have f3 : w6.frozen? ⟨w.heap.size, 3, none⟩ = false := by simpa using (HT6.out 3 (by decide)).2
  by_cases hm : (M : Int) = v
  · subst hm
    have hpy : payD l a = ⟨(M : Int), 0, Z, (q2 : Int) + (M : Int), 0⟩ := by rw [HZ.out]; simp [payD, HU.out, HU2.out, HN.out, hs]
    have HPY := Lib.hid hpy
    clear hpy
    go_upto_region 12 with fail
    obtain ⟨W7, hW7⟩ : ∃ W, W = w6.setCell ⟨w.heap.size, 3, none⟩ (.slice D M dc) := ⟨_, rfl⟩
    rw [← hW7]
    have HC7 := Lib.hid (show ClAt W7 w.heap.size ⟨ky, ch, (M : Int), 0, Z⟩ D M dc by rw [hW7]; exact HC6.out.setLoc Z D M dc)
    have HG7 := Lib.hid (show W7.there (w.heap.size + 1) 0 5 by rw [hW7]; exact there_setC HG6.out _ _)
    have hB7 : Below w.heap.size w W7 := by rw [hW7]; exact hB6.setCell (Nat.le_refl _) _
    have HD7 := Lib.hid (show OwnB W7 W5.heap.size D M dc Z by rw [hW7]; exact HO6.out.apartC (fun i hi => heapC_ne _ _ _ (by simp only; omega)))
    clear hW7 a3 f3
    go_step
    refine wp_load_cl rfl _ rfl w.heap.size ⟨ky, ch, (M : Int), 0, Z⟩ D M dc rfl HC7.out ?_
    iterate 9 go_step
    refine wp_store_cl rfl _ _ rfl (w.heap.size + 1) ⟨ky, ch, (M : Int), 0, Z⟩ D M dc rfl rfl HG7.out ?_
    repeat go_step
    refine ret_cl2 rfl rfl (ClAt.stored HG7.out ⟨ky, ch, (M : Int), 0, Z⟩ D M dc) rfl ?_
    rw [HP.out]
    have hpc : payC ky ch (payD l a) = ⟨ky, ch, (M : Int), 0, Z⟩ := by rw [HPY.out]; rfl
    exact ⟨D, M, dc, by rw [hpc, HPY.out] <;> rfl, by rw [hpc]; exact (HD7.out.apartC (fun i hi => heap_setCellsC _ _ _ _ _ (by omega))).mono (by omega), below_setCellsC hB7 (by omega) _ _⟩
  · have hmb : ((M : Int) == v) = false := by simp [hm]
    go_upto_region 13 with fail
    obtain ⟨W7, hW7⟩ : ∃ W, W = w6.setCell ⟨w.heap.size, 3, none⟩ (.slice D M dc) := ⟨_, rfl⟩
    rw [← hW7]
    have HC7 := Lib.hid (show ClAt W7 w.heap.size ⟨ky, ch, v, 0, Z⟩ D M dc by rw [hW7]; exact HC6.out.setLoc Z D M dc)
    have HT7 := Lib.hid (show W7.there w.heap.size 0 5 by rw [hW7]; exact there_setC HT6.out _ _)
    have HG7 := Lib.hid (show W7.there (w.heap.size + 1) 0 5 by rw [hW7]; exact there_setC HG6.out _ _)
    have hB7 : Below w.heap.size w W7 := by rw [hW7]; exact hB6.setCell (Nat.le_refl _) _
    have HD7 := Lib.hid (show OwnB W7 W5.heap.size D M dc Z by rw [hW7]; exact HO6.out.apartC (fun i hi => heapC_ne _ _ _ (by simp only; omega)))
    have hz7 : w6.heap.size ≤ W7.heap.size := by rw [hW7]; simp only [World.setCell, Array.size_modify]; exact Nat.le_refl _
    clear hW7 a3 f3
    go_wp2_with fail
    refine (within_any _ A n c l ((q2 : Int) + (M : Int)) 1 1048576 HN.out (by omega) (HA0.out.keep hB7) HB.out (by omega) _ rfl).mono ?_
    rintro e w8 ⟨rfl, hb8⟩
    have hB8 : Below w.heap.size w w8 := hB7.trans (hb8.mono (by omega))
    have HG8 := Lib.hid (there_keepC HG7.out hb8 (by omega))
    have HC8 := Lib.hid (HC7.out.keep hb8)
    have HT8 := Lib.hid (there_keepC HT7.out hb8 (by omega))
    have HD8 := Lib.hid (HD7.out.keep hb8)
    have hz8 := hb8.size
    obtain ⟨⟨s, p3, z⟩, hU3⟩ : ∃ U, wn l ((q2 : Int) + (M : Int)) 1 1048576 = U := ⟨_, rfl⟩
    have HU3 := Lib.hid hU3
    simp only [hU3]
    clear hU3 hb8
    by_cases hz : z = 0
    rotate_left
    · have hzb : (z != 0) = true := by simp [hz]
      have hpy : payD l a = py0 z := by simp only [payD, HU.out, HU2.out, HU3.out]; simp [HN.out, hm, hz]; exact fun h => absurd h (by omega)
      have HPY := Lib.hid hpy
      clear hpy
      go_upto_region 15 with fail
      iterate 7 go_step
      refine wp_store_cl rfl _ _ rfl (w.heap.size + 1) zeroC none 0 0 rfl rfl HG8.out ?_
      repeat go_step
      refine ret_cl2 rfl rfl (ClAt.stored HG8.out zeroC none 0 0) rfl ?_
      exact HFIN.out _ _ hz HPY.out hB8
    subst hz
    have hpy : payD l a = ⟨v, s, Z, p3, 0⟩ := by rw [HZ.out]; simp only [payD, HU.out, HU2.out, HU3.out]; simp [HN.out, hm]; exact fun h => absurd h (by omega)
    have HPY := Lib.hid hpy
    clear hpy
    have a4 := HC8.out.2.2.2.2
    have f4 : w8.frozen? ⟨w.heap.size, 4, none⟩ = false := by simpa using (HT8.out 4 (by decide)).2
    go_upto_region 17 with fail
    obtain ⟨W9, hW9⟩ : ∃ W, W = w8.setCell ⟨w.heap.size, 4, none⟩ (.int .i64 s) := ⟨_, rfl⟩
    rw [← hW9]
    have HC9 := Lib.hid (show ClAt W9 w.heap.size ⟨ky, ch, v, s, Z⟩ D M dc by rw [hW9]; exact HC8.out.setSpill s)
    have HG9 := Lib.hid (show W9.there (w.heap.size + 1) 0 5 by rw [hW9]; exact there_setC HG8.out _ _)
    have hB9 : Below w.heap.size w W9 := by rw [hW9]; exact hB8.setCell (Nat.le_refl _) _
    have HD9 := Lib.hid (show OwnB W9 W5.heap.size D M dc Z by rw [hW9]; exact HD8.out.apartC (fun i hi => heapC_ne _ _ _ (by simp only; omega)))
    clear hW9 a4 f4
    go_step
    refine wp_load_cl rfl _ rfl w.heap.size ⟨ky, ch, v, s, Z⟩ D M dc rfl HC9.out ?_
    iterate 3 go_step
    refine wp_store_cl rfl _ _ rfl (w.heap.size + 1) ⟨ky, ch, v, s, Z⟩ D M dc rfl rfl HG9.out ?_
    repeat go_step
    refine ret_cl2 rfl rfl (ClAt.stored HG9.out ⟨ky, ch, v, s, Z⟩ D M dc) rfl ?_
    rw [HP.out]
    have hpc : payC ky ch (payD l a) = ⟨ky, ch, v, s, Z⟩ := by rw [HPY.out]; rfl
    exact ⟨D, M, dc, by rw [hpc, HPY.out] <;> rfl, by rw [hpc]; exact (HD9.out.apartC (fun i hi => heap_setCellsC _ _ _ _ _ (by omega))).mono (by omega), below_setCellsC hB9 (by omega) _ _⟩
end
section
open Go.RowKit
set_option maxRecDepth 100000
set_option linter.unusedVariables false
set_option linter.unusedSimpArgs false
theorem rpay_at (w : World) (ky ch : Int) (A : Option Addr) (n c : Nat) (l : List Int) (x : Int) (a : Nat) (hx : x = a) (hn : l.length = n) (hnc : n ≤ c) (hcm : c ≤ maxLen) (hA : Rd w A l) (hB : IsB l) (ha : a ≤ n) :
    Calls Try.prog 83 #[.agg #[.int .i64 ky, .int .i64 ch, .int .i64 0, .slice none 0 0, .int .i64 0], .slice A n c, .int .i64 x] w (RPayBack w ky ch (payD l x)) := by
  subst hx
  exact rpay_any w ky ch A n c l a hn hnc hcm hA hB ha _ rfl

set_option maxHeartbeats 4000000 in
theorem rdec_no (w : World) (k : Int) (A : Option Addr) (n c : Nat) (l : List Int) (hno : ¬ isK k) (R : Ending → World → Prop) (hP : R = DecCBack w k l) :
    Calls Try.prog 33 #[.int .i64 k, .slice A n c] w R := by
  have HP := Lib.hid hP; clear hP
  have hd : decC k l = (zeroC, 1) := if_pos hno
  have HD := Lib.hid hd; clear hd
  have hf : decide (isK k) = false := decide_eq_false hno
  have HF := Lib.hid hf; clear hf
  go_enter Try.func33, Try.ntmps33
  go_wp2_with fail
  refine (rkind_any _ k).mono ?_
  rintro e w1 ⟨rfl, rfl⟩
  simp only [HF.out]
  go_wp2
  refine ret_cl (c := zeroC) (A := none) (n := 0) (d := 0) rfl rfl ⟨by simp [go_sem, zeroC], by simp [go_sem, zeroC], by simp [go_sem, zeroC], by simp [go_sem, zeroC], by simp [go_sem, zeroC]⟩ rfl ?_
  rw [HP.out]
  exact ⟨none, 0, 0, by rw [HD.out]; rfl, by rw [HD.out]; exact OwnB.nil _ _, (Below.refl _ _).alloc (Nat.le_refl _) _⟩

set_option maxHeartbeats 16000000 in
theorem rdec_one (w : World) (A : Option Addr) (n c : Nat) (l : List Int) (hn : l.length = n) (hnc : n ≤ c) (hcm : c ≤ maxLen) (hA : Rd w A l) (hB : IsB l) (R : Ending → World → Prop) (hP : R = DecCBack w 1 l) :
    Calls Try.prog 33 #[.int .i64 1, .slice A n c] w R := by
  have HP := Lib.hid hP; clear hP
  have HN := Lib.hid hn; clear hn
  have HB := Lib.hid hB; clear hB
  have HCM := Lib.hid hcm
  unfold maxLen at hcm
  have HA0 := Lib.hid hA; clear hA
  obtain ⟨W2, hW2⟩ : ∃ W, W = (w.alloc (.cells #[.int .i64 0, .int .i64 0, .int .i64 0, .slice none 0 0, .int .i64 0] 55)).alloc (.cells #[.int .i64 0, .int .i64 0, .int .i64 0, .slice none 0 0, .int .i64 0] 55) := ⟨_, rfl⟩
  have hbW : Below w.heap.size w W2 := by rw [hW2]; exact ((Below.refl _ _).alloc (Nat.le_refl _) _).alloc (by simp) _
  have hzW : W2.heap.size = w.heap.size + 2 := by rw [hW2]; simp
  have HC0 := Lib.hid (show ClAt W2 (w.heap.size + 1) ⟨0, 0, 0, 0, []⟩ none 0 0 by
    rw [hW2]
    exact ⟨by simp [go_sem], by simp [go_sem], by simp [go_sem], by simp [go_sem], by simp [go_sem]⟩)
  have HT0 := Lib.hid (show W2.there (w.heap.size + 1) 0 5 by
    rw [hW2]
    intro j hj
    rcases (by omega : j = 0 ∨ j = 1 ∨ j = 2 ∨ j = 3 ∨ j = 4) with rfl | rfl | rfl | rfl | rfl <;> simp [go_sem])
  have HG0 := Lib.hid (show W2.there w.heap.size 0 5 by
    rw [hW2]
    intro j hj
    rcases (by omega : j = 0 ∨ j = 1 ∨ j = 2 ∨ j = 3 ∨ j = 4) with rfl | rfl | rfl | rfl | rfl <;> simp [go_sem])
  have HW := Lib.hid hW2
  have hfin : ∀ (W : World) (e' : Int), decC 1 l = (zeroC, e') → Below w.heap.size w W → R (.returned (.tuple #[zeroC.val none 0 0, .int .i64 e'])) (W.setCells w.heap.size 0 (clC zeroC none 0 0)) := by
    intro W e' h1 h2
    rw [HP.out]
    exact ⟨none, 0, 0, by rw [h1], by rw [h1]; exact OwnB.nil _ _, below_setCellsC h2 (Nat.le_refl _) _ _⟩
  have HFIN := Lib.hid hfin; clear hfin
  go_enter Try.func33, Try.ntmps33
  go_wp2_with fail
  refine (rkind_any _ 1).mono ?_
  rintro e w1 ⟨rfl, rfl⟩
  simp only [show decide (isK 1) = true from rfl]
  go_wp2_with fail
  rw [← hW2]
  clear hW2 HW
  refine (rchild_any _ _).mono ?_
  rintro e w0 ⟨rfl, rfl⟩
  simp only [show decide (hasC 1) = false from rfl]
  have HCD := Lib.hid (show childD 1 l = (0, 0, 0) from rfl)
  go_wp2_with fail
  refine (rkeyed_any _ _).mono ?_
  rintro e w0 ⟨rfl, rfl⟩
  simp only [show decide (hasK 1) = true from rfl]
  go_wp2_with fail
  refine (runv_any _ A n c l 0 HN.out (by omega) (HA0.out.keep hbW) HB.out (by omega)).mono ?_
  rintro e w4 ⟨rfl, hb4⟩
  obtain ⟨⟨ky, p2, z⟩, hV⟩ : ∃ U, unvL l 0 = U := ⟨_, rfl⟩
  have HV := Lib.hid hV
  have HKD := Lib.hid (show keyD 1 l 0 = (ky, p2, z) from (if_pos (by decide)).trans hV)
  simp only [hV]
  clear hV
  have hB4 : Below w.heap.size w w4 := hbW.trans (hb4.mono hbW.size)
  have HG4 := Lib.hid (there_keepC HG0.out hb4 (by omega))
  have HT4 := Lib.hid (there_keepC HT0.out hb4 (by omega))
  have HC4 := Lib.hid (HC0.out.keep hb4)
  have hz4 := hb4.size
  clear hb4
  have x0 := HC4.out.1
  have y0 : w4.frozen? ⟨w.heap.size + 1, 0, none⟩ = false := by simpa using (HT4.out 0 (by decide)).2
  go_upto_region 13 with fail
  obtain ⟨W4, hW4⟩ : ∃ W, W = w4.setCell ⟨w.heap.size + 1, 0, none⟩ (.int .i64 ky) := ⟨_, rfl⟩
  rw [← hW4]
  have HCs4 := Lib.hid (show ClAt W4 (w.heap.size + 1) ⟨ky, 0, 0, 0, []⟩ none 0 0 by rw [hW4]; exact ClAt.setKey HC4.out ky)
  have HTs4 := Lib.hid (show W4.there (w.heap.size + 1) 0 5 by rw [hW4]; exact there_setC HT4.out _ _)
  have HGs4 := Lib.hid (show W4.there w.heap.size 0 5 by rw [hW4]; exact there_setC HG4.out _ _)
  have hBs4 : Below w.heap.size w W4 := by rw [hW4]; exact hB4.setCell (by simp only; omega) _
  have hzs4 : w4.heap.size ≤ W4.heap.size := by rw [hW4]; simp only [World.setCell, Array.size_modify]; exact Nat.le_refl _
  clear hW4 x0 y0
  by_cases hz : z = 0
  rotate_left
  · have z1 : (z != 0) = true := by simp [hz]
    have z2 : (z == 0) = false := by simp [hz]
    have HD := Lib.hid (show decC 1 l = (zeroC, z) by rw [dec_key 1 l (by decide) (by rw [HCD.out]) (by rw [HCD.out, HKD.out]; exact hz), HCD.out, HKD.out])
    clear hz
    go_upto_region 16 with fail
    iterate 7 go_step
    refine wp_store_cl rfl _ _ rfl w.heap.size zeroC none 0 0 rfl rfl HGs4.out ?_
    repeat go_step
    refine ret_cl rfl rfl (ClAt.stored HGs4.out zeroC none 0 0) rfl ?_
    exact HFIN.out _ _ HD.out hBs4
  subst hz
  obtain ⟨q2, hq2, k1, k2, _, _⟩ := unv_at HB.out 0 (by first | (rw [HV.out]) | (have := HV.out; simp only [Int.ofNat_zero, Int.cast_ofNat_Int] at this ⊢; rw [this]))
  have hq2' : p2 = (q2 : Int) := by
    have h1 := HV.out
    have h2 : unvL l 0 = unvL l ((0 : Nat) : Int) := rfl
    rw [h2] at h1
    rw [h1] at hq2
    exact hq2
  subst hq2'
  rw [HN.out] at k2
  clear hq2
  go_wp2_with fail
  refine (rpays_any _ _).mono ?_
  rintro e w0 ⟨rfl, rfl⟩
  simp only [show decide ((1 : Int) ≠ 2) = true from rfl]
  go_upto_region 14 with fail
  go_step
  refine wp_load_cl rfl _ rfl (w.heap.size + 1) ⟨ky, 0, 0, 0, []⟩ none 0 0 rfl HCs4.out ?_
  go_wp2_with fail
  refine (rpay_at _ ky 0 A n c l (q2 : Int) q2 rfl HN.out hnc HCM.out (HA0.out.keep hBs4) HB.out (by omega)).mono ?_
  rintro e w5 ⟨D, m, dc, rfl, hr5, hb5⟩
  have HR5 := Lib.hid hr5; clear hr5
  obtain ⟨y, hy⟩ : ∃ y, payD l (q2 : Int) = y := ⟨_, rfl⟩
  have HY := Lib.hid hy
  have HYD := Lib.hid (show loadD 1 l (q2 : Int) = y from (if_neg (by decide)).trans hy)
  simp only [hy]
  rw [hy] at HR5
  clear hy
  have hB5 : Below w.heap.size w w5 := hBs4.trans (hb5.mono hBs4.size)
  have HG5 := Lib.hid (there_keepC HGs4.out hb5 (by omega))
  have HT5 := Lib.hid (there_keepC HTs4.out hb5 (by omega))
  have HC5 := Lib.hid (HCs4.out.keep hb5)
  have hz5 := hb5.size
  clear hb5
  obtain ⟨cc, hcc⟩ : ∃ cc, payC ky 0 y = cc := ⟨_, rfl⟩
  rw [hcc] at HR5 ⊢
  have HCC := Lib.hid hcc; clear hcc
  iterate 13 go_step
  refine wp_store_cl rfl _ _ rfl (w.heap.size + 1) cc D m dc rfl rfl HT5.out ?_
  obtain ⟨W7, hW7⟩ : ∃ W, W = w5.setCells (w.heap.size + 1) 0 (clC cc D m dc) := ⟨_, rfl⟩
  have HC7 := Lib.hid (show ClAt W7 (w.heap.size + 1) cc D m dc by rw [hW7]; exact ClAt.stored HT5.out cc D m dc)
  have HG7 := Lib.hid (show W7.there w.heap.size 0 5 by rw [hW7]; exact World.there_setCells HG5.out _ _ _)
  have hB7 : Below w.heap.size w W7 := by rw [hW7]; exact below_setCellsC hB5 (by omega) _ _
  have HR7 := Lib.hid (show OwnB W7 (w.heap.size + 2) D m dc cc.loc by rw [hW7]; exact (HR5.out.mono (base' := w.heap.size + 2) (by omega)).apartC (fun i hi => heap_setCellsC _ _ _ _ _ (by omega)))
  rw [← hW7]
  clear hW7
  obtain ⟨yt, ysp, yl, ya, ye⟩ := y
  by_cases hz : ye = 0
  rotate_left
  · have z1 : (ye != 0) = true := by simp [hz]
    have z2 : (ye == 0) = false := by simp [hz]
    have HD := Lib.hid (show decC 1 l = (zeroC, ye) by rw [dec_load 1 l (by decide) (by rw [HCD.out]) (by rw [HCD.out, HKD.out]) (by rw [HCD.out, HKD.out, HYD.out]; exact hz), HCD.out, HKD.out, HYD.out])
    clear hz
    go_upto_region 16 with fail
    iterate 7 go_step
    refine wp_store_cl rfl _ _ rfl w.heap.size zeroC none 0 0 rfl rfl HG7.out ?_
    repeat go_step
    refine ret_cl rfl rfl (ClAt.stored HG7.out zeroC none 0 0) rfl ?_
    exact HFIN.out _ _ HD.out hB7
  subst hz
  by_cases hq : ya = (n : Int)
  rotate_left
  · have hqb : (ya != (n : Int)) = true := by simp [hq]
    have HD := Lib.hid (show decC 1 l = (zeroC, 8) from dec_long 1 l (by decide) (by rw [HCD.out]) (by rw [HCD.out, HKD.out]) (by rw [HCD.out, HKD.out, HYD.out]) (by rw [HCD.out, HKD.out, HYD.out, HN.out]; exact hq))
    clear hq
    go_upto_region 18 with fail
    iterate 4 go_step
    refine wp_store_cl rfl _ _ rfl w.heap.size zeroC none 0 0 rfl rfl HG7.out ?_
    repeat go_step
    refine ret_cl rfl rfl (ClAt.stored HG7.out zeroC none 0 0) rfl ?_
    exact HFIN.out _ _ HD.out hB7
  have hqb : (ya != (n : Int)) = false := by simp [hq]
  have hcc : cc = ⟨ky, 0, yt, ysp, yl⟩ := HCC.out.symm.trans (if_pos rfl)
  subst hcc
  have HD := Lib.hid (show decC 1 l = (⟨ky, 0, yt, ysp, yl⟩, 0) by rw [dec_ok 1 l (by decide) (by rw [HCD.out]) (by rw [HCD.out, HKD.out]) (by rw [HCD.out, HKD.out, HYD.out]) (by rw [HCD.out, HKD.out, HYD.out, HN.out]; exact hq), HCD.out, HKD.out, HYD.out])
  clear hq
  go_upto_region 19 with fail
  go_step
  refine wp_load_cl rfl _ rfl (w.heap.size + 1) ⟨ky, 0, yt, ysp, yl⟩ D m dc rfl HC7.out ?_
  refine wp_store_cl rfl _ _ rfl w.heap.size ⟨ky, 0, yt, ysp, yl⟩ D m dc rfl rfl HG7.out ?_
  repeat go_step
  refine ret_cl rfl rfl (ClAt.stored HG7.out ⟨ky, 0, yt, ysp, yl⟩ D m dc) rfl ?_
  rw [HP.out]
  exact ⟨D, m, dc, by rw [HD.out] <;> rfl, by rw [HD.out]; exact (HR7.out.apartC (fun i hi => heap_setCellsC _ _ _ _ _ (by omega))).mono (by omega), below_setCellsC hB7 (Nat.le_refl _) _ _⟩
set_option maxHeartbeats 16000000 in
theorem rdec_two (w : World) (A : Option Addr) (n c : Nat) (l : List Int) (hn : l.length = n) (hnc : n ≤ c) (hcm : c ≤ maxLen) (hA : Rd w A l) (hB : IsB l) (R : Ending → World → Prop) (hP : R = DecCBack w 2 l) :
    Calls Try.prog 33 #[.int .i64 2, .slice A n c] w R := by
  have HP := Lib.hid hP; clear hP
  have HN := Lib.hid hn; clear hn
  have HB := Lib.hid hB; clear hB
  have HCM := Lib.hid hcm
  unfold maxLen at hcm
  have HA0 := Lib.hid hA; clear hA
  obtain ⟨W2, hW2⟩ : ∃ W, W = (w.alloc (.cells #[.int .i64 0, .int .i64 0, .int .i64 0, .slice none 0 0, .int .i64 0] 55)).alloc (.cells #[.int .i64 0, .int .i64 0, .int .i64 0, .slice none 0 0, .int .i64 0] 55) := ⟨_, rfl⟩
  have hbW : Below w.heap.size w W2 := by rw [hW2]; exact ((Below.refl _ _).alloc (Nat.le_refl _) _).alloc (by simp) _
  have hzW : W2.heap.size = w.heap.size + 2 := by rw [hW2]; simp
  have HC0 := Lib.hid (show ClAt W2 (w.heap.size + 1) ⟨0, 0, 0, 0, []⟩ none 0 0 by
    rw [hW2]
    exact ⟨by simp [go_sem], by simp [go_sem], by simp [go_sem], by simp [go_sem], by simp [go_sem]⟩)
  have HT0 := Lib.hid (show W2.there (w.heap.size + 1) 0 5 by
    rw [hW2]
    intro j hj
    rcases (by omega : j = 0 ∨ j = 1 ∨ j = 2 ∨ j = 3 ∨ j = 4) with rfl | rfl | rfl | rfl | rfl <;> simp [go_sem])
  have HG0 := Lib.hid (show W2.there w.heap.size 0 5 by
    rw [hW2]
    intro j hj
    rcases (by omega : j = 0 ∨ j = 1 ∨ j = 2 ∨ j = 3 ∨ j = 4) with rfl | rfl | rfl | rfl | rfl <;> simp [go_sem])
  have HW := Lib.hid hW2
  have hfin : ∀ (W : World) (e' : Int), decC 2 l = (zeroC, e') → Below w.heap.size w W → R (.returned (.tuple #[zeroC.val none 0 0, .int .i64 e'])) (W.setCells w.heap.size 0 (clC zeroC none 0 0)) := by
    intro W e' h1 h2
    rw [HP.out]
    exact ⟨none, 0, 0, by rw [h1], by rw [h1]; exact OwnB.nil _ _, below_setCellsC h2 (Nat.le_refl _) _ _⟩
  have HFIN := Lib.hid hfin; clear hfin
  go_enter Try.func33, Try.ntmps33
  go_wp2_with fail
  refine (rkind_any _ 2).mono ?_
  rintro e w1 ⟨rfl, rfl⟩
  simp only [show decide (isK 2) = true from rfl]
  go_wp2_with fail
  rw [← hW2]
  clear hW2 HW
  refine (rchild_any _ _).mono ?_
  rintro e w0 ⟨rfl, rfl⟩
  simp only [show decide (hasC 2) = true from rfl]
  go_wp2_with fail
  refine (within_any _ A n c l 0 1 1048576 HN.out (by omega) (HA0.out.keep hbW) HB.out (by omega) _ rfl).mono ?_
  rintro e w3 ⟨rfl, hb3⟩
  obtain ⟨⟨ch, p1, z⟩, hU⟩ : ∃ U, wn l 0 1 1048576 = U := ⟨_, rfl⟩
  have HU := Lib.hid hU
  have HCD := Lib.hid (show childD 2 l = (ch, p1, z) from (if_pos (by decide)).trans hU)
  simp only [hU]
  clear hU
  have hB3 : Below w.heap.size w w3 := hbW.trans (hb3.mono hbW.size)
  have HG3 := Lib.hid (there_keepC HG0.out hb3 (by omega))
  have HT3 := Lib.hid (there_keepC HT0.out hb3 (by omega))
  have HC3 := Lib.hid (HC0.out.keep hb3)
  have hz3 := hb3.size
  clear hb3
  have x1 := HC3.out.2.1
  have y1 : w3.frozen? ⟨w.heap.size + 1, 1, none⟩ = false := by simpa using (HT3.out 1 (by decide)).2
  go_upto_region 8 with fail
  obtain ⟨W3, hW3⟩ : ∃ W, W = w3.setCell ⟨w.heap.size + 1, 1, none⟩ (.int .i64 ch) := ⟨_, rfl⟩
  rw [← hW3]
  have HCs3 := Lib.hid (show ClAt W3 (w.heap.size + 1) ⟨0, ch, 0, 0, []⟩ none 0 0 by rw [hW3]; exact ClAt.setChild HC3.out ch)
  have HTs3 := Lib.hid (show W3.there (w.heap.size + 1) 0 5 by rw [hW3]; exact there_setC HT3.out _ _)
  have HGs3 := Lib.hid (show W3.there w.heap.size 0 5 by rw [hW3]; exact there_setC HG3.out _ _)
  have hBs3 : Below w.heap.size w W3 := by rw [hW3]; exact hB3.setCell (by simp only; omega) _
  have hzs3 : w3.heap.size ≤ W3.heap.size := by rw [hW3]; simp only [World.setCell, Array.size_modify]; exact Nat.le_refl _
  clear hW3 x1 y1
  by_cases hz : z = 0
  rotate_left
  · have z1 : (z != 0) = true := by simp [hz]
    have z2 : (z == 0) = false := by simp [hz]
    have HD := Lib.hid (show decC 2 l = (zeroC, z) by rw [dec_child 2 l (by decide) (by rw [HCD.out]; exact hz), HCD.out])
    clear hz
    go_upto_region 16 with fail
    iterate 7 go_step
    refine wp_store_cl rfl _ _ rfl w.heap.size zeroC none 0 0 rfl rfl HGs3.out ?_
    repeat go_step
    refine ret_cl rfl rfl (ClAt.stored HGs3.out zeroC none 0 0) rfl ?_
    exact HFIN.out _ _ HD.out hBs3
  subst hz
  obtain ⟨q1, rfl, l1, l2, _, _, _, _⟩ := wn_at (a := 0) HB.out (by simpa using HU.out)
  rw [HN.out] at l2
  go_wp2_with fail
  refine (rkeyed_any _ _).mono ?_
  rintro e w0 ⟨rfl, rfl⟩
  simp only [show decide (hasK 2) = true from rfl]
  go_wp2_with fail
  refine (runv_any _ A n c l (q1 : Int) HN.out (by omega) (HA0.out.keep hBs3) HB.out (by omega)).mono ?_
  rintro e w4 ⟨rfl, hb4⟩
  obtain ⟨⟨ky, p2, z⟩, hV⟩ : ∃ U, unvL l (q1 : Int) = U := ⟨_, rfl⟩
  have HV := Lib.hid hV
  have HKD := Lib.hid (show keyD 2 l (q1 : Int) = (ky, p2, z) from (if_pos (by decide)).trans hV)
  simp only [hV]
  clear hV
  have hB4 : Below w.heap.size w w4 := hBs3.trans (hb4.mono hBs3.size)
  have HG4 := Lib.hid (there_keepC HGs3.out hb4 (by omega))
  have HT4 := Lib.hid (there_keepC HTs3.out hb4 (by omega))
  have HC4 := Lib.hid (HCs3.out.keep hb4)
  have hz4 := hb4.size
  clear hb4
  have x0 := HC4.out.1
  have y0 : w4.frozen? ⟨w.heap.size + 1, 0, none⟩ = false := by simpa using (HT4.out 0 (by decide)).2
  go_upto_region 13 with fail
  obtain ⟨W4, hW4⟩ : ∃ W, W = w4.setCell ⟨w.heap.size + 1, 0, none⟩ (.int .i64 ky) := ⟨_, rfl⟩
  rw [← hW4]
  have HCs4 := Lib.hid (show ClAt W4 (w.heap.size + 1) ⟨ky, ch, 0, 0, []⟩ none 0 0 by rw [hW4]; exact ClAt.setKey HC4.out ky)
  have HTs4 := Lib.hid (show W4.there (w.heap.size + 1) 0 5 by rw [hW4]; exact there_setC HT4.out _ _)
  have HGs4 := Lib.hid (show W4.there w.heap.size 0 5 by rw [hW4]; exact there_setC HG4.out _ _)
  have hBs4 : Below w.heap.size w W4 := by rw [hW4]; exact hB4.setCell (by simp only; omega) _
  have hzs4 : w4.heap.size ≤ W4.heap.size := by rw [hW4]; simp only [World.setCell, Array.size_modify]; exact Nat.le_refl _
  clear hW4 x0 y0
  by_cases hz : z = 0
  rotate_left
  · have z1 : (z != 0) = true := by simp [hz]
    have z2 : (z == 0) = false := by simp [hz]
    have HD := Lib.hid (show decC 2 l = (zeroC, z) by rw [dec_key 2 l (by decide) (by rw [HCD.out]) (by rw [HCD.out, HKD.out]; exact hz), HCD.out, HKD.out])
    clear hz
    go_upto_region 16 with fail
    iterate 7 go_step
    refine wp_store_cl rfl _ _ rfl w.heap.size zeroC none 0 0 rfl rfl HGs4.out ?_
    repeat go_step
    refine ret_cl rfl rfl (ClAt.stored HGs4.out zeroC none 0 0) rfl ?_
    exact HFIN.out _ _ HD.out hBs4
  subst hz
  obtain ⟨q2, hq2, k1, k2, _, _⟩ := unv_at HB.out q1 (by first | (rw [HV.out]) | (have := HV.out; simp only [Int.ofNat_zero, Int.cast_ofNat_Int] at this ⊢; rw [this]))
  have hq2' : p2 = (q2 : Int) := by
    have h1 := HV.out
    have h2 : unvL l (q1 : Int) = unvL l ((q1 : Nat) : Int) := rfl
    rw [h2] at h1
    rw [h1] at hq2
    exact hq2
  subst hq2'
  rw [HN.out] at k2
  clear hq2
  go_wp2_with fail
  refine (rpays_any _ _).mono ?_
  rintro e w0 ⟨rfl, rfl⟩
  simp only [show decide ((2 : Int) ≠ 2) = false from rfl]
  have HYD := Lib.hid (show loadD 2 l (q2 : Int) = ⟨0, 0, [], (q2 : Int), 0⟩ from rfl)
  by_cases hq : (q2 : Int) = (n : Int)
  rotate_left
  · have hqb : ((q2 : Int) != (n : Int)) = true := by simp [hq]
    have HD := Lib.hid (show decC 2 l = (zeroC, 8) from dec_long 2 l (by decide) (by rw [HCD.out]) (by rw [HCD.out, HKD.out]) (by rw [HCD.out, HKD.out, HYD.out]) (by rw [HCD.out, HKD.out, HYD.out, HN.out]; exact hq))
    clear hq
    go_upto_region 18 with fail
    iterate 4 go_step
    refine wp_store_cl rfl _ _ rfl w.heap.size zeroC none 0 0 rfl rfl HGs4.out ?_
    repeat go_step
    refine ret_cl rfl rfl (ClAt.stored HGs4.out zeroC none 0 0) rfl ?_
    exact HFIN.out _ _ HD.out hBs4
  have hqb : ((q2 : Int) != (n : Int)) = false := by simp [hq]
  have HD := Lib.hid (show decC 2 l = (⟨ky, ch, 0, 0, []⟩, 0) by rw [dec_ok 2 l (by decide) (by rw [HCD.out]) (by rw [HCD.out, HKD.out]) (by rw [HCD.out, HKD.out, HYD.out]) (by rw [HCD.out, HKD.out, HYD.out, HN.out]; exact hq), HCD.out, HKD.out, HYD.out])
  clear hq
  go_upto_region 19 with fail
  go_step
  refine wp_load_cl rfl _ rfl (w.heap.size + 1) ⟨ky, ch, 0, 0, []⟩ none 0 0 rfl HCs4.out ?_
  refine wp_store_cl rfl _ _ rfl w.heap.size ⟨ky, ch, 0, 0, []⟩ none 0 0 rfl rfl HGs4.out ?_
  repeat go_step
  refine ret_cl rfl rfl (ClAt.stored HGs4.out ⟨ky, ch, 0, 0, []⟩ none 0 0) rfl ?_
  rw [HP.out]
  exact ⟨none, 0, 0, by rw [HD.out] <;> rfl, by rw [HD.out]; exact OwnB.nil _ _, below_setCellsC hBs4 (Nat.le_refl _) _ _⟩
set_option maxHeartbeats 16000000 in
theorem rdec_three (w : World) (A : Option Addr) (n c : Nat) (l : List Int) (hn : l.length = n) (hnc : n ≤ c) (hcm : c ≤ maxLen) (hA : Rd w A l) (hB : IsB l) (R : Ending → World → Prop) (hP : R = DecCBack w 3 l) :
    Calls Try.prog 33 #[.int .i64 3, .slice A n c] w R := by
  have HP := Lib.hid hP; clear hP
  have HN := Lib.hid hn; clear hn
  have HB := Lib.hid hB; clear hB
  have HCM := Lib.hid hcm
  unfold maxLen at hcm
  have HA0 := Lib.hid hA; clear hA
  obtain ⟨W2, hW2⟩ : ∃ W, W = (w.alloc (.cells #[.int .i64 0, .int .i64 0, .int .i64 0, .slice none 0 0, .int .i64 0] 55)).alloc (.cells #[.int .i64 0, .int .i64 0, .int .i64 0, .slice none 0 0, .int .i64 0] 55) := ⟨_, rfl⟩
  have hbW : Below w.heap.size w W2 := by rw [hW2]; exact ((Below.refl _ _).alloc (Nat.le_refl _) _).alloc (by simp) _
  have hzW : W2.heap.size = w.heap.size + 2 := by rw [hW2]; simp
  have HC0 := Lib.hid (show ClAt W2 (w.heap.size + 1) ⟨0, 0, 0, 0, []⟩ none 0 0 by
    rw [hW2]
    exact ⟨by simp [go_sem], by simp [go_sem], by simp [go_sem], by simp [go_sem], by simp [go_sem]⟩)
  have HT0 := Lib.hid (show W2.there (w.heap.size + 1) 0 5 by
    rw [hW2]
    intro j hj
    rcases (by omega : j = 0 ∨ j = 1 ∨ j = 2 ∨ j = 3 ∨ j = 4) with rfl | rfl | rfl | rfl | rfl <;> simp [go_sem])
  have HG0 := Lib.hid (show W2.there w.heap.size 0 5 by
    rw [hW2]
    intro j hj
    rcases (by omega : j = 0 ∨ j = 1 ∨ j = 2 ∨ j = 3 ∨ j = 4) with rfl | rfl | rfl | rfl | rfl <;> simp [go_sem])
  have HW := Lib.hid hW2
  have hfin : ∀ (W : World) (e' : Int), decC 3 l = (zeroC, e') → Below w.heap.size w W → R (.returned (.tuple #[zeroC.val none 0 0, .int .i64 e'])) (W.setCells w.heap.size 0 (clC zeroC none 0 0)) := by
    intro W e' h1 h2
    rw [HP.out]
    exact ⟨none, 0, 0, by rw [h1], by rw [h1]; exact OwnB.nil _ _, below_setCellsC h2 (Nat.le_refl _) _ _⟩
  have HFIN := Lib.hid hfin; clear hfin
  go_enter Try.func33, Try.ntmps33
  go_wp2_with fail
  refine (rkind_any _ 3).mono ?_
  rintro e w1 ⟨rfl, rfl⟩
  simp only [show decide (isK 3) = true from rfl]
  go_wp2_with fail
  rw [← hW2]
  clear hW2 HW
  refine (rchild_any _ _).mono ?_
  rintro e w0 ⟨rfl, rfl⟩
  simp only [show decide (hasC 3) = false from rfl]
  have HCD := Lib.hid (show childD 3 l = (0, 0, 0) from rfl)
  go_wp2_with fail
  refine (rkeyed_any _ _).mono ?_
  rintro e w0 ⟨rfl, rfl⟩
  simp only [show decide (hasK 3) = false from rfl]
  have HKD := Lib.hid (show keyD 3 l 0 = (0, 0, 0) from rfl)
  go_wp2_with fail
  refine (rpays_any _ _).mono ?_
  rintro e w0 ⟨rfl, rfl⟩
  simp only [show decide ((3 : Int) ≠ 2) = true from rfl]
  go_upto_region 14 with fail
  go_step
  refine wp_load_cl rfl _ rfl (w.heap.size + 1) ⟨0, 0, 0, 0, []⟩ none 0 0 rfl HC0.out ?_
  go_wp2_with fail
  refine (rpay_at _ 0 0 A n c l 0 0 rfl HN.out hnc HCM.out (HA0.out.keep hbW) HB.out (by omega)).mono ?_
  rintro e w5 ⟨D, m, dc, rfl, hr5, hb5⟩
  have HR5 := Lib.hid hr5; clear hr5
  obtain ⟨y, hy⟩ : ∃ y, payD l 0 = y := ⟨_, rfl⟩
  have HY := Lib.hid hy
  have HYD := Lib.hid (show loadD 3 l 0 = y from (if_neg (by decide)).trans hy)
  simp only [hy]
  rw [hy] at HR5
  clear hy
  have hB5 : Below w.heap.size w w5 := hbW.trans (hb5.mono hbW.size)
  have HG5 := Lib.hid (there_keepC HG0.out hb5 (by omega))
  have HT5 := Lib.hid (there_keepC HT0.out hb5 (by omega))
  have HC5 := Lib.hid (HC0.out.keep hb5)
  have hz5 := hb5.size
  clear hb5
  obtain ⟨cc, hcc⟩ : ∃ cc, payC 0 0 y = cc := ⟨_, rfl⟩
  rw [hcc] at HR5 ⊢
  have HCC := Lib.hid hcc; clear hcc
  iterate 13 go_step
  refine wp_store_cl rfl _ _ rfl (w.heap.size + 1) cc D m dc rfl rfl HT5.out ?_
  obtain ⟨W7, hW7⟩ : ∃ W, W = w5.setCells (w.heap.size + 1) 0 (clC cc D m dc) := ⟨_, rfl⟩
  have HC7 := Lib.hid (show ClAt W7 (w.heap.size + 1) cc D m dc by rw [hW7]; exact ClAt.stored HT5.out cc D m dc)
  have HG7 := Lib.hid (show W7.there w.heap.size 0 5 by rw [hW7]; exact World.there_setCells HG5.out _ _ _)
  have hB7 : Below w.heap.size w W7 := by rw [hW7]; exact below_setCellsC hB5 (by omega) _ _
  have HR7 := Lib.hid (show OwnB W7 (w.heap.size + 2) D m dc cc.loc by rw [hW7]; exact (HR5.out.mono (base' := w.heap.size + 2) (by omega)).apartC (fun i hi => heap_setCellsC _ _ _ _ _ (by omega)))
  rw [← hW7]
  clear hW7
  obtain ⟨yt, ysp, yl, ya, ye⟩ := y
  by_cases hz : ye = 0
  rotate_left
  · have z1 : (ye != 0) = true := by simp [hz]
    have z2 : (ye == 0) = false := by simp [hz]
    have HD := Lib.hid (show decC 3 l = (zeroC, ye) by rw [dec_load 3 l (by decide) (by rw [HCD.out]) (by rw [HCD.out, HKD.out]) (by rw [HCD.out, HKD.out, HYD.out]; exact hz), HCD.out, HKD.out, HYD.out])
    clear hz
    go_upto_region 16 with fail
    iterate 7 go_step
    refine wp_store_cl rfl _ _ rfl w.heap.size zeroC none 0 0 rfl rfl HG7.out ?_
    repeat go_step
    refine ret_cl rfl rfl (ClAt.stored HG7.out zeroC none 0 0) rfl ?_
    exact HFIN.out _ _ HD.out hB7
  subst hz
  by_cases hq : ya = (n : Int)
  rotate_left
  · have hqb : (ya != (n : Int)) = true := by simp [hq]
    have HD := Lib.hid (show decC 3 l = (zeroC, 8) from dec_long 3 l (by decide) (by rw [HCD.out]) (by rw [HCD.out, HKD.out]) (by rw [HCD.out, HKD.out, HYD.out]) (by rw [HCD.out, HKD.out, HYD.out, HN.out]; exact hq))
    clear hq
    go_upto_region 18 with fail
    iterate 4 go_step
    refine wp_store_cl rfl _ _ rfl w.heap.size zeroC none 0 0 rfl rfl HG7.out ?_
    repeat go_step
    refine ret_cl rfl rfl (ClAt.stored HG7.out zeroC none 0 0) rfl ?_
    exact HFIN.out _ _ HD.out hB7
  have hqb : (ya != (n : Int)) = false := by simp [hq]
  have hcc : cc = ⟨0, 0, yt, ysp, yl⟩ := HCC.out.symm.trans (if_pos rfl)
  subst hcc
  have HD := Lib.hid (show decC 3 l = (⟨0, 0, yt, ysp, yl⟩, 0) by rw [dec_ok 3 l (by decide) (by rw [HCD.out]) (by rw [HCD.out, HKD.out]) (by rw [HCD.out, HKD.out, HYD.out]) (by rw [HCD.out, HKD.out, HYD.out, HN.out]; exact hq), HCD.out, HKD.out, HYD.out])
  clear hq
  go_upto_region 19 with fail
  go_step
  refine wp_load_cl rfl _ rfl (w.heap.size + 1) ⟨0, 0, yt, ysp, yl⟩ D m dc rfl HC7.out ?_
  refine wp_store_cl rfl _ _ rfl w.heap.size ⟨0, 0, yt, ysp, yl⟩ D m dc rfl rfl HG7.out ?_
  repeat go_step
  refine ret_cl rfl rfl (ClAt.stored HG7.out ⟨0, 0, yt, ysp, yl⟩ D m dc) rfl ?_
  rw [HP.out]
  exact ⟨D, m, dc, by rw [HD.out] <;> rfl, by rw [HD.out]; exact (HR7.out.apartC (fun i hi => heap_setCellsC _ _ _ _ _ (by omega))).mono (by omega), below_setCellsC hB7 (Nat.le_refl _) _ _⟩
set_option maxHeartbeats 16000000 in
theorem rdec_four (w : World) (A : Option Addr) (n c : Nat) (l : List Int) (hn : l.length = n) (hnc : n ≤ c) (hcm : c ≤ maxLen) (hA : Rd w A l) (hB : IsB l) (R : Ending → World → Prop) (hP : R = DecCBack w 4 l) :
    Calls Try.prog 33 #[.int .i64 4, .slice A n c] w R := by
  have HP := Lib.hid hP; clear hP
  have HN := Lib.hid hn; clear hn
  have HB := Lib.hid hB; clear hB
  have HCM := Lib.hid hcm
  unfold maxLen at hcm
  have HA0 := Lib.hid hA; clear hA
  obtain ⟨W2, hW2⟩ : ∃ W, W = (w.alloc (.cells #[.int .i64 0, .int .i64 0, .int .i64 0, .slice none 0 0, .int .i64 0] 55)).alloc (.cells #[.int .i64 0, .int .i64 0, .int .i64 0, .slice none 0 0, .int .i64 0] 55) := ⟨_, rfl⟩
  have hbW : Below w.heap.size w W2 := by rw [hW2]; exact ((Below.refl _ _).alloc (Nat.le_refl _) _).alloc (by simp) _
  have hzW : W2.heap.size = w.heap.size + 2 := by rw [hW2]; simp
  have HC0 := Lib.hid (show ClAt W2 (w.heap.size + 1) ⟨0, 0, 0, 0, []⟩ none 0 0 by
    rw [hW2]
    exact ⟨by simp [go_sem], by simp [go_sem], by simp [go_sem], by simp [go_sem], by simp [go_sem]⟩)
  have HT0 := Lib.hid (show W2.there (w.heap.size + 1) 0 5 by
    rw [hW2]
    intro j hj
    rcases (by omega : j = 0 ∨ j = 1 ∨ j = 2 ∨ j = 3 ∨ j = 4) with rfl | rfl | rfl | rfl | rfl <;> simp [go_sem])
  have HG0 := Lib.hid (show W2.there w.heap.size 0 5 by
    rw [hW2]
    intro j hj
    rcases (by omega : j = 0 ∨ j = 1 ∨ j = 2 ∨ j = 3 ∨ j = 4) with rfl | rfl | rfl | rfl | rfl <;> simp [go_sem])
  have HW := Lib.hid hW2
  have hfin : ∀ (W : World) (e' : Int), decC 4 l = (zeroC, e') → Below w.heap.size w W → R (.returned (.tuple #[zeroC.val none 0 0, .int .i64 e'])) (W.setCells w.heap.size 0 (clC zeroC none 0 0)) := by
    intro W e' h1 h2
    rw [HP.out]
    exact ⟨none, 0, 0, by rw [h1], by rw [h1]; exact OwnB.nil _ _, below_setCellsC h2 (Nat.le_refl _) _ _⟩
  have HFIN := Lib.hid hfin; clear hfin
  go_enter Try.func33, Try.ntmps33
  go_wp2_with fail
  refine (rkind_any _ 4).mono ?_
  rintro e w1 ⟨rfl, rfl⟩
  simp only [show decide (isK 4) = true from rfl]
  go_wp2_with fail
  rw [← hW2]
  clear hW2 HW
  refine (rchild_any _ _).mono ?_
  rintro e w0 ⟨rfl, rfl⟩
  simp only [show decide (hasC 4) = true from rfl]
  go_wp2_with fail
  refine (within_any _ A n c l 0 1 1048576 HN.out (by omega) (HA0.out.keep hbW) HB.out (by omega) _ rfl).mono ?_
  rintro e w3 ⟨rfl, hb3⟩
  obtain ⟨⟨ch, p1, z⟩, hU⟩ : ∃ U, wn l 0 1 1048576 = U := ⟨_, rfl⟩
  have HU := Lib.hid hU
  have HCD := Lib.hid (show childD 4 l = (ch, p1, z) from (if_pos (by decide)).trans hU)
  simp only [hU]
  clear hU
  have hB3 : Below w.heap.size w w3 := hbW.trans (hb3.mono hbW.size)
  have HG3 := Lib.hid (there_keepC HG0.out hb3 (by omega))
  have HT3 := Lib.hid (there_keepC HT0.out hb3 (by omega))
  have HC3 := Lib.hid (HC0.out.keep hb3)
  have hz3 := hb3.size
  clear hb3
  have x1 := HC3.out.2.1
  have y1 : w3.frozen? ⟨w.heap.size + 1, 1, none⟩ = false := by simpa using (HT3.out 1 (by decide)).2
  go_upto_region 8 with fail
  obtain ⟨W3, hW3⟩ : ∃ W, W = w3.setCell ⟨w.heap.size + 1, 1, none⟩ (.int .i64 ch) := ⟨_, rfl⟩
  rw [← hW3]
  have HCs3 := Lib.hid (show ClAt W3 (w.heap.size + 1) ⟨0, ch, 0, 0, []⟩ none 0 0 by rw [hW3]; exact ClAt.setChild HC3.out ch)
  have HTs3 := Lib.hid (show W3.there (w.heap.size + 1) 0 5 by rw [hW3]; exact there_setC HT3.out _ _)
  have HGs3 := Lib.hid (show W3.there w.heap.size 0 5 by rw [hW3]; exact there_setC HG3.out _ _)
  have hBs3 : Below w.heap.size w W3 := by rw [hW3]; exact hB3.setCell (by simp only; omega) _
  have hzs3 : w3.heap.size ≤ W3.heap.size := by rw [hW3]; simp only [World.setCell, Array.size_modify]; exact Nat.le_refl _
  clear hW3 x1 y1
  by_cases hz : z = 0
  rotate_left
  · have z1 : (z != 0) = true := by simp [hz]
    have z2 : (z == 0) = false := by simp [hz]
    have HD := Lib.hid (show decC 4 l = (zeroC, z) by rw [dec_child 4 l (by decide) (by rw [HCD.out]; exact hz), HCD.out])
    clear hz
    go_upto_region 16 with fail
    iterate 7 go_step
    refine wp_store_cl rfl _ _ rfl w.heap.size zeroC none 0 0 rfl rfl HGs3.out ?_
    repeat go_step
    refine ret_cl rfl rfl (ClAt.stored HGs3.out zeroC none 0 0) rfl ?_
    exact HFIN.out _ _ HD.out hBs3
  subst hz
  obtain ⟨q1, rfl, l1, l2, _, _, _, _⟩ := wn_at (a := 0) HB.out (by simpa using HU.out)
  rw [HN.out] at l2
  go_wp2_with fail
  refine (rkeyed_any _ _).mono ?_
  rintro e w0 ⟨rfl, rfl⟩
  simp only [show decide (hasK 4) = false from rfl]
  have HKD := Lib.hid (show keyD 4 l (q1 : Int) = (0, (q1 : Int), 0) from rfl)
  go_wp2_with fail
  refine (rpays_any _ _).mono ?_
  rintro e w0 ⟨rfl, rfl⟩
  simp only [show decide ((4 : Int) ≠ 2) = true from rfl]
  go_upto_region 14 with fail
  go_step
  refine wp_load_cl rfl _ rfl (w.heap.size + 1) ⟨0, ch, 0, 0, []⟩ none 0 0 rfl HCs3.out ?_
  go_wp2_with fail
  refine (rpay_at _ 0 ch A n c l (q1 : Int) q1 rfl HN.out hnc HCM.out (HA0.out.keep hBs3) HB.out (by omega)).mono ?_
  rintro e w5 ⟨D, m, dc, rfl, hr5, hb5⟩
  have HR5 := Lib.hid hr5; clear hr5
  obtain ⟨y, hy⟩ : ∃ y, payD l (q1 : Int) = y := ⟨_, rfl⟩
  have HY := Lib.hid hy
  have HYD := Lib.hid (show loadD 4 l (q1 : Int) = y from (if_neg (by decide)).trans hy)
  simp only [hy]
  rw [hy] at HR5
  clear hy
  have hB5 : Below w.heap.size w w5 := hBs3.trans (hb5.mono hBs3.size)
  have HG5 := Lib.hid (there_keepC HGs3.out hb5 (by omega))
  have HT5 := Lib.hid (there_keepC HTs3.out hb5 (by omega))
  have HC5 := Lib.hid (HCs3.out.keep hb5)
  have hz5 := hb5.size
  clear hb5
  obtain ⟨cc, hcc⟩ : ∃ cc, payC 0 ch y = cc := ⟨_, rfl⟩
  rw [hcc] at HR5 ⊢
  have HCC := Lib.hid hcc; clear hcc
  iterate 13 go_step
  refine wp_store_cl rfl _ _ rfl (w.heap.size + 1) cc D m dc rfl rfl HT5.out ?_
  obtain ⟨W7, hW7⟩ : ∃ W, W = w5.setCells (w.heap.size + 1) 0 (clC cc D m dc) := ⟨_, rfl⟩
  have HC7 := Lib.hid (show ClAt W7 (w.heap.size + 1) cc D m dc by rw [hW7]; exact ClAt.stored HT5.out cc D m dc)
  have HG7 := Lib.hid (show W7.there w.heap.size 0 5 by rw [hW7]; exact World.there_setCells HG5.out _ _ _)
  have hB7 : Below w.heap.size w W7 := by rw [hW7]; exact below_setCellsC hB5 (by omega) _ _
  have HR7 := Lib.hid (show OwnB W7 (w.heap.size + 2) D m dc cc.loc by rw [hW7]; exact (HR5.out.mono (base' := w.heap.size + 2) (by omega)).apartC (fun i hi => heap_setCellsC _ _ _ _ _ (by omega)))
  rw [← hW7]
  clear hW7
  obtain ⟨yt, ysp, yl, ya, ye⟩ := y
  by_cases hz : ye = 0
  rotate_left
  · have z1 : (ye != 0) = true := by simp [hz]
    have z2 : (ye == 0) = false := by simp [hz]
    have HD := Lib.hid (show decC 4 l = (zeroC, ye) by rw [dec_load 4 l (by decide) (by rw [HCD.out]) (by rw [HCD.out, HKD.out]) (by rw [HCD.out, HKD.out, HYD.out]; exact hz), HCD.out, HKD.out, HYD.out])
    clear hz
    go_upto_region 16 with fail
    iterate 7 go_step
    refine wp_store_cl rfl _ _ rfl w.heap.size zeroC none 0 0 rfl rfl HG7.out ?_
    repeat go_step
    refine ret_cl rfl rfl (ClAt.stored HG7.out zeroC none 0 0) rfl ?_
    exact HFIN.out _ _ HD.out hB7
  subst hz
  by_cases hq : ya = (n : Int)
  rotate_left
  · have hqb : (ya != (n : Int)) = true := by simp [hq]
    have HD := Lib.hid (show decC 4 l = (zeroC, 8) from dec_long 4 l (by decide) (by rw [HCD.out]) (by rw [HCD.out, HKD.out]) (by rw [HCD.out, HKD.out, HYD.out]) (by rw [HCD.out, HKD.out, HYD.out, HN.out]; exact hq))
    clear hq
    go_upto_region 18 with fail
    iterate 4 go_step
    refine wp_store_cl rfl _ _ rfl w.heap.size zeroC none 0 0 rfl rfl HG7.out ?_
    repeat go_step
    refine ret_cl rfl rfl (ClAt.stored HG7.out zeroC none 0 0) rfl ?_
    exact HFIN.out _ _ HD.out hB7
  have hqb : (ya != (n : Int)) = false := by simp [hq]
  have hcc : cc = ⟨0, ch, yt, ysp, yl⟩ := HCC.out.symm.trans (if_pos rfl)
  subst hcc
  have HD := Lib.hid (show decC 4 l = (⟨0, ch, yt, ysp, yl⟩, 0) by rw [dec_ok 4 l (by decide) (by rw [HCD.out]) (by rw [HCD.out, HKD.out]) (by rw [HCD.out, HKD.out, HYD.out]) (by rw [HCD.out, HKD.out, HYD.out, HN.out]; exact hq), HCD.out, HKD.out, HYD.out])
  clear hq
  go_upto_region 19 with fail
  go_step
  refine wp_load_cl rfl _ rfl (w.heap.size + 1) ⟨0, ch, yt, ysp, yl⟩ D m dc rfl HC7.out ?_
  refine wp_store_cl rfl _ _ rfl w.heap.size ⟨0, ch, yt, ysp, yl⟩ D m dc rfl rfl HG7.out ?_
  repeat go_step
  refine ret_cl rfl rfl (ClAt.stored HG7.out ⟨0, ch, yt, ysp, yl⟩ D m dc) rfl ?_
  rw [HP.out]
  exact ⟨D, m, dc, by rw [HD.out] <;> rfl, by rw [HD.out]; exact (HR7.out.apartC (fun i hi => heap_setCellsC _ _ _ _ _ (by omega))).mono (by omega), below_setCellsC hB7 (Nat.le_refl _) _ _⟩
end
section
open Go.RowKit
set_option maxRecDepth 100000
set_option linter.unusedVariables false
set_option linter.unusedSimpArgs false
theorem rdecC_any (w : World) (k : Int) (A : Option Addr) (n c : Nat) (l : List Int) (hn : l.length = n) (hnc : n ≤ c) (hcm : c ≤ maxLen) (hA : Rd w A l) (hB : IsB l) :
    Calls Try.prog 33 #[.int .i64 k, .slice A n c] w (DecCBack w k l) := by
  by_cases hk : isK k
  · have hk' := hk
    unfold isK at hk'
    rcases (by omega : k = 1 ∨ k = 2 ∨ k = 3 ∨ k = 4) with rfl | rfl | rfl | rfl
    · exact rdec_one w A n c l hn hnc hcm hA hB _ rfl
    · exact rdec_two w A n c l hn hnc hcm hA hB _ rfl
    · exact rdec_three w A n c l hn hnc hcm hA hB _ rfl
    · exact rdec_four w A n c l hn hnc hcm hA hB _ rfl
  · exact rdec_no w k A n c l hk _ rfl

theorem cl_eq (a b : Cl) : decide (a = b) = (decide (a.key = b.key) && decide (a.child = b.child) && decide (a.total = b.total) && decide (a.spill = b.spill) && decide (a.loc = b.loc)) := by
  obtain ⟨a0, a1, a2, a3, a4⟩ := a
  obtain ⟨b0, b1, b2, b3, b4⟩ := b
  simp [Bool.and_assoc]

set_option maxHeartbeats 4000000 in
theorem sameC_any (w : World) (a b : Cl) (A B : Option Addr) (n c m d : Nat) (hn : a.loc.length = n) (hm : b.loc.length = m) (hn' : n ≤ maxLen) (hA : Rd w A a.loc) (hB : Rd w B b.loc) :
    Calls Try.prog 34 #[a.val A n c, b.val B m d] w fun e w' => e = .returned (.bool (decide (a = b))) ∧ Below w.heap.size w w' := by
  rw [cl_eq]
  obtain ⟨a0, a1, a2, a4, al⟩ := a
  obtain ⟨b0, b1, b2, b4, bl⟩ := b
  simp only at hn hm hA hB ⊢
  have HN := Lib.hid hn; clear hn
  have HM := Lib.hid hm; clear hm
  obtain ⟨W2, hW2⟩ : ∃ W, W = (w.alloc (.cells #[.int .i64 a0, .int .i64 a1, .int .i64 a2, .slice A n c, .int .i64 a4] 55)).alloc (.cells #[.int .i64 b0, .int .i64 b1, .int .i64 b2, .slice B m d, .int .i64 b4] 55) := ⟨_, rfl⟩
  have hbW : Below w.heap.size w W2 := by rw [hW2]; exact ((Below.refl _ _).alloc (Nat.le_refl _) _).alloc (by simp) _
  have h1 : ClAt W2 w.heap.size ⟨a0, a1, a2, a4, al⟩ A n c := by
    rw [hW2]
    exact ⟨by simp [go_sem], by simp [go_sem], by simp [go_sem], by simp [go_sem], by simp [go_sem]⟩
  have h2 : ClAt W2 (w.heap.size + 1) ⟨b0, b1, b2, b4, bl⟩ B m d := by
    rw [hW2]
    exact ⟨by simp [go_sem], by simp [go_sem], by simp [go_sem], by simp [go_sem], by simp [go_sem]⟩
  have HA := Lib.hid (hA.keep hbW); clear hA
  have HB := Lib.hid (hB.keep hbW); clear hB
  have hmm : n ≤ 9223372036854775807 := by unfold maxLen at hn'; omega
  have HW := Lib.hid hW2
  obtain ⟨p0, p1, p2, p3, p4⟩ := h1
  obtain ⟨q0, q1, q2, q3, q4⟩ := h2
  unfold Cl.val
  go_enter Try.func34, Try.ntmps34
  go_upto_region 1 with fail
  rw [← hW2]
  clear hW2 HW
  by_cases e0 : a0 = b0
  rotate_left
  · have f0 : (a0 == b0) = false := by simp [e0]
    go_wp2
    go_ret
    exact ⟨ret_bool (by simp [e0]), hbW⟩
  have f0 : (a0 == b0) = true := by simp [e0]
  have E0 := Lib.hid e0; clear e0
  by_cases e1 : a1 = b1
  rotate_left
  · have f1 : (a1 == b1) = false := by simp [e1]
    go_wp2
    go_ret
    exact ⟨ret_bool (by simp [e1]), hbW⟩
  have f1 : (a1 == b1) = true := by simp [e1]
  have E1 := Lib.hid e1; clear e1
  by_cases e2 : a2 = b2
  rotate_left
  · have f2 : (a2 == b2) = false := by simp [e2]
    go_wp2
    go_ret
    exact ⟨ret_bool (by simp [e2]), hbW⟩
  have f2 : (a2 == b2) = true := by simp [e2]
  have E2 := Lib.hid e2; clear e2
  by_cases e4 : a4 = b4
  rotate_left
  · have f4 : (a4 == b4) = false := by simp [e4]
    go_wp2
    go_ret
    exact ⟨ret_bool (by simp [e4]), hbW⟩
  have f4 : (a4 == b4) = true := by simp [e4]
  have E4 := Lib.hid e4; clear e4
  go_wp2_with fail
  refine (same1_any _ A B n c m d _ _ HN.out HM.out hmm HA.out HB.out).mono ?_
  rintro e w3 ⟨rfl, hb3⟩
  go_wp2
  go_ret
  exact ⟨ret_bool (by simp [E0.out, E1.out, E2.out, E4.out, beqL]), hbW.trans (hb3.mono hbW.size)⟩
end
end Go.Proofs.Ytoeaffmlolapnaa
