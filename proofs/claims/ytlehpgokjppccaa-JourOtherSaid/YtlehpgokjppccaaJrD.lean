/- Walks: jour.foot, jour.Entry. -/
import Derived.Test.YtlehpgokjppccaaJrC
namespace Go.Proofs.Ytlehpgokjppccaa
open Go.RowKit
set_option maxRecDepth 100000

def entB (pg : Int) (l : List Int) : List Int := fxL pg 4 ++ l
def entH (k pg : Int) (l : List Int) : List Int := entB pg l ++ fxL (sumI (fxL k 8 ++ entB pg l)) 4
def okEnt (pg cm : Int) (n : Nat) : Prop := 1 ≤ pg ∧ pg ≤ 1048576 ∧ cm = 0 ∧ isSize (n : Int)
instance (pg cm : Int) (n : Nat) : Decidable (okEnt pg cm n) := by unfold okEnt; infer_instance
def entL (k pg cm : Int) (l : List Int) : List Int := if okEnt pg cm l.length then entH k pg l else []
def entE (pg cm : Int) (n : Nat) : Int := if okEnt pg cm n then 0 else 1
theorem entB_isB {pg : Int} {l : List Int} (h : IsB l) : IsB (entB pg l) := isB_append (fxL_isB _ _) h
theorem entB_length (pg : Int) (l : List Int) : (entB pg l).length = 4 + l.length := by simp [entB, fxL_length]
theorem entH_length (k pg : Int) (l : List Int) : (entH k pg l).length = 8 + l.length := by simp [entH, entB_length, fxL_length]; omega
theorem entH_isB {k pg : Int} {l : List Int} (h : IsB l) : IsB (entH k pg l) := isB_append (entB_isB h) (fxL_isB _ _)

theorem jfoot_any (w : World) (k : Int) (A : Option Addr) (n c : Nat) (l : List Int) (hk : 0 ≤ k ∧ k ≤ 18446744073709551615) (hn : l.length = n) (hnc : n ≤ c) (hcm : c ≤ maxLen) (hA : Rd w A l) (hB : IsB l) (R : Ending → World → Prop)
    (hR : R = fun e w' => ∃ A c, e = .returned (.slice A 4 c) ∧ OwnB w' w.heap.size A 4 c (fxL (sumI (fxL k 8 ++ l)) 4) ∧ Below w.heap.size w w') :
    Calls Try.prog 46 #[.int .u64 k, .slice A n c] w R := by
  have HR := Lib.hid hR; clear hR
  have HN := Lib.hid hn; clear hn
  have HA := Lib.hid hA; clear hA
  have HB := Lib.hid hB; clear hB
  go_enter Try.func46, Try.ntmps46
  go_wp2_with fail
  refine (fixed_put _ k 8 hk.1 hk.2 (by decide) (by decide)).mono ?_
  rintro e w1 ⟨A1, c1, rfl, hown1, hb1⟩
  have HO1 := Lib.hid hown1; clear hown1
  go_wp2_with fail
  have hrows := rows2 (w := w1) 24 (0, 0) (fxL_length k 8) HO1.out.cap.1 HO1.out.cap.2 HO1.out.rd HN.out hnc hcm (HA.out.keep hb1)
  refine (sum_any _ _ 2 [fxL k 8, l] hrows (by simp [maxLen]) (by
    intro x hx
    simp only [List.mem_cons, List.not_mem_nil, or_false] at hx
    rcases hx with rfl | rfl
    · exact fxL_isB _ _
    · exact HB.out)).mono ?_
  rintro e w2 ⟨rfl, hb2⟩
  have hB2 : Below w.heap.size w w2 := (hb1.alloc hb1.size _).trans (hb2.mono (by simp; have := hb1.size; omega))
  clear hb2 hrows
  have hfl : [fxL k 8, l].flatten = fxL k 8 ++ l := by simp
  rw [hfl]
  clear hfl
  obtain ⟨y0, y1⟩ := sumI_bd (fxL k 8 ++ l)
  obtain ⟨y, hy⟩ : ∃ y, y = sumI (fxL k 8 ++ l) := ⟨_, rfl⟩
  rw [← hy] at y0 y1 ⊢
  have HY := Lib.hid hy; clear hy
  have hwy : IntKind.u64.wrap y = y := IntWalk.u64_in _ (by omega)
  go_wp2_with fail
  refine (fixed_put _ y 4 y0 (by omega) (by decide) (by decide)).mono ?_
  rintro e w3 ⟨A3, c3, rfl, hown3, hb3⟩
  have HO3 := Lib.hid hown3; clear hown3
  go_wp2
  rw [HR.out]
  exact ⟨A3, c3, rfl, by rw [← HY.out]; exact HO3.out.mono hB2.size, hB2.trans (hb3.mono hB2.size)⟩

theorem jEntry_no (w : World) (k pg cm : Int) (A : Option Addr) (n c : Nat) (l : List Int) (hpg : i64ok pg) (hcm' : i64ok cm) (hn : l.length = n) (hnc : n ≤ c) (hcm : c ≤ maxLen) (hno : ¬ okEnt pg cm n) (R : Ending → World → Prop) (hR : R = PairBack w (entL k pg cm l) (entE pg cm n)) :
    Calls Try.prog 26 #[.int .u64 k, .agg #[.int .i64 pg, .int .i64 cm, .slice A n c]] w R := by
  have HE := Lib.hid (show entL k pg cm l = [] from if_neg (by rw [hn]; exact hno))
  have HE2 := Lib.hid (show entE pg cm n = 1 from if_neg hno)
  have hend : ∀ w', Below w.heap.size w w' → R (.returned (.tuple #[.slice none 0 0, .int .i64 1])) w' := by
    intro w' hb
    rw [hR]
    exact ⟨none, 0, 0, by rw [HE2.out], by rw [HE.out]; rfl, Nat.le_refl _, by decide, by rw [HE.out]; exact .inl rfl, hb⟩
  have HEND := Lib.hid hend; clear hend hR
  unfold maxLen at hcm
  unfold i64ok at hpg hcm'
  have hbx : ∀ o, Below w.heap.size w (w.alloc o) := fun o => (Below.refl _ _).alloc (Nat.le_refl _) _
  have HBX := Lib.hid hbx; clear hbx
  by_cases h1 : pg < 1
  · clear hno
    go_enter Try.func26, Try.ntmps26
    go_wp2
    exact HEND.out _ (HBX.out _)
  · by_cases h2 : 1048576 < pg
    · clear hno
      go_enter Try.func26, Try.ntmps26
      go_wp2
      exact HEND.out _ (HBX.out _)
    · by_cases h3 : cm = 0
      · subst h3
        have g1 : ¬ isSize (n : Int) := fun h => hno ⟨by omega, by omega, rfl, h⟩
        have HD := Lib.hid (decide_eq_false g1)
        clear hno g1
        go_enter Try.func26, Try.ntmps26
        go_wp2_with fail
        refine (jright_any _ (n : Int) (by unfold i64ok; omega)).mono ?_
        rintro e w1 ⟨rfl, rfl⟩
        simp only [HD.out]
        go_wp2
        exact HEND.out _ (HBX.out _)
      · have h4 : (cm != 0) = true := by simp [h3]
        clear hno
        go_enter Try.func26, Try.ntmps26
        go_wp2
        exact HEND.out _ (HBX.out _)

set_option maxHeartbeats 4000000 in
theorem jEntry_ok (w : World) (k pg : Int) (A : Option Addr) (n c : Nat) (l : List Int) (hk : 0 ≤ k ∧ k ≤ 18446744073709551615) (hn : l.length = n) (hnc : n ≤ c) (hcm : c ≤ maxLen) (hA : Rd w A l) (hB : IsB l) (hok : okEnt pg 0 n) (R : Ending → World → Prop) (hR : R = PairBack w (entL k pg 0 l) (entE pg 0 n)) :
    Calls Try.prog 26 #[.int .u64 k, .agg #[.int .i64 pg, .int .i64 0, .slice A n c]] w R := by
  have HR := Lib.hid hR; clear hR
  have HE := Lib.hid (show entL k pg 0 l = entH k pg l from if_pos (by rw [hn]; exact hok))
  have HE2 := Lib.hid (show entE pg 0 n = 0 from if_pos hok)
  have HK := Lib.hid hk; clear hk
  have HN := Lib.hid hn; clear hn
  have HA := Lib.hid hA; clear hA
  have HB := Lib.hid hB; clear hB
  have HCM := Lib.hid hcm
  obtain ⟨p1, p2, _, g1⟩ := hok
  have HD := Lib.hid (decide_eq_true g1)
  have hn4 : n ≤ 4096 := by unfold isSize at g1; omega
  clear g1
  have hwp : IntKind.u64.wrap pg = pg := IntWalk.u64_in _ (by omega)
  obtain ⟨W0, hW0⟩ : ∃ W, W = w.alloc (.cells #[.int .i64 pg, .int .i64 0, .slice A n c] 53) := ⟨_, rfl⟩
  have hB0 : Below w.heap.size w W0 := by rw [hW0]; exact (Below.refl _ _).alloc (Nat.le_refl _) _
  have hz0 : W0.heap.size = w.heap.size + 1 := by rw [hW0]; simp
  have c0 : W0.cell? ⟨w.heap.size, 0, none⟩ = some (.int .i64 pg) := by rw [hW0]; simp [go_sem]
  have c2 : W0.cell? ⟨w.heap.size, 2, none⟩ = some (.slice A n c) := by rw [hW0]; simp [go_sem]
  have HW := Lib.hid hW0; clear hW0
  unfold maxLen at hcm
  go_enter Try.func26, Try.ntmps26
  go_wp2_with fail
  refine (jright_any _ (n : Int) (by unfold i64ok; omega)).mono ?_
  rintro e w1 ⟨rfl, rfl⟩
  simp only [HD.out]
  go_upto_region 3 with fail
  rw [← HW.out]
  clear HW
  go_region_with (first
    | (go_at_call 50; refine (fixed_put _ pg 4 (by omega) (by omega) (by decide) (by decide)).mono ?_; rintro e w1 ⟨A1, c1, rfl, hown1, hb1⟩; (have hb1' : Below W0.heap.size W0 w1 := ((Below.refl _ W0).drew).trans hb1); clear hb1; (have k2 := (hb1'.cell (by show w.heap.size < _; omega)).trans c2); (have HO1 := Lib.hid hown1); clear hown1)
    | (go_at_call 49; refine (join_any _ _ 2 2 [fxL pg 4, l] rfl (by decide) (Nat.le_refl _) (by decide) (rows2 _ _ (fxL_length _ _) HO1.out.cap.1 HO1.out.cap.2 HO1.out.rd HN.out hnc HCM.out ((HA.out.keep hB0).keep hb1')) (by simp [fxL_length, HN.out]; omega)).mono ?_; rintro e w2 hf; obtain ⟨g, nj, rfl, hnj, hmj, hrd, hb2⟩ := fresh_rd hf; clear hf))
  all_goals
    have hfl : [fxL pg 4, l].flatten = entB pg l := by simp [entB]
    rw [hfl] at hnj hrd
    rw [entB_length, HN.out] at hnj
    subst hnj
    have hB1 : Below w.heap.size w w1 := hB0.trans (hb1'.mono hB0.size)
    have hB2 : Below w.heap.size w w2 := (hB1.alloc hB1.size _).trans (hb2.mono (by simp; have := hB1.size; omega))
    have HRD := Lib.hid hrd
    clear hrd hb2 hfl
    go_wp2_with fail
    refine (jfoot_any _ k _ (4 + n) (4 + n) (entB pg l) HK.out (by rw [entB_length, HN.out]) (Nat.le_refl _) hmj HRD.out (entB_isB HB.out) _ rfl).mono ?_
    rintro e w3 ⟨A3, c3, rfl, hown3, hb3⟩
    have hB3 := hB2.trans (hb3.mono hB2.size)
    have HO3 := Lib.hid hown3
    have HRD3 := Lib.hid (HRD.out.keep hb3)
    clear hown3 hb3 HRD
    go_wp2_with fail
    refine (join_any _ _ 2 2 [entB pg l, fxL (sumI (fxL k 8 ++ entB pg l)) 4] rfl (by decide) (Nat.le_refl _) (by decide) (rows2 _ _ (by rw [entB_length, HN.out]) (Nat.le_refl _) hmj HRD3.out (fxL_length _ _) HO3.out.cap.1 HO3.out.cap.2 HO3.out.rd) (by simp [fxL_length, entB_length, HN.out]; omega)).mono ?_
    rintro e w4 hf
    have hfr := fresh_lift hf (hB3.alloc hB3.size _) (show [entB pg l, fxL (sumI (fxL k 8 ++ entB pg l)) 4].flatten = entH k pg l by simp [entH])
    have HF := Lib.hid hfr
    obtain ⟨g7, n7, rfl, hrest⟩ := hf
    clear hrest hfr
    go_wp2
    obtain ⟨g8, n8, he8, h1, h2, h3, h4⟩ := fresh_rd HF.out
    rw [HR.out]
    injection he8 with he8
    injection he8 with e1 e2 e3
    subst e2
    refine ⟨_, _, _, by rw [HE2.out]; rfl, by rw [HE.out]; exact h1, Nat.le_refl _, h2, by rw [HE.out, e1]; exact h3, h4⟩
end Go.Proofs.Ytlehpgokjppccaa
