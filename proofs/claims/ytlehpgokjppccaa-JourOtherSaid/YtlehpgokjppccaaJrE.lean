/- Walk: tomeref11.Entry. -/
import Derived.Test.YtlehpgokjppccaaJrD
import Derived.Deep.RegionLaw
namespace Go.Proofs.Ytlehpgokjppccaa
open Go.RowKit
set_option maxRecDepth 100000

theorem rjEntry_no (w : World) (k pg cm : Int) (A : Option Addr) (n c : Nat) (l : List Int) (hpg : i64ok pg) (hcm' : i64ok cm) (hn : l.length = n) (hnc : n ≤ c) (hcm : c ≤ maxLen) (hno : ¬ okEnt pg cm n) (R : Ending → World → Prop) (hR : R = PairBack w (entL k pg cm l) (entE pg cm n)) :
    Calls Try.prog 28 #[.int .u64 k, .agg #[.int .i64 pg, .int .i64 cm, .slice A n c]] w R := by
  have HE := Lib.hid (show entL k pg cm l = [] from if_neg (by rw [hn]; exact hno))
  have HE2 := Lib.hid (show entE pg cm n = 1 from if_neg hno)
  have hend : ∀ w', Below w.heap.size w w' → R (.returned (.tuple #[.slice none 0 0, .int .i64 1])) w' := by
    intro w' hb
    rw [hR]
    exact ⟨none, 0, 0, by rw [HE2.out], by rw [HE.out]; rfl, Nat.le_refl _, by decide, by rw [HE.out]; exact .inl rfl, hb⟩
  have HEND := Lib.hid hend; clear hend hR
  unfold maxLen at hcm
  unfold i64ok at hpg hcm'
  have hbx : ∀ o, Below w.heap.size w (w.alloc o) := fun o => (Below.refl _ _).alloc (Nat.le_refl _) _
  have HBX := Lib.hid hbx; clear hbx
  by_cases h1 : pg < 1
  · clear hno
    go_enter Try.func28, Try.ntmps28
    go_wp2
    exact HEND.out _ (HBX.out _)
  · by_cases h2 : 1048576 < pg
    · clear hno
      go_enter Try.func28, Try.ntmps28
      go_wp2
      exact HEND.out _ (HBX.out _)
    · by_cases h3 : cm = 0
      · subst h3
        have g1 : ¬ isSize (n : Int) := fun h => hno ⟨by omega, by omega, rfl, h⟩
        have HD := Lib.hid (decide_eq_false g1)
        clear hno g1
        go_enter Try.func28, Try.ntmps28
        go_wp2_with fail
        refine (jsize_any _ (n : Int) (by unfold i64ok; omega)).mono ?_
        rintro e w1 ⟨rfl, rfl⟩
        simp only [HD.out]
        go_wp2
        exact HEND.out _ (HBX.out _)
      · have h4 : (cm != 0) = true := by simp [h3]
        clear hno
        go_enter Try.func28, Try.ntmps28
        go_wp2
        exact HEND.out _ (HBX.out _)

set_option maxHeartbeats 4000000 in
theorem rjEntry_ok (w : World) (k pg : Int) (A : Option Addr) (n c : Nat) (l : List Int) (hk : 0 ≤ k ∧ k ≤ 18446744073709551615) (hn : l.length = n) (_hcm : c ≤ maxLen) (_hnc : n ≤ c) (hA : Rd w A l) (hB : IsB l) (hok : okEnt pg 0 n) (R : Ending → World → Prop) (hR : R = PairBack w (entL k pg 0 l) (entE pg 0 n)) :
    Calls Try.prog 28 #[.int .u64 k, .agg #[.int .i64 pg, .int .i64 0, .slice A n c]] w R := by
  have HR := Lib.hid hR; clear hR
  have HE := Lib.hid (show entL k pg 0 l = entH k pg l from if_pos (by rw [hn]; exact hok))
  have HE2 := Lib.hid (show entE pg 0 n = 0 from if_pos hok)
  have HK := Lib.hid hk; clear hk
  have HN := Lib.hid hn; clear hn
  have HA := Lib.hid hA; clear hA
  have HB := Lib.hid hB; clear hB
  obtain ⟨p1, p2, _, g1⟩ := hok
  have HD := Lib.hid (decide_eq_true g1)
  have hn4 : n ≤ 4096 := by unfold isSize at g1; omega
  clear g1
  have hwp : IntKind.u64.wrap pg = pg := IntWalk.u64_in _ (by omega)
  obtain ⟨W0, hW0⟩ : ∃ W, W = w.alloc (.cells #[.int .i64 pg, .int .i64 0, .slice A n c] 53) := ⟨_, rfl⟩
  have hB0 : Below w.heap.size w W0 := by rw [hW0]; exact (Below.refl _ _).alloc (Nat.le_refl _) _
  have hz0 : W0.heap.size = w.heap.size + 1 := by rw [hW0]; simp
  have c0 : W0.cell? ⟨w.heap.size, 0, none⟩ = some (.int .i64 pg) := by rw [hW0]; simp [go_sem]
  have c2 : W0.cell? ⟨w.heap.size, 2, none⟩ = some (.slice A n c) := by rw [hW0]; simp [go_sem]
  have HW := Lib.hid hW0; clear hW0
  go_enter Try.func28, Try.ntmps28
  go_wp2_with fail
  refine (jsize_any _ (n : Int) (by unfold i64ok; omega)).mono ?_
  rintro e w1 ⟨rfl, rfl⟩
  simp only [HD.out]
  go_upto_region 3 with fail
  rw [← HW.out]
  clear HW
  go_region_law (first
    | (refine step_append rfl (.tmp 31) (.tmp 33) rfl W0.heap.size A1 4 c1 _ rfl HO1.out A n c l rfl HN.out ((HA.out.keep hB0).keep hb1') (by omega) hz1 ?_; intro A2 c2' w2 hown2 _ hb2; have HO2 := Lib.hid hown2; clear hown2)
    | (go_simp; go_at_call 32; refine (rfixed_put _ pg 4 (by omega) (by omega) (by decide) (by decide)).mono ?_; rintro e w1 ⟨A1, c1, rfl, hown1, hb1⟩; (have hb1' : Below W0.heap.size W0 w1 := ((Below.refl _ W0).drew).trans hb1); clear hb1; (have k2 := (hb1'.cell (by show w.heap.size < _; omega)).trans c2); (have HO1 := Lib.hid (show OwnB w1 W0.heap.size A1 4 c1 (fxL pg 4) from hown1)); clear hown1; (have hz1 : W0.heap.size ≤ w1.heap.size := hb1'.size)))
  all_goals
    have hO2 : OwnB w2 W0.heap.size A2 (4 + n) c2' (entB pg l) := HO2.out
    have HO := Lib.hid hO2
    clear hO2 HO2 HO1
    have hb2' : Below W0.heap.size w1 w2 := hb2
    have hB1 : Below w.heap.size w w1 := hB0.trans (hb1'.mono hB0.size)
    have hB2 : Below w.heap.size w w2 := hB1.trans (hb2'.mono hB0.size)
    have hz2 := hb2'.size
    clear hb2
    go_wp2_with fail
    refine (rfixed_put _ k 8 HK.out.1 HK.out.2 (by decide) (by decide)).mono ?_
    rintro e w3 ⟨A3, c3, rfl, hown3, hb3⟩
    have HO3 := Lib.hid hown3
    have hz3 := hb3.size
    have HOx := Lib.hid ((HO.out.keep hb3).rd)
    clear hown3
    go_wp2_with (at_builtin; refine wp_append rfl (.tmp 36) (.tmp 37) rfl w2.heap.size A3 8 c3 _ rfl HO3.out A2 (4 + n) c2' (entB pg l) rfl HO.out.len HOx.out (by omega) hz3 ?_; intro A4 c4 w4 hown4 _ hb4)
    have HO4 := Lib.hid hown4
    have hb4' : Below w2.heap.size w2 w4 := hb3.trans hb4
    have hB4 := hB2.trans (hb4'.mono hB2.size)
    have HO5 := Lib.hid (HO.out.keep hb4')
    clear hown4 hb4 HO3 HOx
    refine (rsum2_any _ A4 (8 + (4 + n)) c4 (fxL k 8 ++ entB pg l) HO4.out.len (by omega) HO4.out.rd (isB_append (fxL_isB _ _) (entB_isB HB.out))).mono ?_
    rintro e w5 ⟨rfl, rfl⟩
    obtain ⟨y0, y1⟩ := sumI_bd (fxL k 8 ++ entB pg l)
    have hhead : entH k pg l = entB pg l ++ fxL (sumI (fxL k 8 ++ entB pg l)) 4 := rfl
    obtain ⟨y, hy⟩ : ∃ y, y = sumI (fxL k 8 ++ entB pg l) := ⟨_, rfl⟩
    rw [← hy] at y0 y1 hhead ⊢
    have HH := Lib.hid hhead
    clear hhead hy
    have hwy : IntKind.u64.wrap y = y := IntWalk.u64_in _ (by omega)
    go_wp2_with fail
    refine (rfixed_put _ y 4 y0 (by omega) (by decide) (by decide)).mono ?_
    rintro e w7 ⟨A7, c7, rfl, hown7, hb7⟩
    have HO7 := Lib.hid hown7
    have hz7 := hb7.size
    have hz4 := hb4'.size
    have HO8 := Lib.hid (HO5.out.keep hb7)
    have hB7 := hB4.trans (hb7.mono hB4.size)
    clear hown7 hb7
    go_wp2_with (at_builtin; refine wp_append rfl (.tmp 40) (.tmp 43) rfl W0.heap.size A2 (4 + n) c2' _ rfl HO8.out A7 4 c7 (fxL y 4) rfl HO7.out.len HO7.out.rd (by omega) (by omega) ?_; intro A8 c8 w8 hown8 _ hb8)
    have hB8 := hB7.trans (hb8.mono hB0.size)
    rw [← HH.out] at hown8
    rw [HR.out]
    exact ⟨A8, 4 + n + 4, c8, by rw [HE2.out]; rfl, by rw [HE.out]; exact hown8.len, hown8.cap.1, hown8.cap.2, by rw [HE.out]; exact hown8.rd, hB8⟩

theorem jEntry_any (w : World) (k pg cm : Int) (A : Option Addr) (n c : Nat) (l : List Int) (hk : 0 ≤ k ∧ k ≤ 18446744073709551615) (hpg : i64ok pg) (hcm' : i64ok cm) (hn : l.length = n) (hnc : n ≤ c) (hcm : c ≤ maxLen) (hA : Rd w A l) (hB : IsB l) :
    Calls Try.prog 26 #[.int .u64 k, .agg #[.int .i64 pg, .int .i64 cm, .slice A n c]] w (PairBack w (entL k pg cm l) (entE pg cm n)) := by
  by_cases h : okEnt pg cm n
  · obtain rfl : cm = 0 := h.2.2.1
    exact jEntry_ok w k pg A n c l hk hn hnc hcm hA hB h _ rfl
  · exact jEntry_no w k pg cm A n c l hpg hcm' hn hnc hcm h _ rfl
theorem rjEntry_any (w : World) (k pg cm : Int) (A : Option Addr) (n c : Nat) (l : List Int) (hk : 0 ≤ k ∧ k ≤ 18446744073709551615) (hpg : i64ok pg) (hcm' : i64ok cm) (hn : l.length = n) (hnc : n ≤ c) (hcm : c ≤ maxLen) (hA : Rd w A l) (hB : IsB l) :
    Calls Try.prog 28 #[.int .u64 k, .agg #[.int .i64 pg, .int .i64 cm, .slice A n c]] w (PairBack w (entL k pg cm l) (entE pg cm n)) := by
  by_cases h : okEnt pg cm n
  · obtain rfl : cm = 0 := h.2.2.1
    exact rjEntry_ok w k pg A n c l hk hn hcm hnc hA hB h _ rfl
  · exact rjEntry_no w k pg cm A n c l hpg hcm' hn hnc hcm h _ rfl
end Go.Proofs.Ytlehpgokjppccaa
