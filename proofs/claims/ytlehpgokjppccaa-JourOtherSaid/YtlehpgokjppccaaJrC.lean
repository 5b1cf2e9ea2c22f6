/- Walk: tomeref11.Start. -/
import Derived.Test.YtlehpgokjppccaaJrB
import Derived.Test.YtlehpgokjppccaaSumL1
import Derived.Test.YtlehpgokjppccaaGrow
namespace Go.Proofs.Ytlehpgokjppccaa
open Go.RowKit
set_option maxRecDepth 100000

theorem rfixed_put (w : World) (x : Int) (k : Nat) (h0 : 0 ≤ x) (h1 : x ≤ 18446744073709551615) (hk : 1 ≤ k) (hk8 : k ≤ 8) :
    Calls Try.prog 32 #[.int .u64 x, .int .i64 (k : Int)] w fun e w' => ∃ A c, e = .returned (.slice A k c) ∧ OwnB w' w.heap.size A k c (fxL x k) ∧ Below w.heap.size w w' := by
  refine (rfixed_any w x (k : Int) h0 h1).mono ?_
  rintro e w1 ⟨A, n, c, rfl, hown, hb⟩
  rw [fixed_nat x k hk hk8] at hown
  have hn : k = n := by rw [← hown.len, fxL_length]
  subst hn
  exact ⟨A, c, rfl, hown, hb⟩

set_option maxHeartbeats 4000000 in
theorem rjStart_ok (w : World) (s p k : Int) (hs : i64ok s) (hk : 0 ≤ k ∧ k ≤ 18446744073709551615) (hg : okStart s p) (R : Ending → World → Prop) (hR : R = PairBack w (startL s p k) (startE s p)) :
    Calls Try.prog 27 #[.int .i64 s, .int .i64 p, .int .u64 k] w R := by
  have kc := fun (w : World) (C : Array Value) (n c g : Nat) (hg : g = w.heap.size) => Joins.run_convert_bytes_const_at (P := Try.prog) w 24 5 C n c g hg Try.underlying24 Try.underlying5
  have HR := Lib.hid hR; clear hR
  have HK := Lib.hid hk; clear hk
  have HE := Lib.hid (show startL s p k = startH s p k from if_pos hg)
  have HE2 := Lib.hid (show startE s p = 0 from if_pos hg)
  obtain ⟨g1, g2, g3, g4⟩ := hg
  have HD := Lib.hid (decide_eq_true g1)
  obtain ⟨q, hq, hqp⟩ : ∃ q, IntKind.i64.wrap ((16777216 : Int).tdiv s) = q ∧ ¬ q < p := by
    unfold isSize at g1
    rcases g1 with rfl | rfl | rfl | rfl | rfl
    · exact ⟨65536, by decide, by omega⟩
    · exact ⟨32768, by decide, by omega⟩
    · exact ⟨16384, by decide, by omega⟩
    · exact ⟨8192, by decide, by omega⟩
    · exact ⟨4096, by decide, by omega⟩
  have hsb : 256 ≤ s ∧ s ≤ 4096 := by unfold isSize at g1; omega
  have hs0 : s ≠ 0 := by omega
  have hs1 : s ≠ -1 := by omega
  have hws : IntKind.u64.wrap s = s := IntWalk.u64_in _ (by omega)
  have hwp : IntKind.u64.wrap p = p := IntWalk.u64_in _ (by omega)
  clear g1 g4
  obtain ⟨W0, hW0⟩ : ∃ W, W = w.alloc (.cells #[.int .u8 116, .int .u8 111, .int .u8 109, .int .u8 101, .int .u8 32, .int .u8 106, .int .u8 110, .int .u8 108] 5 (8, 9)) := ⟨_, rfl⟩
  have hB0 : Below w.heap.size w W0 := by rw [hW0]; exact (Below.refl _ _).alloc (Nat.le_refl _) _
  have HL := Lib.hid (show Rd W0 (some ⟨w.heap.size, 0, none⟩) jsign by rw [hW0]; exact Rd.lit (heap_alloc_new w _) rfl)
  have HW := Lib.hid hW0; clear hW0
  go_enter Try.func27, Try.ntmps27
  go_wp2_with fail
  refine (jsize_any _ s hs).mono ?_
  rintro e w1 ⟨rfl, rfl⟩
  simp only [HD.out]
  go_wp2_with fail
  rw [← HW.out]
  clear HW kc
  refine (rfixed_put _ s 4 (by omega) (by omega) (by decide) (by decide)).mono ?_
  rintro e w1 ⟨A1, c1, rfl, hown1, hb1⟩
  have HO1 := Lib.hid hown1; clear hown1
  have hB1 := hB0.trans (hb1.mono hB0.size)
  have hz1 := hB1.size
  have HL1 := Lib.hid (HL.out.keep hb1); clear HL hb1
  go_wp2_with (at_builtin; refine wp_append_full rfl (.tmp 28) (.tmp 31) rfl (some ⟨w.heap.size, 0, none⟩) 8 8 jsign rfl rfl (by decide) (by decide) HL1.out A1 4 c1 (fxL s 4) rfl HO1.out.len HO1.out.rd (by decide) (by decide) ?_; intro A2 c2 w2 hown2 hb2)
  have HO2 := Lib.hid hown2; clear hown2 HL1 HO1
  have hb2' : Below w1.heap.size w1 w2 := hb2
  have hz2 := hb2'.size
  have hB2 := hB1.trans (hb2'.mono hB1.size)
  clear hb2
  refine (rfixed_put _ p 4 (by omega) (by omega) (by decide) (by decide)).mono ?_
  rintro e w3 ⟨A3, c3, rfl, hown3, hb3⟩
  have HO3 := Lib.hid hown3; clear hown3
  have hz3 := hb3.size
  have hB3 := hB2.trans (hb3.mono hB2.size)
  have HO23 := Lib.hid (HO2.out.keep hb3); clear HO2 hb3
  go_wp2_with (at_builtin; refine wp_append rfl (.tmp 33) (.tmp 36) rfl w1.heap.size A2 12 c2 _ rfl HO23.out A3 4 c3 (fxL p 4) rfl HO3.out.len HO3.out.rd (by decide) (by omega) ?_; intro A4 c4 w4 hown4 _ hb4)
  have HO4 := Lib.hid hown4; clear hown4 HO23 HO3
  have hb4' : Below w1.heap.size w3 w4 := hb4
  have hz4 := hb4'.size
  have hB4 := hB3.trans (hb4'.mono hB1.size)
  clear hb4
  refine (rfixed_put _ k 8 HK.out.1 HK.out.2 (by decide) (by decide)).mono ?_
  rintro e w5 ⟨A5, c5, rfl, hown5, hb5⟩
  have HO5 := Lib.hid hown5; clear hown5
  have hz5 := hb5.size
  have hB5 := hB4.trans (hb5.mono hB4.size)
  have HO45 := Lib.hid (HO4.out.keep hb5); clear HO4 hb5
  go_wp2_with (at_builtin; refine wp_append rfl (.tmp 38) (.tmp 40) rfl w1.heap.size A4 16 c4 _ rfl HO45.out A5 8 c5 (fxL k 8) rfl HO5.out.len HO5.out.rd (by decide) (by omega) ?_; intro A6 c6 w6 hown6 _ hb6)
  have hb6' : Below w1.heap.size w5 w6 := hb6
  have hz6 := hb6'.size
  have hB6 := hB5.trans (hb6'.mono hB1.size)
  have hfl : jsign ++ fxL s 4 ++ fxL p 4 ++ fxL k 8 = startB s p k := by simp [startB]
  rw [hfl] at hown6
  have HO6 := Lib.hid hown6; clear hown6 hb6 HO45 HO5 hfl
  refine (rsum2_any _ A6 24 c6 (startB s p k) (startB_length s p k) (by decide) HO6.out.rd (startB_isB s p k)).mono ?_
  rintro e w7 ⟨rfl, rfl⟩
  obtain ⟨y0, y1⟩ := sumI_bd (startB s p k)
  have hhead : startH s p k = startB s p k ++ fxL (sumI (startB s p k)) 4 := rfl
  obtain ⟨y, hy⟩ : ∃ y, y = sumI (startB s p k) := ⟨_, rfl⟩
  rw [← hy] at y0 y1 hhead ⊢
  have HH := Lib.hid hhead; clear hhead hy
  have hwy : IntKind.u64.wrap y = y := IntWalk.u64_in _ (by omega)
  go_wp2_with fail
  refine (rfixed_put _ y 4 y0 (by omega) (by decide) (by decide)).mono ?_
  rintro e w7 ⟨A7, c7, rfl, hown7, hb7⟩
  have HO7 := Lib.hid hown7; clear hown7
  have hz7 := hb7.size
  have hB7 := hB6.trans (hb7.mono hB6.size)
  have HO67 := Lib.hid (HO6.out.keep hb7); clear HO6 hb7
  go_wp2_with (at_builtin; refine wp_append rfl (.tmp 42) (.tmp 46) rfl w1.heap.size A6 24 c6 _ rfl HO67.out A7 4 c7 (fxL y 4) rfl HO7.out.len HO7.out.rd (by decide) (by omega) ?_; intro A8 c8 w8 hown8 _ hb8)
  have hB8 := hB7.trans (hb8.mono hB1.size)
  rw [← HH.out] at hown8
  rw [HR.out]
  exact ⟨A8, 28, c8, by rw [HE2.out]; rfl, by rw [HE.out]; exact startH_length _ _ _, hown8.cap.1, hown8.cap.2, by rw [HE.out]; exact hown8.rd, hB8⟩

set_option maxHeartbeats 4000000 in
theorem rjStart_no (w : World) (s p k : Int) (hs : i64ok s) (hp : i64ok p) (hg : ¬ okStart s p) (R : Ending → World → Prop) (hR : R = PairBack w (startL s p k) (startE s p)) :
    Calls Try.prog 27 #[.int .i64 s, .int .i64 p, .int .u64 k] w R := by
  have HR := Lib.hid hR; clear hR
  have hs' := hs
  unfold i64ok at hs' hp
  have HE := Lib.hid (show startL s p k = [] from if_neg hg)
  have HE2 := Lib.hid (show startE s p = 1 from if_neg hg)
  have hend : R (.returned (.tuple #[.slice none 0 0, .int .i64 1])) w := by
    rw [HR.out]
    exact ⟨none, 0, 0, by rw [HE2.out], by rw [HE.out]; rfl, Nat.le_refl _, by decide, by rw [HE.out]; exact .inl rfl, Below.refl _ _⟩
  have HEND := Lib.hid hend; clear hend
  by_cases g1 : isSize s
  · have HD := Lib.hid (decide_eq_true g1)
    obtain ⟨q, hq, hqp⟩ : ∃ q, IntKind.i64.wrap ((16777216 : Int).tdiv s) = q ∧ (0 ≤ p → p ≤ 1048576 → q < p) := by
      unfold okStart isSize at hg
      unfold isSize at g1
      rcases g1 with rfl | rfl | rfl | rfl | rfl
      · exact ⟨65536, by decide, by omega⟩
      · exact ⟨32768, by decide, by omega⟩
      · exact ⟨16384, by decide, by omega⟩
      · exact ⟨8192, by decide, by omega⟩
      · exact ⟨4096, by decide, by omega⟩
    have hs0 : s ≠ 0 := by unfold isSize at g1; omega
    have hs1 : s ≠ -1 := by unfold isSize at g1; omega
    clear g1 hg
    have HQ := Lib.hid hqp; clear hqp
    by_cases g2 : p < 0
    · go_enter Try.func27, Try.ntmps27
      go_wp2_with fail
      refine (jsize_any _ s hs).mono ?_
      rintro e w1 ⟨rfl, rfl⟩
      simp only [HD.out]
      go_wp2
      exact HEND.out
    · by_cases g3 : 1048576 < p
      · go_enter Try.func27, Try.ntmps27
        go_wp2_with fail
        refine (jsize_any _ s hs).mono ?_
        rintro e w1 ⟨rfl, rfl⟩
        simp only [HD.out]
        go_wp2
        exact HEND.out
      · have hqp := HQ.out (by omega) (by omega)
        go_enter Try.func27, Try.ntmps27
        go_wp2_with fail
        refine (jsize_any _ s hs).mono ?_
        rintro e w1 ⟨rfl, rfl⟩
        simp only [HD.out]
        go_wp2
        exact HEND.out
  · have HD := Lib.hid (decide_eq_false g1)
    clear hg g1
    go_enter Try.func27, Try.ntmps27
    go_wp2_with fail
    refine (jsize_any _ s hs).mono ?_
    rintro e w1 ⟨rfl, rfl⟩
    simp only [HD.out]
    go_wp2
    exact HEND.out
theorem rjStart_any (w : World) (s p k : Int) (hs : i64ok s) (hp : i64ok p) (hk : 0 ≤ k ∧ k ≤ 18446744073709551615) :
    Calls Try.prog 27 #[.int .i64 s, .int .i64 p, .int .u64 k] w (PairBack w (startL s p k) (startE s p)) := by
  by_cases hg : okStart s p
  · exact rjStart_ok w s p k hs hk hg _ rfl
  · exact rjStart_no w s p k hs hp hg _ rfl
end Go.Proofs.Ytlehpgokjppccaa
