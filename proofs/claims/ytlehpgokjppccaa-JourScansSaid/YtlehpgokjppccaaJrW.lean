/- tomeref11.Scan: its contract; the walk of the law JourScans. -/
import Derived.Test.YtlehpgokjppccaaJrV
namespace Go.Proofs.Ytlehpgokjppccaa
open Go.RowKit
set_option maxRecDepth 100000

theorem rscan_any (w : World) (A : Option Addr) (n c : Nat) (l : List Int) (hn : l.length = n) (hnc : n ≤ c) (hcm : c ≤ maxLen) (hA : Rd w A l) (hB : IsB l) (hbig : n ≤ 900000000000) :
    Calls Try.prog 23 #[.slice A n c] w (RScanBack w l) := by
  by_cases h28 : n < 28
  · exact rscan_short w A n c l hn h28 _ rfl
  · by_cases hs : l.take 8 = jsign
    · by_cases hok : hdOk l
      · exact rscan_good w A n c l hn hnc hcm hA hB (by omega) hs hok hbig _ rfl
      · exact rscan_bad w A n c l hn hnc hcm hA hB (by omega) hs hok _ rfl
    · exact rscan_sign w A n c l hn hnc hA hB (by omega) hs _ rfl

set_option maxHeartbeats 8000000 in
theorem jscans_walk (w : World) (A : Option Addr) (n c : Nat) (l : List Int) (hn : l.length = n) (hnc : n ≤ c) (hcm : c ≤ maxLen) (hA : Rd w A l) (hB : IsB l) :
    Calls Try.prog 6 #[.slice A n c] w (JYes w) := by
  have HN := Lib.hid hn; clear hn
  have HA := Lib.hid hA; clear hA
  have HB := Lib.hid hB; clear hB
  have HC := Lib.hid hcm; clear hcm
  obtain ⟨⟨s, p, k, F, z⟩, hS⟩ : ∃ S, scanL l = S := ⟨_, rfl⟩
  have HS := Lib.hid hS; clear hS
  go_enter Try.func6, Try.ntmps6
  go_wp2_with fail
  refine (jawake_any _).mono ?_
  rintro e w1 ⟨rfl, hB1⟩
  by_cases hg : 40000 < n
  · go_wp2_with fail
    refine (jawake_any _).mono ?_
    rintro e w2 ⟨rfl, hb2⟩
    have hB2 := hB1.trans (hb2.mono hB1.size)
    go_wp2
    go_ret
    exact ⟨rfl, hB2⟩
  · go_wp2_with fail
    refine (scan_any _ A n c l HN.out hnc HC.out (HA.out.keep hB1) HB.out (by omega)).mono ?_
    rintro e w2 ⟨A2, m2, c2, rfl, h21, h22, h23, hb2⟩
    simp only [HS.out] at h21 h23 ⊢
    have hB2 := hB1.trans (hb2.mono hB1.size)
    have HF2 := Lib.hid h23
    have HL2 := Lib.hid h21
    clear h23 h21 hb2
    have hz2 := hB2.size
    go_wp2_with fail
    refine (rscan_any _ A n c l HN.out hnc HC.out (HA.out.keep hB2) HB.out (by omega)).mono ?_
    rintro e w3 ⟨A3, m3, c3, rfl, h31, h32, h33, hb3⟩
    simp only [HS.out] at h31 h33 ⊢
    have hB3 := hB2.trans (hb3.mono hB2.size)
    have HF3 := Lib.hid h33
    have HL3 := Lib.hid h31
    have HF2' := Lib.hid (HF2.out.keep hb3)
    clear h33 h31 hb3
    obtain ⟨W4, hW4⟩ : ∃ W, W = w3.alloc (.cells #[.int .i64 0, .int .i64 0, .int .u64 0, .slice none 0 0] 48) := ⟨_, rfl⟩
    have hB4 : Below w3.heap.size w3 W4 := by rw [hW4]; exact (Below.refl _ _).alloc (Nat.le_refl _) _
    have hth4 : W4.there w3.heap.size 0 4 := by
      rw [hW4]
      intro j hj
      rcases (by omega : j = 0 ∨ j = 1 ∨ j = 2 ∨ j = 3) with rfl | rfl | rfl | rfl <;> simp [go_sem]
    have HTH4 := Lib.hid hth4; clear hth4
    have HW := Lib.hid hW4
    iterate 13 go_step
    rw [← hW4]
    clear hW4 HW
    refine wp_store_jn rfl _ _ rfl w3.heap.size s p k A3 m3 c3 rfl rfl HTH4.out ?_
    obtain ⟨W5, hW5⟩ : ∃ W, W = W4.setCells w3.heap.size 0 (jnC s p k A3 m3 c3) := ⟨_, rfl⟩
    have hM5 : MdAt W5 w3.heap.size s p k A3 m3 c3 := by rw [hW5]; exact MdAt.stored HTH4.out _ _ _ _ _ _
    have hb5 : Below w3.heap.size w3 W5 := by rw [hW5]; exact below_setCells hB4 (Nat.le_refl _) _ _
    rw [← hW5]
    clear hW5
    have hB5 := hB3.trans (hb5.mono hB3.size)
    obtain ⟨q0, q1, q2, q3⟩ := hM5
    go_wp2_with fail
    refine (frames_any _ A2 A3 m2 c2 m3 c3 F F HL2.out HL3.out h22 (HF2'.out.keep hb5) (HF3.out.keep hb5)).mono ?_
    rintro e w6 ⟨rfl, hb6⟩
    simp only [decide_true]
    have hB6 := hB5.trans (hb6.mono hB5.size)
    clear hb6
    go_wp2
    go_ret
    exact ⟨rfl, hB6⟩
end Go.Proofs.Ytlehpgokjppccaa
