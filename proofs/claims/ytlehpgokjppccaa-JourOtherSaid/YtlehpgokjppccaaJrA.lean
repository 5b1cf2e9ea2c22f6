/- A journal: plain; walks: jour.right, tomeref11.Size, jour.start. -/
import Derived.Test.YtlehpgokjppccaaHdZ
import Derived.Test.YtlehpgokjppccaaHdQ
import Derived.Test.YtlehpgokjppccaaSumG
import Derived.Test.YtlehpgokjppccaaJoin
import Derived.Lib.SmallJoins
namespace Go.Proofs.Ytlehpgokjppccaa
open Go.RowKit
set_option maxRecDepth 100000

def jsign : List Int := [116, 111, 109, 101, 32, 106, 110, 108]
theorem jsign_isB : IsB jsign := by unfold jsign IsB; decide
def startB (s p k : Int) : List Int := jsign ++ (fxL s 4 ++ (fxL p 4 ++ fxL k 8))
def startH (s p k : Int) : List Int := startB s p k ++ fxL (sumI (startB s p k)) 4
theorem startB_length (s p k : Int) : (startB s p k).length = 24 := by simp [startB, jsign, fxL_length]
theorem startH_length (s p k : Int) : (startH s p k).length = 28 := by simp [startH, startB_length, fxL_length]
theorem startB_isB (s p k : Int) : IsB (startB s p k) := isB_append jsign_isB (isB_append (fxL_isB _ _) (isB_append (fxL_isB _ _) (fxL_isB _ _)))
theorem startH_isB (s p k : Int) : IsB (startH s p k) := isB_append (startB_isB _ _ _) (fxL_isB _ _)

theorem jright_any (w : World) (n : Int) (_hn : i64ok n) : Calls Try.prog 47 #[.int .i64 n] w fun e w' => e = .returned (.bool (decide (isSize n))) ∧ w = w' := by
  by_cases h0 : 256 ≤ n
  · by_cases h1 : n ≤ 4096
    · have hb := size_bits h0 h1
      have hw : IntKind.i64.wrap (n - 1) = n - 1 := IntWalk.i64_in _ (by omega)
      go_enter Try.func47, Try.ntmps47
      go_wp2
      go_ret
      exact ⟨rfl, rfl⟩
    · have hs : decide (isSize n) = false := decide_eq_false (by unfold isSize; omega)
      rw [hs]
      go_enter Try.func47, Try.ntmps47
      go_wp2
      go_ret
      exact ⟨rfl, rfl⟩
  · have hs : decide (isSize n) = false := decide_eq_false (by unfold isSize; omega)
    rw [hs]
    go_enter Try.func47, Try.ntmps47
    go_wp2
    go_ret
    exact ⟨rfl, rfl⟩

theorem jsize_any (w : World) (n : Int) (_hn : i64ok n) : Calls Try.prog 51 #[.int .i64 n] w fun e w' => e = .returned (.bool (decide (isSize n))) ∧ w = w' := by
  by_cases h : isSize n
  · rw [decide_eq_true h]
    unfold isSize at h
    rcases h with rfl | rfl | rfl | rfl | rfl
    all_goals go_enter Try.func51, Try.ntmps51
    all_goals go_wp2
    all_goals go_ret
    all_goals exact ⟨rfl, rfl⟩
  · rw [decide_eq_false h]
    unfold isSize at h
    have h1 : (n == 256) = false := by simp; omega
    have h2 : (n == 512) = false := by simp; omega
    have h3 : (n == 1024) = false := by simp; omega
    have h4 : (n == 2048) = false := by simp; omega
    have h5 : (n == 4096) = false := by simp; omega
    clear h
    go_enter Try.func51, Try.ntmps51
    go_wp2
    go_ret
    exact ⟨rfl, rfl⟩

theorem fresh_rd {w : World} {l : List Int} {e : Ending} {w' : World} (h : FreshBack w l e w') : ∃ g n, e = .returned (.slice (some ⟨g, 0, none⟩) n n) ∧ l.length = n ∧ n ≤ maxLen ∧ Rd w' (some ⟨g, 0, none⟩) l ∧ Below w.heap.size w w' := by
  obtain ⟨g, n, rfl, h1, h2, h3, h4, h5, h6, h7⟩ := h
  exact ⟨g, n, rfl, h1.symm, h4, .inr ⟨g, 0, rfl, fun i hi => by simpa using h5 i (by omega)⟩, h7⟩

/-- Two rows, four rows, written out. -/
theorem rows2 {w : World} {A1 A2 : Option Addr} {n1 c1 n2 c2 : Nat} {l1 l2 : List Int} (t : TypeId) (fr : Nat × Nat)
    (e1 : l1.length = n1) (k1 : n1 ≤ c1) (m1 : c1 ≤ maxLen) (r1 : Rd w A1 l1) (e2 : l2.length = n2) (k2 : n2 ≤ c2) (m2 : c2 ≤ maxLen) (r2 : Rd w A2 l2) :
    RdRows (w.alloc (.cells #[.slice A1 n1 c1, .slice A2 n2 c2] t fr)) (some ⟨w.heap.size, 0, none⟩) [l1, l2] := by
  have hb : Below w.heap.size w (w.alloc (.cells #[.slice A1 n1 c1, .slice A2 n2 c2] t fr)) := (Below.refl _ _).alloc (Nat.le_refl _) _
  subst e1 e2
  refine .inr ⟨_, 0, rfl, fun i hi => ?_⟩
  simp at hi
  rcases (by omega : i = 0 ∨ i = 1) with rfl | rfl
  · exact ⟨A1, c1, by simp [go_sem, Joins.cell_alloc_mark_at, rw_], by simpa [rw_] using k1, m1, r1.keep hb⟩
  · exact ⟨A2, c2, by simp [go_sem, Joins.cell_alloc_mark_at, rw_], by simpa [rw_] using k2, m2, r2.keep hb⟩
theorem rows4 {w : World} {A1 A2 A3 A4 : Option Addr} {n1 c1 n2 c2 n3 c3 n4 c4 : Nat} {l1 l2 l3 l4 : List Int} (t : TypeId) (fr : Nat × Nat)
    (e1 : l1.length = n1) (k1 : n1 ≤ c1) (m1 : c1 ≤ maxLen) (r1 : Rd w A1 l1) (e2 : l2.length = n2) (k2 : n2 ≤ c2) (m2 : c2 ≤ maxLen) (r2 : Rd w A2 l2) (e3 : l3.length = n3) (k3 : n3 ≤ c3) (m3 : c3 ≤ maxLen) (r3 : Rd w A3 l3) (e4 : l4.length = n4) (k4 : n4 ≤ c4) (m4 : c4 ≤ maxLen) (r4 : Rd w A4 l4) :
    RdRows (w.alloc (.cells #[.slice A1 n1 c1, .slice A2 n2 c2, .slice A3 n3 c3, .slice A4 n4 c4] t fr)) (some ⟨w.heap.size, 0, none⟩) [l1, l2, l3, l4] := by
  have hb : Below w.heap.size w (w.alloc (.cells #[.slice A1 n1 c1, .slice A2 n2 c2, .slice A3 n3 c3, .slice A4 n4 c4] t fr)) := (Below.refl _ _).alloc (Nat.le_refl _) _
  subst e1 e2 e3 e4
  refine .inr ⟨_, 0, rfl, fun i hi => ?_⟩
  simp at hi
  rcases (by omega : i = 0 ∨ i = 1 ∨ i = 2 ∨ i = 3) with rfl | rfl | rfl | rfl
  · exact ⟨A1, c1, by simp [go_sem, Joins.cell_alloc_mark_at, rw_], by simpa [rw_] using k1, m1, r1.keep hb⟩
  · exact ⟨A2, c2, by simp [go_sem, Joins.cell_alloc_mark_at, rw_], by simpa [rw_] using k2, m2, r2.keep hb⟩
  · exact ⟨A3, c3, by simp [go_sem, Joins.cell_alloc_mark_at, rw_], by simpa [rw_] using k3, m3, r3.keep hb⟩
  · exact ⟨A4, c4, by simp [go_sem, Joins.cell_alloc_mark_at, rw_], by simpa [rw_] using k4, m4, r4.keep hb⟩

theorem fixed_put (w : World) (x : Int) (k : Nat) (h0 : 0 ≤ x) (h1 : x ≤ 18446744073709551615) (hk : 1 ≤ k) (hk8 : k ≤ 8) :
    Calls Try.prog 50 #[.int .u64 x, .int .i64 (k : Int)] w fun e w' => ∃ A c, e = .returned (.slice A k c) ∧ OwnB w' w.heap.size A k c (fxL x k) ∧ Below w.heap.size w w' := by
  refine (fixed_any w x (k : Int) h0 h1).mono ?_
  rintro e w1 ⟨A, n, c, rfl, hown, hb⟩
  rw [fixed_nat x k hk hk8] at hown
  have hn : k = n := by rw [← hown.len, fxL_length]
  subst hn
  exact ⟨A, c, rfl, hown, hb⟩

theorem fresh_lift {w w2 : World} {l k : List Int} {e : Ending} {w' : World} (h : FreshBack w2 l e w') (hb : Below w.heap.size w w2) (hk : l = k) : FreshBack w k e w' := by
  subst hk
  obtain ⟨g, n, rfl, h1, h2, h3, h4, h5, h6, h7⟩ := h
  exact ⟨g, n, rfl, h1, Nat.le_trans hb.size h2, h3, h4, h5, h6, hb.trans (h7.mono hb.size)⟩

set_option maxHeartbeats 4000000 in
theorem jstart_any (w : World) (s p k : Int) (hs : 0 ≤ s ∧ s ≤ 18446744073709551615) (hp : 0 ≤ p ∧ p ≤ 18446744073709551615) (hk : 0 ≤ k ∧ k ≤ 18446744073709551615) (R : Ending → World → Prop) (hR : R = FreshBack w (startH s p k)) :
    Calls Try.prog 48 #[.int .u64 s, .int .u64 p, .int .u64 k] w R := by
  have kc := fun (w : World) (C : Array Value) (n c g : Nat) (hg : g = w.heap.size) => Joins.run_convert_bytes_const_at (P := Try.prog) w 24 5 C n c g hg Try.underlying24 Try.underlying5
  have HR := Lib.hid hR; clear hR
  have HS := Lib.hid hs; clear hs
  have HP := Lib.hid hp; clear hp
  have HK := Lib.hid hk; clear hk
  obtain ⟨W0, hW0⟩ : ∃ W, W = w.alloc (.cells #[.int .u8 116, .int .u8 111, .int .u8 109, .int .u8 101, .int .u8 32, .int .u8 106, .int .u8 110, .int .u8 108] 5 (8, 9)) := ⟨_, rfl⟩
  have hB0 : Below w.heap.size w W0 := by rw [hW0]; exact (Below.refl _ _).alloc (Nat.le_refl _) _
  have HL := Lib.hid (show Rd W0 (some ⟨w.heap.size, 0, none⟩) jsign by rw [hW0]; exact Rd.lit (heap_alloc_new w _) rfl)
  have HW := Lib.hid hW0; clear hW0
  go_enter Try.func48, Try.ntmps48
  go_wp2_with fail
  rw [← HW.out]
  clear HW kc
  refine (fixed_put _ s 4 HS.out.1 HS.out.2 (by decide) (by decide)).mono ?_
  rintro e w1 ⟨A1, c1, rfl, hown1, hb1⟩
  have HO1 := Lib.hid hown1; clear hown1
  have hB1 := hB0.trans (hb1.mono hB0.size)
  have HL1 := Lib.hid (HL.out.keep hb1); clear HL hb1
  go_wp2_with fail
  refine (fixed_put _ p 4 HP.out.1 HP.out.2 (by decide) (by decide)).mono ?_
  rintro e w2 ⟨A2, c2, rfl, hown2, hb2⟩
  have HO2 := Lib.hid hown2; clear hown2
  have hB2 := hB1.trans (hb2.mono hB1.size)
  have HL2 := Lib.hid (HL1.out.keep hb2); clear HL1
  have HO12 := Lib.hid (HO1.out.keep hb2); clear HO1 hb2
  go_wp2_with fail
  refine (fixed_put _ k 8 HK.out.1 HK.out.2 (by decide) (by decide)).mono ?_
  rintro e w3 ⟨A3, c3, rfl, hown3, hb3⟩
  have HO3 := Lib.hid hown3; clear hown3
  have hB3 := hB2.trans (hb3.mono hB2.size)
  have HL3 := Lib.hid (HL2.out.keep hb3); clear HL2
  have HO13 := Lib.hid (HO12.out.keep hb3); clear HO12
  have HO23 := Lib.hid (HO2.out.keep hb3); clear HO2 hb3
  go_wp2_with fail
  refine (join_any _ _ 4 4 [jsign, fxL s 4, fxL p 4, fxL k 8] rfl (by decide) (Nat.le_refl _) (by decide) (rows4 _ _ rfl (Nat.le_refl 8) (by decide) HL3.out (fxL_length _ _) HO13.out.cap.1 HO13.out.cap.2 HO13.out.rd (fxL_length _ _) HO23.out.cap.1 HO23.out.cap.2 HO23.out.rd (fxL_length _ _) HO3.out.cap.1 HO3.out.cap.2 HO3.out.rd) (by simp [fxL_length, jsign])).mono ?_
  rintro e w4 hf
  obtain ⟨g, nj, rfl, hnj, hmj, hrd, hb4⟩ := fresh_rd hf
  have hfl : [jsign, fxL s 4, fxL p 4, fxL k 8].flatten = startB s p k := by simp [startB]
  rw [hfl] at hnj hrd
  rw [startB_length] at hnj
  subst hnj
  have hB4 : Below w.heap.size w w4 := (hB3.alloc hB3.size _).trans (hb4.mono (by simp; have := hB3.size; omega))
  have HRD := Lib.hid hrd; clear hrd hf hb4 hfl
  go_wp2_with fail
  refine (sum1_any _ w4.heap.size _ 24 24 (startB s p k) (startB_length s p k) (by simp [go_sem]) (Nat.le_refl _) (by decide) (HRD.out.keep ((Below.refl _ _).alloc (Nat.le_refl _) _)) (startB_isB s p k)).mono ?_
  rintro e w5 ⟨rfl, hb5⟩
  have hB5 : Below w.heap.size w w5 := (hB4.alloc hB4.size _).trans (hb5.mono (by simp; have := hB4.size; omega))
  have HRD5 := Lib.hid ((HRD.out.keep ((Below.refl _ _).alloc (Nat.le_refl _) _)).keep hb5); clear HRD hb5
  obtain ⟨y0, y1⟩ := sumI_bd (startB s p k)
  have hhead : startH s p k = startB s p k ++ fxL (sumI (startB s p k)) 4 := rfl
  obtain ⟨y, hy⟩ : ∃ y, y = sumI (startB s p k) := ⟨_, rfl⟩
  rw [← hy] at y0 y1 hhead ⊢
  have HH := Lib.hid hhead; clear hhead hy
  have hwy : IntKind.u64.wrap y = y := IntWalk.u64_in _ (by omega)
  go_wp2_with fail
  refine (fixed_put _ y 4 y0 (by omega) (by decide) (by decide)).mono ?_
  rintro e w6 ⟨A6, c6, rfl, hown6, hb6⟩
  have HO6 := Lib.hid hown6; clear hown6
  have hB6 := hB5.trans (hb6.mono hB5.size)
  have HRD6 := Lib.hid (HRD5.out.keep hb6); clear HRD5 hb6
  go_wp2_with fail
  refine (join_any _ _ 2 2 [startB s p k, fxL y 4] rfl (by decide) (Nat.le_refl _) (by decide) (rows2 _ _ (startB_length _ _ _) (Nat.le_refl 24) (by decide) HRD6.out (fxL_length _ _) HO6.out.cap.1 HO6.out.cap.2 HO6.out.rd) (by simp [fxL_length, startB_length])).mono ?_
  rintro e w7 hf
  have hfl := fresh_lift hf (hB6.alloc hB6.size _) (show [startB s p k, fxL y 4].flatten = startH s p k by rw [HH.out]; simp)
  have HF := Lib.hid hfl; clear hfl
  obtain ⟨g7, n7, rfl, hrest⟩ := hf
  clear hrest
  go_wp2
  rw [HR.out]
  exact HF.out
end Go.Proofs.Ytlehpgokjppccaa
