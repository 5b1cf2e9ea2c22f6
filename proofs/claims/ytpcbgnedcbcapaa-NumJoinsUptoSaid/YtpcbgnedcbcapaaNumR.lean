/- The walk of the law NumBack. -/
import Derived.Test.YtpcbgnedcbcapaaNumQ
namespace Go.Proofs.Ytpcbgnedcbcapaa
open Go.RowKit

theorem keep1 {wx w1 w2 : World} (h : Below wx.heap.size wx w1) (hb : Below w1.heap.size w1 w2) : Below wx.heap.size wx w2 := h.trans (hb.mono h.size)

/-- Three rows, written out. -/
theorem rows3 {w : World} {A1 A2 A3 : Option Addr} {n1 c1 n2 c2 n3 c3 : Nat} {l1 l2 l3 : List Int} (t : TypeId) (fr : Nat × Nat)
    (e1 : l1.length = n1) (k1 : n1 ≤ c1) (m1 : c1 ≤ maxLen) (r1 : Rd w A1 l1) (e2 : l2.length = n2) (k2 : n2 ≤ c2) (m2 : c2 ≤ maxLen) (r2 : Rd w A2 l2) (e3 : l3.length = n3) (k3 : n3 ≤ c3) (m3 : c3 ≤ maxLen) (r3 : Rd w A3 l3) :
    RdRows (w.alloc (.cells #[.slice A1 n1 c1, .slice A2 n2 c2, .slice A3 n3 c3] t fr)) (some ⟨w.heap.size, 0, none⟩) [l1, l2, l3] := by
  have hb : Below w.heap.size w (w.alloc (.cells #[.slice A1 n1 c1, .slice A2 n2 c2, .slice A3 n3 c3] t fr)) := (Below.refl _ _).alloc (Nat.le_refl _) _
  subst e1 e2 e3
  refine .inr ⟨_, 0, rfl, fun i hi => ?_⟩
  simp at hi
  rcases (by omega : i = 0 ∨ i = 1 ∨ i = 2) with rfl | rfl | rfl
  · exact ⟨A1, c1, by simp [go_sem, Joins.cell_alloc_mark_at, rw_], by simpa [rw_] using k1, m1, r1.keep hb⟩
  · exact ⟨A2, c2, by simp [go_sem, Joins.cell_alloc_mark_at, rw_], by simpa [rw_] using k2, m2, r2.keep hb⟩
  · exact ⟨A3, c3, by simp [go_sem, Joins.cell_alloc_mark_at, rw_], by simpa [rw_] using k3, m3, r3.keep hb⟩

set_option maxRecDepth 100000 in
set_option maxHeartbeats 8000000 in
theorem nback_walk (w : World) (x : Int) (A1 : Option Addr) (n1 c1 : Nat) (l1 : List Int) (A2 : Option Addr) (n2 c2 : Nat) (l2 : List Int) (hx : -9223372036854775808 ≤ x ∧ x ≤ 9223372036854775807)
    (hn1 : l1.length = n1) (hnc1 : n1 ≤ c1) (hcm1 : c1 ≤ maxLen) (hA1 : Rd w A1 l1) (hB1 : IsB l1) (hn2 : l2.length = n2) (hnc2 : n2 ≤ c2) (hcm2 : c2 ≤ maxLen) (hA2 : Rd w A2 l2) (hB2 : IsB l2)
    (hr1 : n1 ≤ 140737488351232) (hr2 : n2 ≤ 140737488351232) :
    Calls Try.prog 12 #[.int .i64 x, .slice A1 n1 c1, .slice A2 n2 c2] w (NYes w) := by
  have HX := Lib.hid hx
  have R1 := Lib.hid hA1; clear hA1
  have R2 := Lib.hid hA2; clear hA2
  have I1 := Lib.hid hB1; clear hB1
  have I2 := Lib.hid hB2; clear hB2
  have N1 := Lib.hid hn1; clear hn1
  have N2 := Lib.hid hn2; clear hn2
  have hvl := varL_len hx
  obtain ⟨y, hy⟩ : ∃ y, y = IntKind.u64.wrap x := ⟨_, rfl⟩
  have hyb : 0 ≤ y ∧ y ≤ 18446744073709551615 := by rw [hy]; simp [IntKind.wrap, IntKind.bits, IntKind.signed]; omega
  have HYB := Lib.hid hyb; clear hyb
  have HP := Lib.hid (unv_put l1 l2 hx)
  have HQ := Lib.hid (read_put l1 l2 HYB.out)
  clear hx
  go_enter Try.func12, Try.ntmps12
  go_wp2_with fail
  refine (varint_any _ x HX.out).mono ?_
  rintro e w1 ⟨Av, nv, cv, rfl, hown, hb1⟩
  have hnv := hown.len
  rw [hnv] at hvl
  have HO := Lib.hid hown; clear hown
  have hS1 := hb1.size
  go_wp2_with fail
  refine (join_any _ _ 3 3 [l1, varL x, l2] rfl (by decide) (Nat.le_refl _) (by decide) (rows3 _ _ N1.out hnc1 hcm1 (R1.out.keep hb1) hnv HO.out.cap.1 HO.out.cap.2 HO.out.rd N2.out hnc2 hcm2 (R2.out.keep hb1)) (by simp [N1.out, N2.out, hnv]; omega)).mono ?_
  rintro e w2 hf
  obtain ⟨g, nj, rfl, hnj, hmj, hrd, hb⟩ := hf.rd
  clear hf
  have hB2 : Below w.heap.size w w2 := (hb1.alloc hS1 _).trans (hb.mono (by simp; omega))
  have hS2 := hB2.size
  clear hb
  have e3 : [l1, varL x, l2].flatten = l1 ++ (varL x ++ l2) := by simp
  rw [e3] at hrd hnj
  have HR := Lib.hid hrd; clear hrd
  have HNJ := Lib.hid hnj
  have hIB : IsB (l1 ++ (varL x ++ l2)) := by
    intro z hz
    simp only [List.mem_append] at hz
    rcases hz with hz | hz | hz
    · exact I1.out z hz
    · exact vl_isB _ z hz
    · exact I2.out z hz
  have HIB := Lib.hid hIB; clear hIB
  have hnj2 : n1 + nv + n2 = nj := by rw [← hnj, List.length_append, List.length_append, N1.out, N2.out, hnv]; omega
  clear hnj
  have hsum : IntKind.i64.wrap ((n1 : Int) + (nv : Int)) = (n1 : Int) + (nv : Int) := IntWalk.i64_in _ (by omega)
  have hPe : unvL (l1 ++ (varL x ++ l2)) (n1 : Int) = (x, (n1 : Int) + (nv : Int), 0) := by
    have := HP.out
    rw [N1.out, hnv] at this
    exact this
  go_wp2_with fail
  refine (unv_any _ _ nj nj (l1 ++ (varL x ++ l2)) (n1 : Int) HNJ.out (Nat.le_refl _) hmj HR.out HIB.out (by omega)).mono ?_
  rintro e w3 ⟨rfl, rfl⟩
  simp only [hPe]
  clear hPe
  subst hy
  go_wp2_with fail
  refine (fixed_any _ (IntKind.u64.wrap x) 8 HYB.out.1 HYB.out.2).mono ?_
  rintro e w4 ⟨Af, nf, cf, rfl, hown, hb⟩
  have hnf : 8 = nf := by rw [← hown.len, show (8 : Int) = (8 : Nat) from rfl, fixed_nat _ 8 (by decide) (by decide), fxL_length]
  subst hnf
  have HF := Lib.hid hown; clear hown
  have hB4 := hB2.trans (hb.mono hS2)
  have hS4 := hB4.size
  clear hb
  go_wp2_with fail
  refine (join_any _ _ 3 3 [l1, fixedL (IntKind.u64.wrap x) 8, l2] rfl (by decide) (Nat.le_refl _) (by decide) (rows3 _ _ N1.out hnc1 hcm1 (R1.out.keep hB4) HF.out.len HF.out.cap.1 HF.out.cap.2 HF.out.rd N2.out hnc2 hcm2 (R2.out.keep hB4)) (by simp [N1.out, N2.out, HF.out.len]; omega)).mono ?_
  rintro e w5 hf
  obtain ⟨g2, nk, rfl, hnk, hmk, hrd, hb⟩ := hf.rd
  clear hf
  have hB5 : Below w.heap.size w w5 := (hB4.alloc hS4 _).trans (hb.mono (by simp; omega))
  have hS5 := hB5.size
  clear hb
  have e4 : [l1, fixedL (IntKind.u64.wrap x) 8, l2].flatten = l1 ++ (fixedL (IntKind.u64.wrap x) 8 ++ l2) := by simp
  rw [e4] at hrd hnk
  have HR2 := Lib.hid hrd; clear hrd
  have HNK := Lib.hid hnk
  have hIB : IsB (l1 ++ (fixedL (IntKind.u64.wrap x) 8 ++ l2)) := by
    intro z hz
    simp only [List.mem_append] at hz
    rcases hz with hz | hz | hz
    · exact I1.out z hz
    · rw [show (8 : Int) = (8 : Nat) from rfl, fixed_nat _ 8 (by decide) (by decide)] at hz; exact fxL_isB _ _ z hz
    · exact I2.out z hz
  have HIB2 := Lib.hid hIB; clear hIB
  clear hnk
  have hQe : readL (l1 ++ (fixedL (IntKind.u64.wrap x) 8 ++ l2)) (n1 : Int) 8 = (IntKind.u64.wrap x, 0) := by
    have := HQ.out
    rw [N1.out] at this
    exact this
  go_wp2_with fail
  refine (read_any _ _ nk nk (l1 ++ (fixedL (IntKind.u64.wrap x) 8 ++ l2)) (n1 : Int) 8 HNK.out (Nat.le_refl _) hmk HR2.out HIB2.out (by omega)).mono ?_
  rintro e w6 ⟨rfl, rfl⟩
  simp only [hQe]
  clear hQe
  go_wp2_with fail
  refine (unv_any _ A2 n2 c2 l2 0 N2.out hnc2 hcm2 (R2.out.keep hB5) I2.out (by decide)).mono ?_
  rintro e w7 ⟨rfl, rfl⟩
  by_cases h0 : (unvL l2 0).2.2 = 0
  · obtain ⟨t, ht, ht0, htl, hvar, hxr⟩ := unv_back I2.out h0
    rw [N2.out] at htl
    have HV := Lib.hid hvar; clear hvar
    have HXR := Lib.hid hxr; clear hxr
    simp only [ht, h0]
    clear ht h0
    obtain ⟨z, hz⟩ : ∃ z, z = (unvL l2 0).1 := ⟨_, rfl⟩
    rw [← hz] at HV HXR
    simp only [← hz]
    clear hz
    obtain ⟨b, off, hA, hbl, hcell⟩ := Rd.at R2.out (by rw [N2.out]; omega)
    subst hA
    go_wp2_with fail
    have hc9 : t ≤ c2 := by omega
    have hcell2 : Rd w5 (some ⟨b, off, none⟩) (l2.take t) := by
      refine .inr ⟨b, off, rfl, fun i hi => ?_⟩
      have hi' : i < t := by simp at hi; omega
      rw [hB5.cell hbl, hcell i (by rw [N2.out]; omega)]
      simp [bt, hi']
    rw [← HV.out] at hcell2
    have HC := Lib.hid hcell2; clear hcell2 hcell
    have HT := Lib.hid (show (varL z).length = t by rw [HV.out, List.length_take, N2.out]; omega)
    obtain ⟨wx, hwx⟩ : ∃ x, x = w5 := ⟨_, rfl⟩
    rw [← hwx] at HC hB5 hS5 ⊢
    clear hwx
    clear hB2 hS2 hB4 hS4 HR HR2 HIB HIB2 hb1 hS1
    go_region_held3 (fun w' => Below wx.heap.size wx w') (first | assumption | (exact (Below.refl _ _).drew) | (exact keep1 (by assumption) hb8) | (exact keep1 (by assumption) hb9) | (exact keep1 (by assumption) hb10)) (first
      | (go_at_call 27; refine (live_any _).mono ?_; rintro e w8 ⟨rfl, hb8⟩)
      | (go_at_call 33; refine (varint_any _ z HXR.out).mono ?_; rintro e w9 ⟨A9, n9, c9, rfl, hown, hb9⟩; have HO9 := Lib.hid hown; clear hown)
      | (go_at_call 28; refine (same1_any _ A9 (some ⟨b, off, none⟩) n9 c9 t c2 (varL z) (varL z) HO9.out.len HT.out (by have := HO9.out.cap; unfold maxLen at this; omega) HO9.out.rd (HC.out.keep (by assumption))).mono ?_; rintro e w10 ⟨rfl, hb10⟩; simp only [beqL_self]))
    all_goals go_wp2
    all_goals go_ret
    all_goals exact ⟨rfl, hB5.trans (Below.mono (by assumption) hS5)⟩
  · go_wp2_with fail
    refine (live_any _).mono ?_
    rintro e w8 ⟨rfl, hb⟩
    have hB8 := hB5.trans (hb.mono hS5)
    clear hb
    go_wp2
    go_ret
    exact ⟨rfl, hB8⟩
end Go.Proofs.Ytpcbgnedcbcapaa
