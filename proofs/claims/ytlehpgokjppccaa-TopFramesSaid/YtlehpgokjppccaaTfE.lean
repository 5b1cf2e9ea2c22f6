/- Several texts of this proof as one: HdJ. Laid by merge.py. -/
import Derived.Test.YtlehpgokjppccaaTfA
import Derived.Test.YtlehpgokjppccaaTfB
import Derived.Test.YtlehpgokjppccaaTfD
import Derived.ArgAppend
import Derived.BigQuiet
import Derived.ChangeKeysEq
import Derived.Deep.DeepCutAuto
import Derived.Deep.MidRow
import Derived.Deep.QuietTactic
import Derived.Deep.RegionHeld3
import Derived.Deep.RegionLaw
import Derived.Handy
import Derived.Laws.ResultCell
import Derived.Lib.AppendStr
import Derived.Lib.Hide
import Derived.Lib.SmallJoins
import Derived.Maps.AppendAt
import Derived.Test.YtlehpgokjppccaaProg
import Derived.WalkKit
import Derived.WalkSpells
namespace Go.Proofs.Ytlehpgokjppccaa
section
open Go.RowKit
set_option maxRecDepth 100000
theorem HdAt.keep {w w' : World} {g : Nat} {h : Hd} (k : HdAt w g h) (hb : Below w.heap.size w w') (hg : g < w.heap.size) : HdAt w' g h := fun i hi => (hb.cell hg).trans (k i hi)
theorem HdAt.all {w : World} {g : Nat} {h : Hd} (k : HdAt w g h) : w.cell? ⟨g, 0, none⟩ = some (.int .i64 h.s) ∧ w.cell? ⟨g, 1, none⟩ = some (.int .i64 h.p) ∧ w.cell? ⟨g, 2, none⟩ = some (.int .i64 h.f) ∧ w.cell? ⟨g, 3, none⟩ = some (.int .i64 h.m) ∧ w.cell? ⟨g, 4, none⟩ = some (.int .i64 h.c) ∧ w.cell? ⟨g, 5, none⟩ = some (.int .i64 h.v) :=
  ⟨k 0 (by decide), k 1 (by decide), k 2 (by decide), k 3 (by decide), k 4 (by decide), k 5 (by decide)⟩

set_option maxHeartbeats 8000000 in
theorem decode_good (w : World) (A : Option Addr) (n c : Nat) (l : List Int) (hn : l.length = n) (hnc : n ≤ c) (hcm : c ≤ maxLen) (hA : Rd w A l) (hB : IsB l) (h64 : 64 ≤ n) (hs : l.take 16 = signL) (hg : (readH l).good) (R : Ending → World → Prop) (hR : R = DecBack w l) :
    Calls Try.prog 17 #[.slice A n c] w R := by
  have HR := Lib.hid hR; clear hR
  have HG := Lib.hid hg; clear hg
  have HN := Lib.hid hn; clear hn
  obtain ⟨W2, hW2⟩ : ∃ W, W = ((w.alloc (.cells #[.slice A n c] 24)).alloc (.cells #[.int .i64 0, .int .i64 0, .int .i64 0, .int .i64 0, .int .i64 0, .int .i64 0] 23)) := ⟨_, rfl⟩
  have hbW : Below w.heap.size w W2 := by rw [hW2]; exact ((Below.refl _ _).alloc (Nat.le_refl _) _).alloc (by simp) _
  have hs1 := run_str W2 A 16 c (l.take 16) (by rw [List.length_take, HN.out]; omega) ((rd_take hA 16).keep hbW)
  rw [hW2] at hs1
  have hcmp : ((strOfNums (l.take 16)).toList == ([116, 111, 109, 101, 32, 102, 105, 108, 101, 32, 49, 0, 0, 0, 0, 0] : List UInt8)) = true := by
    rw [← sign_const, str_beq (isB_take hB 16) signL_isB, hs, beqL_self]
  obtain ⟨b, off, rfl, _, _⟩ := hA.at (by rw [HN.out]; omega)
  have hc16 : 16 ≤ c := by omega
  have hpc : W2.cell? ⟨w.heap.size, 0, none⟩ = some (.slice (some ⟨b, off, none⟩) n c) := by rw [hW2]; simp [go_sem]
  have hsz2 : W2.heap.size = w.heap.size + 2 := by rw [hW2]; simp
  have HA := Lib.hid hA; clear hA
  have HB := Lib.hid hB; clear hB
  have HW := Lib.hid hW2
  have HS := Lib.hid hs; clear hs
  go_enter Try.func17, Try.ntmps17
  go_wp2_with fail
  have hfield : ∀ (i p : Nat), i ≤ 5 → p = 16 + 4 * i → Calls Try.prog 43 #[.int .i64 (i : Int), .pointer (some ⟨w.heap.size, 0, none⟩)] W2 fun e w' => e = .returned (.int .i64 (fourI l p)) ∧ W2 = w' := by
    intro i p hi hp
    subst hp
    exact hfield_any W2 ⟨w.heap.size, 0, none⟩ _ n c l i hi hpc HN.out hnc hcm (HA.out.keep hbW) HB.out h64
  rw [hW2] at hfield
  have HFI := Lib.hid hfield; clear hfield
  refine (HFI.out 0 16 (by decide) rfl).mono ?_
  rintro e w' ⟨rfl, rfl⟩
  go_wp2_with fail
  refine (HFI.out 1 20 (by decide) rfl).mono ?_
  rintro e w' ⟨rfl, rfl⟩
  go_wp2_with fail
  refine (HFI.out 2 24 (by decide) rfl).mono ?_
  rintro e w' ⟨rfl, rfl⟩
  go_wp2_with fail
  refine (HFI.out 3 28 (by decide) rfl).mono ?_
  rintro e w' ⟨rfl, rfl⟩
  go_wp2_with fail
  refine (HFI.out 4 32 (by decide) rfl).mono ?_
  rintro e w' ⟨rfl, rfl⟩
  go_wp2_with fail
  refine (HFI.out 5 36 (by decide) rfl).mono ?_
  rintro e w' ⟨rfl, rfl⟩
  go_wp2_with fail
  have hok := readH_ok HB.out
  have HOK := Lib.hid hok; clear hok
  have hRH : readH l = ⟨fourI l 16, fourI l 20, fourI l 24, fourI l 28, fourI l 32, fourI l 36⟩ := rfl
  have HH := Lib.hid hRH; clear hRH
  generalize fourI l 16 = f0 at HH ⊢
  generalize fourI l 20 = f1 at HH ⊢
  generalize fourI l 24 = f2 at HH ⊢
  generalize fourI l 28 = f3 at HH ⊢
  generalize fourI l 32 = f4 at HH ⊢
  generalize fourI l 36 = f5 at HH ⊢
  obtain ⟨wx, hwx⟩ : ∃ x, x = (((w.alloc (.cells #[.slice (some ⟨b, off, none⟩) n c] 24)).alloc (.cells #[.int .i64 0, .int .i64 0, .int .i64 0, .int .i64 0, .int .i64 0, .int .i64 0] 23)).alloc (.cells #[.int .i64 f0, .int .i64 f1, .int .i64 f2, .int .i64 f3, .int .i64 f4, .int .i64 f5] 23)) := ⟨_, rfl⟩
  rw [← hwx]
  have hbx : Below w.heap.size w wx := by
    rw [hwx]; exact (((Below.refl _ _).alloc (Nat.le_refl _) _).alloc (by simp) _).alloc (by simp; omega) _
  have hsx : wx.heap.size = w.heap.size + 3 := by rw [hwx]; simp
  have q0 : wx.cell? ⟨w.heap.size + 1 + 1, 0, none⟩ = some (.int .i64 f0) := by rw [hwx]; simp [go_sem]
  have q1 : wx.cell? ⟨w.heap.size + 1 + 1, 1, none⟩ = some (.int .i64 f1) := by rw [hwx]; simp [go_sem]
  have q2 : wx.cell? ⟨w.heap.size + 1 + 1, 2, none⟩ = some (.int .i64 f2) := by rw [hwx]; simp [go_sem]
  have q3 : wx.cell? ⟨w.heap.size + 1 + 1, 3, none⟩ = some (.int .i64 f3) := by rw [hwx]; simp [go_sem]
  have q4 : wx.cell? ⟨w.heap.size + 1 + 1, 4, none⟩ = some (.int .i64 f4) := by rw [hwx]; simp [go_sem]
  have q5 : wx.cell? ⟨w.heap.size + 1 + 1, 5, none⟩ = some (.int .i64 f5) := by rw [hwx]; simp [go_sem]
  have q6 : wx.cell? ⟨w.heap.size, 0, none⟩ = some (.slice (some ⟨b, off, none⟩) n c) := by rw [hwx]; simp [go_sem]
  have qz : HdZ wx (w.heap.size + 1) := by
    intro i hi
    rw [hwx]
    rcases (by omega : i = 0 ∨ i = 1 ∨ i = 2 ∨ i = 3 ∨ i = 4 ∨ i = 5) with rfl | rfl | rfl | rfl | rfl | rfl <;> simp [go_sem]
  have QZ := Lib.hid qz; clear qz
  clear hwx HW hs1 HFI hbW hpc hsz2 hW2
  have HCE := Lib.hid (show checkI ⟨f0, f1, f2, f3, f4, f5⟩ = 0 by rw [← HH.out]; exact check_yes HG.out)
  have hgood : (⟨f0, f1, f2, f3, f4, f5⟩ : Hd).good := by rw [← HH.out]; exact HG.out
  have e0 : (f0 == 0) = false := by
    have := hgood.1
    unfold isSize at this
    simp
    simp only at this
    omega
  have HG2 := Lib.hid hgood; clear hgood
  have HF := Lib.hid (show HdAt wx (w.heap.size + 1 + 1) ⟨f0, f1, f2, f3, f4, f5⟩ from HdAt.of q0 q1 q2 q3 q4 q5)
  obtain ⟨SA, hSA⟩ : ∃ x, x = headL (readH l) := ⟨_, rfl⟩
  have HSA := Lib.hid hSA; clear hSA
  have hSB : IsB SA := by rw [HSA.out]; exact headL_isB _
  have hSL : SA.length = 64 := by rw [HSA.out]; exact headL_length _
  have HSB := Lib.hid hSB; clear hSB
  have HSL := Lib.hid hSL; clear hSL
  have hc64 : 64 ≤ c := by omega
  by_cases he : SA = l.take 64
  · have hq : ((strOfNums SA).toList == (strOfNums (l.take 64)).toList) = true := by rw [he]; simp
    have hd : decL l = (⟨f0, f1, f2, f3, f4, f5⟩, 0) := by rw [← HH.out, decL, if_neg (by rw [HN.out]; omega), if_neg (by rw [HS.out]; simp), if_pos ⟨HG.out, by rw [← HSA.out]; exact he⟩]
    have HD := Lib.hid hd; clear hd he
    go_region_with (first
      | (go_at_call 15; refine (check_any _ ⟨f0, f1, f2, f3, f4, f5⟩ (by rw [← HH.out]; exact HOK.out)).mono ?_; rintro e w8 ⟨rfl, hb8⟩; have hb9 : Below wx.heap.size wx w8 := ((Below.refl _ wx).drew).trans hb8; clear hb8; have HF8 := Lib.hid (HF.out.keep hb9 (by omega)); have HZ8 := Lib.hid (QZ.out.keep hb9 (by omega)); obtain ⟨k0, k1, k2, k3, k4, k5⟩ := HF8.out.all; have k6 := (hb9.cell (by show w.heap.size < _; omega)).trans q6; have hs8 := run_str w8 (some ⟨b, off, none⟩) 64 c (l.take 64) (by rw [List.length_take, HN.out]; omega) (rd_take (HA.out.keep (hbx.trans (hb9.mono (by omega)))) 64); simp only [HCE.out])
      | (go_at_call 40; refine (hbytes_any _ ⟨f0, f1, f2, f3, f4, f5⟩ HG2.out).mono ?_; rintro e w9 ⟨A9, n9, c9, rfl, hown, hb10⟩; (have hn9 : 64 = n9 := by rw [← hown.len, headL_length]); subst hn9; have hb11 : Below w8.heap.size w8 w9 := hb10; clear hb10; have hz8 := hb9.size; have HF9 := Lib.hid (HF8.out.keep hb11 (by omega)); have HZ9 := Lib.hid (HZ8.out.keep hb11 (by omega)); have k7 := (hb11.cell (by show w.heap.size < _; omega)).trans k6; have hs9 := run_str w9 (some ⟨b, off, none⟩) 64 c (l.take 64) (by rw [List.length_take, HN.out]; omega) (rd_take (HA.out.keep ((hbx.trans (hb9.mono (by omega))).trans (hb11.mono (by omega)))) 64); have hs10 := run_str w9 A9 64 c9 _ hown.len hown.rd; rw [← HH.out, ← HSA.out] at hs10; clear hown))
    all_goals go_upto_region 9 with fail
    all_goals go_step
    all_goals refine wp_load_hd rfl _ rfl (w.heap.size + 1 + 1) ⟨f0, f1, f2, f3, f4, f5⟩ rfl HF9.out ?_
    all_goals refine wp_store_hd rfl _ _ rfl (w.heap.size + 1) ⟨f0, f1, f2, f3, f4, f5⟩ rfl rfl HZ9.out.there ?_
    all_goals repeat go_step
    all_goals refine ret_hd (h := ⟨f0, f1, f2, f3, f4, f5⟩) rfl rfl (HdZ.at HZ9.out.there _) rfl ?_
    all_goals rw [HR.out]
    all_goals exact ⟨by rw [HD.out]; rfl, below_setCells ((hbx.trans (hb9.mono (by omega))).trans (hb11.mono (by omega))) (by omega) _ _⟩
  · have hq : ((strOfNums SA).toList == (strOfNums (l.take 64)).toList) = false := by
      rw [str_beq HSB.out (isB_take HB.out 64), beqL_no]
      exact he
    have hd : decL l = (zeroH, 14) := by rw [decL, if_neg (by rw [HN.out]; omega), if_neg (by rw [HS.out]; simp), if_neg (fun h => he (by rw [HSA.out]; exact h.2))]
    have HD := Lib.hid hd; clear hd he
    go_region_with (first
      | (go_at_call 15; refine (check_any _ ⟨f0, f1, f2, f3, f4, f5⟩ (by rw [← HH.out]; exact HOK.out)).mono ?_; rintro e w8 ⟨rfl, hb8⟩; have hb9 : Below wx.heap.size wx w8 := ((Below.refl _ wx).drew).trans hb8; clear hb8; have HF8 := Lib.hid (HF.out.keep hb9 (by omega)); have HZ8 := Lib.hid (QZ.out.keep hb9 (by omega)); obtain ⟨k0, k1, k2, k3, k4, k5⟩ := HF8.out.all; have k6 := (hb9.cell (by show w.heap.size < _; omega)).trans q6; have hs8 := run_str w8 (some ⟨b, off, none⟩) 64 c (l.take 64) (by rw [List.length_take, HN.out]; omega) (rd_take (HA.out.keep (hbx.trans (hb9.mono (by omega)))) 64); simp only [HCE.out])
      | (go_at_call 40; refine (hbytes_any _ ⟨f0, f1, f2, f3, f4, f5⟩ HG2.out).mono ?_; rintro e w9 ⟨A9, n9, c9, rfl, hown, hb10⟩; (have hn9 : 64 = n9 := by rw [← hown.len, headL_length]); subst hn9; have hb11 : Below w8.heap.size w8 w9 := hb10; clear hb10; have hz8 := hb9.size; have HF9 := Lib.hid (HF8.out.keep hb11 (by omega)); have HZ9 := Lib.hid (HZ8.out.keep hb11 (by omega)); have k7 := (hb11.cell (by show w.heap.size < _; omega)).trans k6; have hs9 := run_str w9 (some ⟨b, off, none⟩) 64 c (l.take 64) (by rw [List.length_take, HN.out]; omega) (rd_take (HA.out.keep ((hbx.trans (hb9.mono (by omega))).trans (hb11.mono (by omega)))) 64); have hs10 := run_str w9 A9 64 c9 _ hown.len hown.rd; rw [← HH.out, ← HSA.out] at hs10; clear hown))
    all_goals go_upto_region 8 with fail
    all_goals go_step
    all_goals go_step
    all_goals go_step
    all_goals go_step
    all_goals refine wp_store_hd rfl _ _ rfl (w.heap.size + 1) zeroH rfl rfl HZ9.out.there ?_
    all_goals repeat go_step
    all_goals refine ret_hd (h := zeroH) rfl rfl (HdZ.at HZ9.out.there zeroH) rfl ?_
    all_goals rw [HR.out]
    all_goals exact ⟨by rw [HD.out]; rfl, below_setCells ((hbx.trans (hb9.mono (by omega))).trans (hb11.mono (by omega))) (by omega) _ _⟩
end
end Go.Proofs.Ytlehpgokjppccaa
