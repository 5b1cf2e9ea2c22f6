/- Walk: header.bytes. -/
import Derived.Test.YtlehpgokjppccaaHdP
import Derived.Test.YtlehpgokjppccaaGrow
import Derived.Test.YtlehpgokjppccaaSumL1
import Derived.Lib.SmallJoins
namespace Go.Proofs.Ytlehpgokjppccaa
open Go.RowKit
set_option maxRecDepth 100000

def HbRel (w : World) (base g : Nat) (l : List Int) (b k : Value) (wr : World) : Prop :=
  ∃ (j : Nat) (A : Option Addr) (c : Nat), j ≤ 6 ∧ k = .int .i64 j ∧ b = .slice A (16 + 4 * j) c ∧ Ext wr base A (16 + 4 * j) c (signL ++ fxs (l.take j)) ∧ (1 ≤ j → OwnB wr base A (16 + 4 * j) c (signL ++ fxs (l.take j))) ∧ (∀ i, i < 6 → wr.cell? ⟨g, i, none⟩ = some (.int .i64 (l.getD i 0))) ∧ base ≤ wr.heap.size ∧ Below w.heap.size w wr

set_option maxHeartbeats 8000000 in
theorem hbytes_any (w : World) (h : Hd) (hg : h.good) : Calls Try.prog 40 #[h.val] w (BytesBack w (headL h)) := by
  have kc := fun (w : World) (C : Array Value) (n c g : Nat) (hg : g = w.heap.size) => Joins.run_convert_bytes_const_at (P := Try.prog) w 24 5 C n c g hg Try.underlying24 Try.underlying5
  have HG := Lib.hid hg; clear hg
  obtain ⟨R, hR⟩ : ∃ R, R = headL h := ⟨_, rfl⟩
  rw [← hR]
  have HR := Lib.hid hR; clear hR
  unfold Hd.val
  go_enter Try.func40, Try.ntmps40
  go_wp2_with fail
  go_loopw [3, 22] (fun b k wr => HbRel w (w.heap.size + 3) (w.heap.size + 2) h.list b k wr) (fun _ k _ => 6 - (intOf k).toNat)
  case atStart =>
    refine ⟨0, some ⟨w.heap.size + 1, 0, none⟩, 16, by omega, rfl, rfl, .inr ⟨rfl, by omega, by simp [maxLen], rfl, ?_⟩, fun h0 => absurd h0 (by omega), ?_, by simp, ?_⟩
    · refine .inr ⟨_, 0, rfl, fun i hi => ?_⟩
      simp [fxs, signL] at hi
      rcases (by omega : i = 0 ∨ i = 1 ∨ i = 2 ∨ i = 3 ∨ i = 4 ∨ i = 5 ∨ i = 6 ∨ i = 7 ∨ i = 8 ∨ i = 9 ∨ i = 10 ∨ i = 11 ∨ i = 12 ∨ i = 13 ∨ i = 14 ∨ i = 15) with rfl | rfl | rfl | rfl | rfl | rfl | rfl | rfl | rfl | rfl | rfl | rfl | rfl | rfl | rfl | rfl <;> simp [go_sem, bt, signL, Joins.cell_alloc_mark_at]
    · intro i hi
      rcases (by omega : i = 0 ∨ i = 1 ∨ i = 2 ∨ i = 3 ∨ i = 4 ∨ i = 5) with rfl | rfl | rfl | rfl | rfl | rfl <;> simp [go_sem, Hd.list]
    · repeat' first | exact Below.refl _ _ | refine Below.alloc ?_ (by simp <;> omega) _
  case round =>
    obtain ⟨j, A, c, hj, rfl, rfl, hext, hown0, hcl, hbs, hb⟩ := hrel
    by_cases hlt : j < 6
    · have hx := hcl j hlt
      obtain ⟨x0, x1⟩ := HG.out.fields j
      have htk := fxs_take (l := h.list) (j := j) (by simpa [Hd.list] using hlt)
      obtain ⟨x, hxe⟩ : ∃ x, x = h.list.getD j 0 := ⟨_, rfl⟩
      rw [← hxe] at hx x0 x1 htk
      have hw : IntKind.u64.wrap x = x := IntWalk.u64_in _ (by omega)
      have hw2 : IntKind.i64.wrap ((j : Int) + 1) = (j : Int) + 1 := IntWalk.i64_in _ (by omega)
      have HT := Lib.hid htk; clear htk hxe
      have HC := Lib.hid hcl; clear hcl
      have HE := Lib.hid hext; clear hext hown0
      go_wp2_with fail
      refine (fixed_any _ x 4 x0 (by omega)).mono ?_
      rintro e w2 ⟨A2, n2, c2, rfl, hown, hb2⟩
      rw [show (4 : Int) = (4 : Nat) from rfl, fixed_nat x 4 (by decide) (by decide)] at hown
      have hn2 : 4 = n2 := by rw [← hown.len, fxL_length]
      subst hn2
      have HO := Lib.hid hown; clear hown
      have HE2 := Lib.hid (HE.out.keep hb2)
      have hsz := hb2.size
      go_wp2_with (at_builtin; refine wp_append_ext rfl (.tmp 26) (.tmp 29) rfl (w.heap.size + 3) A (16 + 4 * j) c _ rfl HE2.out A2 4 c2 (fxL x 4) rfl HO.out.len (by omega) HO.out.rd (by omega) (by omega) ?_; intro A3 c3 w3 hown3 hb3)
      go_roundw
      case rel =>
        rw [List.append_assoc, ← HT.out] at hown3
        refine ⟨j + 1, A3, c3, by omega, by go_num, by rw [show 16 + 4 * (j + 1) = 16 + 4 * j + 4 by omega], .inl hown3, fun _ => hown3, fun i hi => ?_, Nat.le_trans hbs (Nat.le_trans hsz (Nat.le_trans ?_ hb3.size)), ?_⟩
        · rw [hb3.cell (by show w.heap.size + 2 < w.heap.size + 3; omega), hb2.cell (by show w.heap.size + 2 < _; omega)]
          exact HC.out i hi
        · exact Nat.le_refl _
        · exact hb.trans ((hb2.mono hb.size).trans (hb3.mono (by omega)))
      case measure => simp [intOf]; omega
    · obtain rfl : j = 6 := by omega
      have hown := hown0 (by omega)
      clear hown0 hext hcl
      have e40 : 16 + 4 * 6 = 40 := rfl
      rw [e40] at hown
      have HO := Lib.hid hown; clear hown
      simp only [e40]
      go_wp2_with (at_builtin; refine wp_append_make rfl (.tmp 32) (.tmp 35) rfl (w.heap.size + 3) A 40 c _ rfl HO.out 20 rfl (by decide) (by decide) hbs ?_; intro A1 c1 w1 hown1 hb1)
      have ebody : signL ++ fxs (List.take 6 h.list) ++ List.replicate 20 0 = bodyL h := rfl
      rw [ebody] at hown1
      have HO1 := Lib.hid (show OwnB w1 (w.heap.size + 3) A1 60 c1 (bodyL h) from hown1); clear hown1 ebody
      have hcap := HO1.out.cap
      have hsz1 := hb1.size
      refine (sum1_any _ w1.heap.size A1 60 c1 (bodyL h) (bodyL_length h) (by simp [go_sem]) hcap.1 hcap.2 (HO1.out.rd.keep ((Below.refl _ _).alloc (Nat.le_refl _) _)) (bodyL_isB h)).mono ?_
      rintro e w2 ⟨rfl, hb2⟩
      have hb12 : Below w1.heap.size w1 w2 := ((Below.refl _ _).alloc (Nat.le_refl _) _).trans (hb2.mono (by simp))
      clear hb2
      have HO2 := Lib.hid (HO1.out.keep hb12)
      have hsz2 := hb12.size
      obtain ⟨y0, y1⟩ := sumI_bd (bodyL h)
      have hhead : R = bodyL h ++ fxL (sumI (bodyL h)) 4 := HR.out
      obtain ⟨y, hy⟩ : ∃ y, y = sumI (bodyL h) := ⟨_, rfl⟩
      rw [← hy] at y0 y1 hhead ⊢
      have HH := Lib.hid hhead; clear hhead hy
      have hwy : IntKind.u64.wrap y = y := IntWalk.u64_in _ (by omega)
      go_wp2_with fail
      refine (fixed_any _ y 4 y0 (by omega)).mono ?_
      rintro e w3 ⟨A2, n2, c2, rfl, hown, hb3⟩
      rw [show (4 : Int) = (4 : Nat) from rfl, fixed_nat y 4 (by decide) (by decide)] at hown
      have hn2 : 4 = n2 := by rw [← hown.len, fxL_length]
      subst hn2
      have HO3 := Lib.hid hown; clear hown
      have HO4 := Lib.hid (HO2.out.keep hb3)
      have hsz3 := hb3.size
      go_wp2_with (at_builtin; refine wp_append rfl (.tmp 37) (.tmp 42) rfl (w.heap.size + 3) A1 60 c1 _ rfl HO4.out A2 4 c2 (fxL y 4) rfl HO3.out.len HO3.out.rd (by omega) (by omega) ?_; intro A4 c4 w4 hown4 _ hb4)
      rw [← HH.out] at hown4
      have HO5 := Lib.hid hown4; clear hown4
      go_ret
      exact ⟨A4, 60 + 4, c4, rfl, HO5.out.mono (by omega), hb.trans ((hb1.mono (by omega)).trans ((hb12.mono (by omega)).trans ((hb3.mono (by omega)).trans (hb4.mono (by omega)))))⟩
end Go.Proofs.Ytlehpgokjppccaa
