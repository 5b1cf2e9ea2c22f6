/- The walk of the law NumJoins (its arguments are small). -/
import Derived.Test.YtpcbgnedcbcapaaNumR
namespace Go.Proofs.Ytpcbgnedcbcapaa
open Go.RowKit

def JoinsRel (w : World) (g n : Nat) (A : Option Addr) (L : List Int) (i : Value) (wr : World) : Prop :=
  ∃ j : Nat, j ≤ n ∧ i = .int .i64 j ∧ (∀ q, q < n → ∃ x, wr.cell? ⟨g, q, none⟩ = some (.int .u8 x)) ∧ (∀ q, q < n → wr.frozen? ⟨g, q, none⟩ = false) ∧ Rd wr A L ∧ Below w.heap.size w wr

theorem Rd.far {w : World} {A : Option Addr} {l : List Int} (h : Rd w A l) {g : Nat} (hg : ∀ a, A = some a → g ≠ a.block) (j : Nat) (v : Value) : Rd (w.setCell ⟨g, j, none⟩ v) A l := by
  rcases h with h | ⟨b, off, rfl, hc⟩
  · exact .inl h
  · refine .inr ⟨b, off, rfl, fun i hi => ?_⟩
    rw [World.cell?_setCell_far _ _ _ _ (hg _ rfl)]
    exact hc i hi

set_option maxRecDepth 100000 in
set_option maxHeartbeats 8000000 in
theorem njoins_walk (w : World) (A1 : Option Addr) (n1 c1 : Nat) (l1 : List Int) (A2 : Option Addr) (n2 c2 : Nat) (l2 : List Int) (A3 : Option Addr) (n3 c3 : Nat) (l3 : List Int)
    (hn1 : l1.length = n1) (hnc1 : n1 ≤ c1) (hcm1 : c1 ≤ maxLen) (hA1 : Rd w A1 l1) (_hB1 : IsB l1) (hn2 : l2.length = n2) (hnc2 : n2 ≤ c2) (hcm2 : c2 ≤ maxLen) (hA2 : Rd w A2 l2) (_hB2 : IsB l2)
    (hn3 : l3.length = n3) (hnc3 : n3 ≤ c3) (hcm3 : c3 ≤ maxLen) (hA3 : Rd w A3 l3) (_hB3 : IsB l3) (hs : n1 + n2 + n3 ≤ 1048576) :
    Calls Try.prog 11 #[.slice A1 n1 c1, .slice A2 n2 c2, .slice A3 n3 c3] w (NYes w) := by
  have R1 := Lib.hid hA1; clear hA1
  have R2 := Lib.hid hA2; clear hA2
  have R3 := Lib.hid hA3; clear hA3
  have N1 := Lib.hid hn1; clear hn1
  have N2 := Lib.hid hn2; clear hn2
  have N3 := Lib.hid hn3; clear hn3
  have hT : [l1, l2, l3].flatten.length ≤ 1048576 := by simp [N1.out, N2.out, N3.out]; omega
  obtain ⟨L, hL⟩ : ∃ L, L = [l1, l2, l3].flatten := ⟨_, rfl⟩
  rw [← hL] at hT
  have HL := Lib.hid hL; clear hL
  have HT := Lib.hid hT; clear hT
  go_enter Try.func11, Try.ntmps11
  go_wp2_with fail
  refine (join_any _ _ 3 3 [l1, l2, l3] rfl (by decide) (Nat.le_refl _) (by decide) (rows3 _ _ N1.out hnc1 hcm1 R1.out N2.out hnc2 hcm2 R2.out N3.out hnc3 hcm3 R3.out) (by rw [← HL.out]; have := HT.out; omega)).mono ?_
  rintro e w1 hf
  obtain ⟨g, n, rfl, hn, hgl, hgr, hnm, hcells, hfrz, hb⟩ := hf
  rw [← HL.out] at hn hcells
  have hB1 : Below w.heap.size w w1 := ((Below.refl _ _).alloc (Nat.le_refl _) _).trans (hb.mono (by simp))
  have hS1 := hB1.size
  have hgw : w.heap.size ≤ g := by simp at hgl; omega
  clear hb hgl
  have HN := Lib.hid hn; clear hn
  have hn20 : n ≤ 1048576 := by rw [HN.out]; exact HT.out
  have HC := Lib.hid hcells; clear hcells
  have HFZ := Lib.hid hfrz; clear hfrz
  go_wp2_with fail
  refine (rjoin_any _ _ 3 3 [l1, l2, l3] rfl (Nat.le_refl _) (by decide) (rows3 _ _ N1.out hnc1 hcm1 (R1.out.keep hB1) N2.out hnc2 hcm2 (R2.out.keep hB1) N3.out hnc3 hcm3 (R3.out.keep hB1)) (by rw [← HL.out]; have := HT.out; omega)).mono ?_
  rintro e w2 ⟨Ay, ny, cy, rfl, hown, hb⟩
  rw [← HL.out] at hown
  have hny : n = ny := by rw [HN.out]; exact hown.len
  subst hny
  have hbw : Below w1.heap.size w1 w2 := ((Below.refl _ _).alloc (Nat.le_refl _) _).trans (hb.mono (by simp))
  have hB2 := hB1.trans (hbw.mono hS1)
  have hS2 := hB2.size
  have hgl2 : g < w2.heap.size := Nat.lt_of_lt_of_le hgr hbw.size
  have hx : ∀ j, j < n → w2.cell? ⟨g, j, none⟩ = some (.int .u8 (bt L j)) := fun j hj => by rw [hbw.cell hgr]; exact HC.out j hj
  have hxf : ∀ j, j < n → w2.frozen? ⟨g, j, none⟩ = false := fun j hj => by rw [hbw.frozen hgr]; exact HFZ.out j hj
  have hrx : Rd w2 (some ⟨g, 0, none⟩) L := .inr ⟨g, 0, rfl, fun i hi => by simpa using hx i (by rw [HN.out]; exact hi)⟩
  have hyg : ∀ a, Ay = some a → g ≠ a.block := by
    intro a ha
    rcases hown.form with ⟨h0, _⟩ | ⟨g', _, h0, hg', _⟩
    · rw [h0] at ha; exact absurd ha (by simp)
    · rw [h0] at ha; injection ha with ha; subst ha; simp at hg' ⊢; omega
  have HO := Lib.hid hown; clear hown
  have HX := Lib.hid hx; clear hx
  have HXF := Lib.hid hxf; clear hxf
  have HRX := Lib.hid hrx; clear hrx
  have HYG := Lib.hid hyg; clear hyg
  clear hb hbw
  go_wp2_with fail
  refine (same1_any _ (some ⟨g, 0, none⟩) Ay n n n cy L L HN.out.symm HN.out.symm (by omega) HRX.out HO.out.rd).mono ?_
  rintro e w3 ⟨rfl, hb⟩
  have hY3 := HO.out.rd.keep hb
  have hX3 : ∀ j, j < n → w3.cell? ⟨g, j, none⟩ = some (.int .u8 (bt L j)) := fun j hj => by rw [hb.cell hgl2]; exact HX.out j hj
  have hF3 : ∀ j, j < n → w3.frozen? ⟨g, j, none⟩ = false := fun j hj => by rw [hb.frozen hgl2]; exact HXF.out j hj
  have hB3 := hB2.trans (hb.mono hS2)
  clear hb
  have HX3 := Lib.hid hX3; clear hX3
  have HF3 := Lib.hid hF3; clear hF3
  have HY3 := Lib.hid hY3; clear hY3
  simp only [beqL_self]
  go_wp2_with fail
  go_loopw [9] (fun i wr => JoinsRel w g n Ay L i wr) (fun i _ => n - (intOf i).toNat)
  case atStart => exact ⟨0, Nat.zero_le _, rfl, fun q hq => ⟨_, HX3.out q hq⟩, HF3.out, HY3.out, hB3⟩
  case round =>
    obtain ⟨j, hj, rfl, hcl, hfr, hry, hbr⟩ := hrel
    by_cases hlt : j < n
    · obtain ⟨x, hxj⟩ := hcl j hlt
      have hfj := hfr j hlt
      have HCL := Lib.hid hcl; clear hcl
      have HFR := Lib.hid hfr; clear hfr
      have HRY := Lib.hid hry; clear hry
      go_wp2_with fail
      go_roundw
      case rel =>
        refine ⟨j + 1, by omega, by go_num, fun q hq => ?_, fun q hq => by rw [World.frozen?_setCell]; exact HFR.out q hq, HRY.out.far HYG.out _ _, hbr.setCell hgw _⟩
        by_cases hq2 : q = j
        · subst hq2; exact ⟨_, World.cell?_setCell_same _ _ _ hxj⟩
        · obtain ⟨y, hy⟩ := HCL.out q hq
          refine ⟨y, ?_⟩
          rw [World.cell?_setCell_other _ _ _ _ (fun e => hq2 (by injection e with _ h2; omega))]
          exact hy
      case measure => simp [intOf]; omega
    · obtain rfl : j = n := by omega
      have HRY := Lib.hid hry; clear hry
      clear hcl hfr
      have hSr := hbr.size
      go_wp2_with fail
      refine (live_any _).mono ?_
      rintro e w4 ⟨rfl, hb⟩
      have hY4 := HRY.out.keep hb
      have HY4 := Lib.hid hY4; clear hY4
      have hB4 := hbr.trans (hb.mono hSr)
      have hS4 := hB4.size
      clear hb
      go_wp2_with fail
      refine (join_any _ _ 3 3 [l1, l2, l3] rfl (by decide) (Nat.le_refl _) (by decide) (rows3 _ _ N1.out hnc1 hcm1 (R1.out.keep hB4) N2.out hnc2 hcm2 (R2.out.keep hB4) N3.out hnc3 hcm3 (R3.out.keep hB4)) (by rw [← HL.out]; have := HT.out; omega)).mono ?_
      rintro e w5 hf
      obtain ⟨g5, n5, rfl, hn5, hm5, hr5, hb⟩ := hf.rd
      clear hf
      rw [← HL.out] at hn5 hr5
      have HR5 := Lib.hid hr5; clear hr5
      have hb5 : Below w4.heap.size w4 w5 := ((Below.refl _ _).alloc (Nat.le_refl _) _).trans (hb.mono (by simp))
      have HY5 := Lib.hid (HY4.out.keep hb5)
      have hB5 := hB4.trans (hb5.mono hS4)
      have hS5 := hB5.size
      clear hb hb5
      obtain rfl : n5 = j := by rw [← hn5, HN.out]
      clear hn5
      go_wp2_with fail
      refine (same1_any _ (some ⟨g5, 0, none⟩) Ay n5 n5 n5 cy L L HN.out.symm HN.out.symm (by omega) HR5.out HY5.out).mono ?_
      rintro e w6 ⟨rfl, hb⟩
      have hB6 := hB5.trans (hb.mono hS5)
      clear hb
      simp only [beqL_self]
      go_wp2
      go_ret
      exact ⟨rfl, hB6⟩
end Go.Proofs.Ytpcbgnedcbcapaa
