/- Walks: tomeref02.Seal, sum.foot, sum.Seal. -/
import Derived.Test.YtpcbgnedcbcapaaSumD
import Derived.Deep.RegionHeld3
import Derived.Deep.RegionLaw
namespace Go.Proofs.Ytpcbgnedcbcapaa
open Go.RowKit

def SealRel (w : World) (l : List Int) (s0 : Int) (s out k : Value) (wr : World) : Prop :=
  ∃ (j : Nat) (A : Option Addr) (n c : Nat), j ≤ 4 ∧ k = .int .i64 j ∧ s = .int .u32 (s0 / 256 ^ j) ∧ out = .slice A n c ∧ n = l.length + j ∧ OwnB wr w.heap.size A n c (l ++ le s0 j) ∧ Below w.heap.size w wr

set_option maxHeartbeats 2000000 in
theorem rseal_any (w : World) (A : Option Addr) (n c : Nat) (l : List Int) (hn : l.length = n) (hm : n ≤ 140737488351232) (hA : Rd w A l) (il : IsB l) :
    Calls Try.prog 21 #[.slice A n c] w (BytesBack w (l ++ le (4294967295 - rcrI 4294967295 l) 4)) := by
  have HR := rsum_any w A n c l hn (by omega) hA il
  obtain ⟨bd0, bd1⟩ := rcrI_bd 4294967295 l (by decide)
  obtain ⟨s0, hs0⟩ : ∃ x, x = 4294967295 - rcrI 4294967295 l := ⟨_, rfl⟩
  have be0 : 0 ≤ s0 := by omega
  have be1 : s0 ≤ 4294967295 := by omega
  rw [← hs0] at HR ⊢
  clear bd0 bd1 hs0
  have HN := Lib.hid hn; clear hn
  have HA := Lib.hid hA; clear hA
  have HC := Lib.hid HR; clear HR il
  go_enter Try.func21, Try.ntmps21
  go_wp2_with (first
    | (go_at_call 17; refine HC.out.mono ?_; rintro e w' ⟨rfl, rfl⟩)
    | (at_builtin; refine wp_append rfl (.tmp 8) (.tmp 9) rfl w.heap.size _ _ _ [] rfl (OwnB.lit w #[] [] _ 0 rfl rfl (Nat.le_refl _) (by decide)) A n c l rfl HN.out (HA.out.keep ((Below.refl _ _).alloc (Nat.le_refl _) _)) (by omega) (by simp) ?_; intro A1 c1 w1 hown1 _ hb1'))
  have hb2 : Below w.heap.size w w1 := ((Below.refl _ _).alloc (Nat.le_refl _) _).trans hb1'
  clear hb1'
  have HO := Lib.hid hown1; clear hown1
  go_loopw [3, 4, 5] (fun s out k wr => SealRel w l s0 s out k wr) (fun _ _ k _ => 4 - (intOf k).toNat)
  case atStart => exact ⟨0, A1, n, c1, by omega, rfl, by simp, by go_num, HN.out.symm, by simpa [le] using HO.out, hb2⟩
  case round =>
    obtain ⟨j, A2, m, c2, hj, rfl, rfl, rfl, hmm, hown, hb3⟩ := hrel
    have hmj : m ≤ n + 4 := by rw [hmm, HN.out]; omega
    have HM := Lib.hid hmm; clear hmm
    have HO2 := Lib.hid hown; clear hown
    obtain ⟨be2, be3⟩ := div_bd s0 j be0 be1
    obtain ⟨s1, hs1⟩ : ∃ x, x = s0 / 256 ^ j := ⟨_, rfl⟩
    rw [← hs1] at be2 be3 ⊢
    have HS := Lib.hid hs1; clear hs1
    have hbs := hb3.size
    by_cases hj4 : j < 4
    · go_wp2_with (at_builtin; refine wp_append rfl (.tmp 15) (.tmp 19) rfl w.heap.size A2 m c2 _ rfl (HO2.out.alloc _) (some ⟨wr.heap.size, 0, none⟩) 1 1 [s1 % 256] rfl rfl (OwnB.rd (OwnB.lit wr #[.int .u8 (s1 % 256)] [s1 % 256] _ 1 rfl rfl (Nat.le_refl _) (by decide))) (by omega) (by simp; omega) ?_; intro A3 c3 w3 hown3 _ hb4)
      go_roundw
      case rel =>
        refine ⟨j + 1, A3, m + 1, c3, by omega, by go_num, ?_, rfl, by rw [HM.out]; omega, ?_, (hb3.alloc hbs _).trans hb4⟩
        · rw [HS.out, div_succ]
        · rw [le, ← List.append_assoc, ← HS.out]; exact hown3
      case measure => simp [intOf]; omega
    · obtain rfl : j = 4 := by omega
      go_wp2_with fail
      go_ret
      exact ⟨A2, m, c2, rfl, HO2.out, hb3⟩

def FootBack (w : World) (s : Int) (e : Ending) (w' : World) : Prop := e = .returned (.agg #[.int .u8 (s % 256), .int .u8 (s / 256 % 256), .int .u8 (s / 65536 % 256), .int .u8 (s / 16777216)]) ∧ Below w.heap.size w w'

set_option maxHeartbeats 1000000 in
theorem foot_any (w : World) (A : Option Addr) (n c : Nat) (l : List Int) (hn : l.length = n) (hnc : n ≤ c) (hm : c ≤ maxLen) (hA : Rd w A l) (il : IsB l) :
    Calls Try.prog 38 #[.slice A n c] w (FootBack w (sumI l)) := by
  have hr : RdRows ((w.alloc (.cells #[.int .u8 0, .int .u8 0, .int .u8 0, .int .u8 0] 63)).alloc (.cells #[.slice A n c] 23)) (some ⟨w.heap.size + 1, 0, none⟩) [l] := by
    refine .inr ⟨_, 0, rfl, fun i hi => ?_⟩
    obtain rfl : i = 0 := by simpa using hi
    exact ⟨A, c, by simp [go_sem, rw_, hn], by simpa [rw_, hn] using hnc, hm, by simpa [rw_] using hA.keep (((Below.refl _ _).alloc (Nat.le_refl _) _).alloc (by simp) _)⟩
  have HC := Lib.hid (sum_any _ _ 1 [l] hr (by simp [maxLen]) (by simpa using il))
  simp only [List.flatten_cons, List.flatten_nil, List.append_nil, List.length_cons, List.length_nil, Nat.zero_add] at HC
  clear hr hA
  have hb := sumI_bd l
  obtain ⟨s, hs⟩ : ∃ x, x = sumI l := ⟨_, rfl⟩
  rw [← hs] at HC hb ⊢
  clear hs hn il
  obtain ⟨hb0, hb1⟩ := hb
  go_enter Try.func38, Try.ntmps38
  go_wp2_with (go_at_call 16; refine HC.out.mono ?_; rintro e w' ⟨rfl, hb⟩; have hc : ∀ o, o < 4 → w'.cell? ⟨w.heap.size, o, none⟩ = some (.int .u8 0) := fun o ho => (hb.cell (p := ⟨w.heap.size, o, none⟩) (by simp; omega)).trans (by rcases (by omega : o = 0 ∨ o = 1 ∨ o = 2 ∨ o = 3) with rfl | rfl | rfl | rfl <;> simp [go_sem]); have hf : ∀ o, w'.frozen? ⟨w.heap.size, o, none⟩ = false := fun o => (hb.frozen (p := ⟨w.heap.size, o, none⟩) (by simp; omega)).trans (by simp [go_sem]); clear HC)
  refine bodyPost_ret (v := .agg #[.int .u8 (s % 256), .int .u8 (s / 256 % 256), .int .u8 (s / 65536 % 256), .int .u8 (s / 16777216)]) (by simp [results, Try.results38, go_sem, hc]) rfl ⟨rfl, ?_⟩
  have h1 : Below w.heap.size w w' := ((((Below.refl _ _).alloc (Nat.le_refl _) _).alloc (by simp) _).trans (hb.mono (by simp; omega)))
  exact (((h1.setCell (Nat.le_refl _) _).setCell (Nat.le_refl _) _).setCell (Nat.le_refl _) _).setCell (Nat.le_refl _) _
end Go.Proofs.Ytpcbgnedcbcapaa
