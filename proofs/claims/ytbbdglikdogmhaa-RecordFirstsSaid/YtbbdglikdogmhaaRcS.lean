/- Walks: tomelaw05.great, awake. -/
import Derived.Test.YtbbdglikdogmhaaRcR
import Derived.Test.YtbbdglikdogmhaaRcN
import Derived.Test.YtbbdglikdogmhaaRcG
namespace Go.Proofs.Ytbbdglikdogmhaa
open Go.RowKit
set_option maxRecDepth 100000
set_option linter.unusedVariables false
set_option linter.unusedSimpArgs false
set_option linter.unnecessarySimpa false

def RYes (w : World) (e : Ending) (w' : World) : Prop := e = .returned (.bool true) ∧ Below w.heap.size w w'

def GreatBack (w : World) (m : Nat) (e : Ending) (w' : World) : Prop := ∃ b : Bool, e = .returned (.bool b) ∧ w = w' ∧ (b = false → m ≤ 100)
set_option maxHeartbeats 4000000 in
theorem great_any (w : World) (A : Option Addr) (m c : Nat) (F : List Vl) (hF : F.length = m) (hmc : m ≤ c) (hcm : c ≤ maxLen) (hA : RdVl w A F) (hok : ∀ v ∈ F, VOk v) :
    Calls Try.prog 10 #[.slice A m c] w (GreatBack w m) := by
  have HL := Lib.hid hF; clear hF
  have HA := Lib.hid hA; clear hA
  have HOK := Lib.hid hok; clear hok
  unfold maxLen at hcm
  go_enter Try.func10, Try.ntmps10
  go_wp2_with fail
  go_loop [3, 4] (fun s i => ∃ (j : Nat) (t : Int), j ≤ m ∧ j ≤ 100 ∧ i = .int .i64 j ∧ s = .int .i64 t ∧ 0 ≤ t ∧ t ≤ 20000 * (j : Int)) (fun _ i => 100 - (intOf i).toNat)
  case atStart => exact ⟨0, 0, Nat.zero_le _, by omega, rfl, rfl, by omega, by omega⟩
  case round =>
    obtain ⟨j, t, hj, hj2, rfl, rfl, t0, t1⟩ := hrel
    by_cases hlt : j < m
    · by_cases hlt2 : j < 100
      · obtain ⟨b0, o0, hA', hcell⟩ := HA.out.at (by rw [HL.out]; omega)
        obtain ⟨p0, p1, p2⟩ := (hcell j (by rw [HL.out]; exact hlt)).three
        subst hA'
        clear hcell
        have hsl := (HOK.out _ (vl_mem (by rw [HL.out]; exact hlt))).2
        obtain ⟨v, hv⟩ : ∃ v, vl_ F j = v := ⟨_, rfl⟩
        rw [hv] at p0 p1 p2 hsl
        clear hv
        unfold maxLen at hsl
        have hsz := strOfNums_size v.s
        have i0 : (0 : Int) ≤ (j : Int) := by omega
        have i1 : (j : Int) < (m : Int) := by omega
        by_cases hbig : 20000 < v.s.length
        · go_wp2_with fail
          go_ret
          exact ⟨true, rfl, rfl, by simp⟩
        · go_wp2_with fail
          go_round
          case rel => exact ⟨j + 1, t + (v.s.length : Int), by omega, by omega, by go_num, by go_num, by omega, by omega⟩
          case measure => simp [intOf]; omega
      · have h100 : ¬ (j : Int) < 100 := by omega
        by_cases h1 : 60000 < t
        · go_wp2_with fail
          go_ret
          exact ⟨true, rfl, rfl, by simp⟩
        · by_cases h2 : 100 < m
          · go_wp2_with fail
            go_ret
            exact ⟨decide (100 < (m : Int)), rfl, rfl, by simp; omega⟩
          · go_wp2_with fail
            go_ret
            exact ⟨decide (100 < (m : Int)), rfl, rfl, by simp; omega⟩
    · have hlt' : ¬ (j : Int) < (m : Int) := by omega
      by_cases h1 : 60000 < t
      · go_wp2_with fail
        go_ret
        exact ⟨true, rfl, rfl, by simp⟩
      · go_wp2_with fail
        go_ret
        exact ⟨decide (100 < (m : Int)), rfl, rfl, by simp; omega⟩

theorem rdvl_lit (w : World) (C : Array Value) (F : List Vl) (t : TypeId) (fr : Nat × Nat) (hC : C.toList = valsC F) : RdVl (w.alloc (.cells C t fr)) (some ⟨w.heap.size, 0, none⟩) F := by
  refine .inr ⟨_, 0, rfl, fun i hi k v hv => ?_⟩
  have hk : k < 3 := (List.getElem?_eq_some_iff.1 hv).1
  rw [Joins.cell_alloc_mark_at _ _ _ _ _ _ rfl, ← Array.getElem?_toList, hC, Nat.zero_add, valsC_get F i k hi hk]
  exact hv
def exF : List Vl := [zeroV, ⟨1, 0, []⟩, ⟨2, 0, [97]⟩]
theorem ex_enc : encV exF = ([6, 0, 2, 36, 0, 97], 0) := by decide +kernel
theorem ex_dec : decV [2, 4, 0, 5] = ([], 8) := by decide +kernel
theorem ex_size : (encV [⟨1, 128, []⟩]).1.length = 4 := by decide +kernel
theorem ex_ok : ∀ v ∈ exF, VOk v := by
  intro v hv
  unfold exF at hv
  simp at hv
  rcases hv with rfl | rfl | rfl <;> exact ⟨⟨by unfold i64K; simp [zeroV], by unfold i64K; simp [zeroV], by unfold IsB; simp [zeroV]⟩, by unfold maxLen; simp [zeroV]⟩

set_option maxHeartbeats 4000000 in
theorem rawake_any (w : World) : Calls Try.prog 9 #[] w (RYes w) := by
  go_enter Try.func9, Try.ntmps9
  go_wp2_with fail
  refine (enc_any _ (some ⟨w.heap.size, 0, none⟩) 3 3 exF rfl (Nat.le_refl _) (by decide) (rdvl_lit _ _ _ _ _ (by rfl)) ex_ok _ rfl).mono ?_
  rintro e w1 ⟨B, n, d, rfl, hown, hb⟩
  rw [ex_enc] at hown
  rw [ex_enc]
  have HO := Lib.hid hown
  have hB1 : Below w.heap.size w w1 := ((Below.refl _ _).alloc (Nat.le_refl _) _).trans (hb.mono (by simp))
  clear hb hown
  have hz1 := hB1.size
  go_wp2_with fail
  have hlit := OwnB.lit w1 #[.int .u8 2, .int .u8 4, .int .u8 0, .int .u8 5] [2, 4, 0, 5] w1.heap.size 4 rfl rfl (Nat.le_refl _) (by decide)
  have hbl : Below w1.heap.size w1 (w1.alloc (.cells #[.int .u8 2, .int .u8 4, .int .u8 0, .int .u8 5] 5)) := (Below.refl _ _).alloc (Nat.le_refl _) _
  refine (dec_any _ (some ⟨w1.heap.size, 0, none⟩) 4 4 [2, 4, 0, 5] rfl (Nat.le_refl _) (by decide) hlit.rd (by unfold IsB; decide) _ rfl).mono ?_
  rintro e w2 ⟨D, k, cD, rfl, hown2, hb2⟩
  rw [ex_dec]
  have hB2 : Below w.heap.size w w2 := (hB1.trans (hbl.mono hB1.size)).trans (hb2.mono (by simp; omega))
  have HO2 := Lib.hid ((HO.out.keep hbl).keep hb2)
  clear hlit hbl hb2 hown2 HO
  have hz2 := hB2.size
  go_wp2_with fail
  have hlit := OwnB.lit w2 #[.int .u8 6, .int .u8 0, .int .u8 2, .int .u8 36, .int .u8 0, .int .u8 97] [6, 0, 2, 36, 0, 97] w2.heap.size 6 rfl rfl (Nat.le_refl _) (by decide)
  have hbl : Below w2.heap.size w2 (w2.alloc (.cells #[.int .u8 6, .int .u8 0, .int .u8 2, .int .u8 36, .int .u8 0, .int .u8 97] 5)) := (Below.refl _ _).alloc (Nat.le_refl _) _
  have hn : n ≤ 9223372036854775807 := by have := HO2.out.len; simp at this; omega
  refine (same1_any _ B (some ⟨w2.heap.size, 0, none⟩) n d 6 6 [6, 0, 2, 36, 0, 97] [6, 0, 2, 36, 0, 97] HO2.out.len rfl hn (HO2.out.keep hbl).rd hlit.rd).mono ?_
  rintro e w3 ⟨rfl, hb3⟩
  simp only [beqL_self]
  have hB3 : Below w.heap.size w w3 := (hB2.trans (hbl.mono hB2.size)).trans (hb3.mono (by simp; omega))
  clear hlit hbl hb3 HO2
  have hz3 := hB3.size
  go_wp2_with fail
  refine (size_any _ (some ⟨w3.heap.size, 0, none⟩) 1 1 [⟨1, 128, []⟩] rfl (Nat.le_refl _) (by decide) (rdvl_lit _ _ _ _ _ (by rfl)) (by intro v hv; simp at hv; subst hv; exact ⟨⟨by unfold i64K; simp, by unfold i64K; simp, by unfold IsB; simp⟩, by unfold maxLen; simp⟩)).mono ?_
  rintro e w4 ⟨rfl, hb4⟩
  rw [ex_size]
  have hB4 : Below w.heap.size w w4 := (hB3.alloc hB3.size _).trans (hb4.mono (by simp; omega))
  go_wp2
  go_ret
  exact ⟨rfl, hB4⟩
end Go.Proofs.Ytbbdglikdogmhaa
