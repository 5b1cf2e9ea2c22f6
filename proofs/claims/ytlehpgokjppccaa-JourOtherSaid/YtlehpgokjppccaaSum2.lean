/- The walk of sum.Sum. -/
import Derived.Test.YtlehpgokjppccaaSum
namespace Go.Proofs.Ytlehpgokjppccaa
open Go.RowKit
set_option maxRecDepth 100000

def Cut1 (w : World) (s3 : Value) (wx : World) : Prop := ∃ B, s3 = .pointer (some ⟨B, 0, none⟩) ∧ (∀ j : Nat, j < 16 → wx.cell? ⟨B, j, none⟩ = some (.int .u32 (bt tabI j))) ∧ Below w.heap.size w wx

set_option maxRecDepth 100000 in
set_option maxHeartbeats 4000000 in
theorem sum_any (w : World) (A : Option Addr) (c : Nat) (L : List (List Int)) (hL : RdRows w A L) (hn : L.length ≤ maxLen) (hm : ∀ l ∈ L, IsB l):
    Calls Try.prog 63 #[.slice A L.length c] w fun e w' => e = .returned (.int .u32 (sumI L.flatten)) ∧ Below w.heap.size w w' := by
  unfold maxLen at hn
  have HL := Lib.hid hL; clear hL
  have HM := Lib.hid hm; clear hm
  go_enter Try.func63, Try.ntmps63
  go_upto_region 1 with (fail)
  go_cut [3] (fun s3 wx => Cut1 w s3 wx)
  case first =>
    go_wp2_with (go_at_call 71; refine (table_any _).mono ?_; rintro e w' ⟨rfl, hb⟩)
    go_meet
    case rel =>
      have hs := hb.size
      refine ⟨_, rfl, ?_, ?_⟩
      · intro j hj
        rcases (by omega : j = 0 ∨ j = 1 ∨ j = 2 ∨ j = 3 ∨ j = 4 ∨ j = 5 ∨ j = 6 ∨ j = 7 ∨ j = 8 ∨ j = 9 ∨ j = 10 ∨ j = 11 ∨ j = 12 ∨ j = 13 ∨ j = 14 ∨ j = 15) with rfl | rfl | rfl | rfl | rfl | rfl | rfl | rfl | rfl | rfl | rfl | rfl | rfl | rfl | rfl | rfl <;> simp [go_sem, bt, tabI]
      · go_grown
  case rest =>
    obtain ⟨B, rfl, hT, hb⟩ := hcut
    have HT := Lib.hid hT; clear hT
    go_wp2_with fail
    go_loop [4, 12] (fun c i => ∃ k : Nat, k ≤ L.length ∧ i = .int .i64 k ∧ c = .int .u32 (crcI 4294967295 (L.take k).flatten)) (fun _ i => L.length - (intOf i).toNat)
    case atStart => exact ⟨0, Nat.zero_le _, rfl, rfl⟩
    case round =>
      obtain ⟨k, hk, rfl, rfl⟩ := hrel
      obtain ⟨c0, hc0⟩ : ∃ x, x = crcI 4294967295 (L.take k).flatten := ⟨_, rfl⟩
      have bd0 : 0 ≤ c0 ∧ c0 ≤ 4294967295 := by rw [hc0]; exact crcI_bd _ _ (by decide)
      rw [← hc0]
      have HC := Lib.hid hc0; clear hc0
      by_cases hlt : k < L.length
      · obtain ⟨b, off, hA, hbb, hcell⟩ := RdRows.at (HL.out.keep hb) (by omega)
        obtain ⟨A', c', h1, h2, h3, h4⟩ := hcell k hlt
        subst hA
        clear hcell
        obtain ⟨l, hl⟩ : ∃ x, x = rw_ L k := ⟨_, rfl⟩
        rw [← hl] at h1 h2 h4
        have hIsB : IsB l := by rw [hl, rw_lt hlt]; exact HM.out _ (List.getElem_mem _)
        have HIs := Lib.hid hIsB; clear hIsB
        have HLL := Lib.hid hl; clear hl
        have H4 := Lib.hid h4; clear h4
        unfold maxLen at h3
        go_wp2_with fail
        go_loop [4, 18] (fun c i => ∃ m : Nat, m ≤ l.length ∧ i = .int .i64 m ∧ c = .int .u32 (crcI c0 (l.take m))) (fun _ i => l.length - (intOf i).toNat)
        case atStart => exact ⟨0, Nat.zero_le _, rfl, rfl⟩
        case round =>
          obtain ⟨m, hm, rfl, rfl⟩ := hrel
          obtain ⟨c1, hc1⟩ : ∃ x, x = crcI c0 (l.take m) := ⟨_, rfl⟩
          have bd1 : 0 ≤ c1 ∧ c1 ≤ 4294967295 := by rw [hc1]; exact crcI_bd _ _ bd0
          rw [← hc1]
          have HC1 := Lib.hid hc1; clear hc1
          by_cases hlm : m < l.length
          · obtain ⟨b', off', hA', hbb', hcell'⟩ := Rd.at H4.out (by omega)
            subst hA'
            have g1 := hcell' m hlm
            have gb := IsB.bt HIs.out m
            obtain ⟨x, hx⟩ : ∃ x, x = bt l m := ⟨_, rfl⟩
            rw [← hx] at g1 gb
            have HX := Lib.hid hx; clear hx hcell'
            obtain ⟨gb0, gb1⟩ := gb
            obtain ⟨p1, p2⟩ := and15_bd (bits .xor .u32 c1 x) (bits_u32_bd _ _ _).1 (bits_u32_bd _ _ _).2
            have t1 := HT.out (bits .and .u32 (bits .xor .u32 c1 x) 15).toNat (by omega)
            have q0 := (bits_u32_bd .xor c1 x).1
            obtain ⟨p3, p4⟩ := and15_bd (bits .xor .u32 (bits .xor .u32 c1 x / 16) (bt tabI (bits .and .u32 (bits .xor .u32 c1 x) 15).toNat)) (bits_u32_bd _ _ _).1 (bits_u32_bd _ _ _).2
            have t2 := HT.out (bits .and .u32 (bits .xor .u32 (bits .xor .u32 c1 x / 16) (bt tabI (bits .and .u32 (bits .xor .u32 c1 x) 15).toNat)) 15).toNat (by omega)
            have q1 := (bits_u32_bd .xor (bits .xor .u32 c1 x / 16) (bt tabI (bits .and .u32 (bits .xor .u32 c1 x) 15).toNat)).1
            go_wp2_with fail
            go_round
            case rel => exact ⟨m + 1, by omega, by go_num, by rw [take_succ_bt hlm, crcI_snoc, ← HC1.out, ← HX.out]; rfl⟩
            case measure => simp [intOf]; omega
          · obtain rfl : m = l.length := by omega
            go_wp2_with fail
            go_round
            case rel => exact ⟨k + 1, by omega, by go_num, by rw [take_succ_rw hlt, List.flatten_append, crcI_append, ← HC.out, HC1.out, ← HLL.out]; simp⟩
            case measure => simp [intOf]; omega
      · obtain rfl : k = L.length := by omega
        go_wp2_with fail
        go_ret
        refine ⟨ret_int ?_, hb⟩
        rw [HC.out, List.take_length]
        rfl
end Go.Proofs.Ytlehpgokjppccaa
