/- Walks: tomeref05.long, read. -/
import Derived.Test.YtbbdglikdogmhaaRcM
namespace Go.Proofs.Ytbbdglikdogmhaa
open Go.RowKit
set_option maxRecDepth 100000
set_option linter.unusedVariables false
set_option linter.unusedSimpArgs false
set_option linter.unnecessarySimpa false

set_option maxHeartbeats 4000000 in
theorem rlong_any (w : World) (c : Int) (hb : ¬ badC c) (hc : i64K c) : Calls Try.prog 57 #[.int .i64 c] w fun e w' => e = .returned (.int .i64 (longI c)) ∧ w = w' := by
  obtain ⟨c0, c1⟩ := hc
  unfold badC at hb
  by_cases h : c < 16
  · have hl : longI c = c := if_pos h
    rw [hl]
    clear hl
    go_enter Try.func57, Try.ntmps57
    go_wp2_with fail
    go_ret
    exact ⟨rfl, rfl⟩
  · have hl : longI c = (c - 16) / 2 := if_neg h
    have HL := Lib.hid hl
    have hd : (c - 16).tdiv 2 = (c - 16) / 2 := Int.tdiv_eq_ediv_of_nonneg (by omega)
    rw [← hl] at hd
    have hd0 : 0 ≤ longI c ∧ longI c ≤ c := by rw [hl]; omega
    obtain ⟨t, ht⟩ : ∃ t, longI c = t := ⟨_, rfl⟩
    rw [ht] at hd hd0 ⊢
    clear hl ht
    go_enter Try.func57, Try.ntmps57
    go_wp2_with fail
    go_ret
    exact ⟨rfl, rfl⟩

theorem sgn_one {b : List Int} (h : 0 < b.length) : sgnI (b.take 1) = if 127 < bt b 0 then bt b 0 - 256 else bt b 0 := by
  cases b with
  | nil => simp at h
  | cons x r => simp [sgnI, bt]
theorem sgn_next {b : List Int} {j : Nat} (h1 : 1 ≤ j) (h : j < b.length) : sgnI (b.take (j + 1)) = sgnI (b.take j) * 256 + bt b j := by
  cases b with
  | nil => simp at h
  | cons x r =>
    obtain ⟨j, rfl⟩ : ∃ i, j = i + 1 := ⟨j - 1, by omega⟩
    have hj : j < r.length := by simpa using h
    rw [List.take_succ_cons, List.take_succ_cons]
    show (r.take (j + 1)).foldl _ _ = (r.take j).foldl _ _ * 256 + _
    rw [List.take_succ_eq_append_getElem hj, List.foldl_append]
    simp [bt, hj]
theorem isB_take {b : List Int} (h : IsB b) (k : Nat) : IsB (b.take k) := fun x hx => h x (List.mem_of_mem_take hx)
theorem sgn_take {b : List Int} (hB : IsB b) {j : Nat} (h1 : 1 ≤ j) (h : j ≤ b.length) (h8 : j ≤ 8) : i64K (sgnI (b.take j)) := by
  have e : (b.take j).length = j := by simp; omega
  exact sgn_small (isB_take hB j) (by omega) (by omega)
def ReadBack (w : World) (c : Int) (b : List Int) (e : Ending) (w' : World) : Prop := e = .returned (.tuple #[(readV c b).1.val, .int .i64 (readV c b).2]) ∧ Below w.heap.size w w'

set_option maxHeartbeats 8000000 in
theorem vread_any (w : World) (A : Option Addr) (n d : Nat) (c : Int) (b : List Int) (hl : b.length = n) (hc : ¬ badC c) (hc2 : c ≤ 8209) (hlc : (n : Int) = longI c) (hnd : n ≤ d) (hd : d ≤ maxLen) (hA : Rd w A b) (hB : IsB b) :
    Calls Try.prog 58 #[.int .i64 c, .slice A n d] w (ReadBack w c b) := by
  have HLB := Lib.hid hl
  have hc' := hc
  unfold badC at hc'
  unfold longI at hlc
  obtain ⟨W1, hW1⟩ : ∃ W, W = w.alloc (.cells #[.int .i64 0, .int .i64 0, .string ⟨#[]⟩] 49) := ⟨_, rfl⟩
  have hbW : Below w.heap.size w W1 := by rw [hW1]; exact (Below.refl _ _).alloc (Nat.le_refl _) _
  have HT := Lib.hid (show W1.there w.heap.size 0 3 by
    rw [hW1]
    intro j hj
    rcases (by omega : j = 0 ∨ j = 1 ∨ j = 2) with rfl | rfl | rfl <;> simp [go_sem])
  have HW := Lib.hid hW1
  by_cases h0 : c = 0
  · subst h0
    have HV := Lib.hid (show readV 0 b = (zeroV, 0) from if_pos rfl)
    have HOUT : ∀ R, R = ReadBack w 0 b → Calls Try.prog 58 #[.int .i64 0, .slice A n d] w R := by
      intro R hR
      have HR := Lib.hid hR; clear hR
      go_enter Try.func58, Try.ntmps58
      go_upto_region 1 with fail
      rw [← hW1]
      clear hW1 HW
      go_upto_region 2 with fail
      iterate 4 go_step
      refine wp_store_vl rfl _ _ rfl w.heap.size zeroV rfl rfl HT.out ?_
      repeat go_step
      refine ret_vl2 rfl rfl (VlAt.stored HT.out zeroV) rfl ?_
      rw [HR.out]
      exact ⟨by rw [HV.out]; rfl, below_setCellsV hbW (Nat.le_refl _) _ _⟩
    exact HOUT _ rfl
  by_cases h16 : c < 16
  rotate_left
  · have hv : readV c b = (⟨2 + c % 2, 0, b⟩, 0) := by unfold readV; rw [if_neg (by omega), if_pos (by omega)]
    have HV := Lib.hid hv
    clear hv hc hlc
    have hrun := run_str W1 A n d b hl (hA.keep hbW)
    have hq : (c == 0) = false := by simpa using h0
    have hm : c.tmod 2 = c % 2 := Int.tmod_eq_emod_of_nonneg (by omega)
    obtain ⟨q, hq2⟩ : ∃ q, c % 2 = q := ⟨_, rfl⟩
    rw [hq2] at hm HV
    have hqb : 0 ≤ q ∧ q ≤ 1 := by omega
    have c0 : -9223372036854775808 ≤ c := by omega
    have c1 : c ≤ 9223372036854775807 := by omega
    have HOUT : ∀ R, R = ReadBack w c b → Calls Try.prog 58 #[.int .i64 c, .slice A n d] w R := by
      intro R hR
      have HR := Lib.hid hR; clear hR
      clear hl hA hB h0 hc' hq2
      go_enter Try.func58, Try.ntmps58
      go_upto_region 1 with fail
      rw [← hW1]
      clear hW1 HW
      go_upto_region 4 with fail
      iterate 19 go_step
      refine wp_store_vl rfl _ _ rfl w.heap.size ⟨2 + q, 0, b⟩ rfl rfl HT.out ?_
      repeat go_step
      refine ret_vl2 rfl rfl (VlAt.stored HT.out ⟨2 + q, 0, b⟩) rfl ?_
      rw [HR.out]
      exact ⟨by rw [HV.out] <;> rfl, below_setCellsV hbW (Nat.le_refl _) _ _⟩
    exact HOUT _ rfl
  rw [if_pos h16] at hlc
  have c1 : 1 ≤ c := by omega
  have c8 : c ≤ 8 := by omega
  have hn1 : 1 ≤ n := by omega
  have hn8 : n ≤ 8 := by omega
  clear hc hc' h0
  obtain ⟨g, off, hA', _, hcell⟩ := hA.at (by omega)
  subst hA'
  have hc0 := hcell 0 (by omega)
  have HC := Lib.hid hcell
  have hcW : W1.cell? ⟨g, off + 0, none⟩ = some (.int .u8 (bt b 0)) := (hbW.cell (World.block_lt_of_cell? _ _ hc0)).trans hc0
  rw [Nat.add_zero] at hcW
  have HCW := Lib.hid (show ∀ i, i < n → W1.cell? ⟨g, off + i, none⟩ = some (.int .u8 (bt b i)) from fun i hi => (hbW.cell (World.block_lt_of_cell? _ _ (HC.out i (by rw [hl]; exact hi)))).trans (HC.out i (by rw [hl]; exact hi)))
  clear hcell hc0
  have HB := Lib.hid hB
  have HS1 := Lib.hid (sgn_one (b := b) (by omega))
  have hb0 := IsB.bt hB 0
  obtain ⟨x, hx⟩ : ∃ x, bt b 0 = x := ⟨_, rfl⟩
  have HX := Lib.hid hx
  rw [hx] at hcW hb0 HS1
  clear hx hl hA hB
  have hzc : (c == 0) = false := by simp; omega
  have HSB := Lib.hid (show sgnI (b.take n) = sgnI b by rw [List.take_of_length_le (by rw [HLB.out]; exact Nat.le_refl _)])
  have HOUT : ∀ R, R = ReadBack w c b → Calls Try.prog 58 #[.int .i64 c, .slice (some ⟨g, off, none⟩) n d] w R := by
    intro R hR
    have HR := Lib.hid hR; clear hR
    go_enter Try.func58, Try.ntmps58
    go_upto_region 1 with fail
    rw [← hW1]
    clear hW1 HW
    rcases (by omega : 127 < x ∨ x ≤ 127) with hbig | hbig
    · have HS2 := Lib.hid (show sgnI (b.take 1) = x - 256 by rw [HS1.out, if_pos hbig])
      clear HS1
      go_wp2_with fail
      go_loop [6, 7] (fun z i => ∃ j : Nat, 1 ≤ j ∧ j ≤ n ∧ i = .int .i64 j ∧ z = .int .i64 (sgnI (b.take j))) (fun _ i => n - (intOf i).toNat)
      case atStart => exact ⟨1, Nat.le_refl _, hn1, rfl, by rw [HS2.out]⟩
      case round =>
        obtain ⟨j, hj1, hj, rfl, rfl⟩ := hrel
        by_cases hlt : j < n
        · have hstep := sgn_next (b := b) hj1 (by rw [HLB.out]; exact hlt)
          have s0 := sgn_take HB.out hj1 (by rw [HLB.out]; exact hj) (by omega)
          have s1 := sgn_take (j := j + 1) HB.out (by omega) (by rw [HLB.out]; exact hlt) (by omega)
          have y0 := IsB.bt HB.out j
          have hcj := HCW.out j hlt
          obtain ⟨y, hy⟩ : ∃ y, bt b j = y := ⟨_, rfl⟩
          obtain ⟨s, hs⟩ : ∃ s, sgnI (b.take j) = s := ⟨_, rfl⟩
          obtain ⟨t, ht⟩ : ∃ t, sgnI (b.take (j + 1)) = t := ⟨_, rfl⟩
          rw [hy] at hstep y0 hcj
          rw [hs] at hstep s0
          rw [ht] at hstep s1
          simp only [hs]
          unfold i64K at s0 s1
          have HT' := Lib.hid ht
          have HST := Lib.hid hstep
          have m0 : wrap64 (s * 256) = s * 256 := IntWalk.wrap64_in _ (by omega)
          have m1 : wrap64 (s * 256 + y) = s * 256 + y := IntWalk.wrap64_in _ (by omega)
          have m2 : -9223372036854775808 ≤ s * 256 ∧ s * 256 ≤ 9223372036854775807 := by omega
          clear ht hy hs hstep
          go_wp2_with fail
          go_round
          case rel => exact ⟨j + 1, by omega, by omega, by go_num, by rw [HT'.out, HST.out]⟩
          case measure => simp [intOf]; omega
        · obtain rfl : j = n := by omega
          have s0 := sgn_take HB.out hj1 (by rw [HLB.out]; exact hj) (by omega)
          rw [HSB.out] at s0 ⊢
          have HS0 := Lib.hid s0
          clear s0
          obtain ⟨s, hs⟩ : ∃ s, sgnI b = s := ⟨_, rfl⟩
          rw [hs] at HS0 ⊢
          have HSS := Lib.hid hs
          clear hs
          go_wp2_with fail
          refine (takes_any _ s HS0.out).mono ?_
          rintro e w1 ⟨rfl, rfl⟩
          obtain ⟨q, hq⟩ : ∃ q, widI s = q := ⟨_, rfl⟩
          rw [hq]
          have HQ := Lib.hid hq
          clear hq
          by_cases hqc : (q : Int) = c
          · have hb' : ((q : Int) != c) = false := by simp [hqc]
            have HV := Lib.hid (show readV c b = (⟨1, s, []⟩, 0) by unfold readV; rw [if_neg (by omega), if_neg (by omega), HSS.out, HQ.out, if_neg (by simpa using hqc)])
            clear hqc
            go_upto_region 14 with fail
            iterate 7 go_step
            refine wp_store_vl rfl _ _ rfl w.heap.size ⟨1, s, []⟩ rfl rfl HT.out ?_
            repeat go_step
            refine ret_vl2 rfl rfl (VlAt.stored HT.out ⟨1, s, []⟩) rfl ?_
            rw [HR.out]
            exact ⟨by rw [HV.out] <;> rfl, below_setCellsV hbW (Nat.le_refl _) _ _⟩
          · have hb' : ((q : Int) != c) = true := by simp [hqc]
            have HV := Lib.hid (show readV c b = (zeroV, 8) by unfold readV; rw [if_neg (by omega), if_neg (by omega), HSS.out, HQ.out, if_pos (by simpa using hqc)])
            clear hqc
            go_upto_region 13 with fail
            iterate 4 go_step
            refine wp_store_vl rfl _ _ rfl w.heap.size zeroV rfl rfl HT.out ?_
            repeat go_step
            refine ret_vl2 rfl rfl (VlAt.stored HT.out zeroV) rfl ?_
            rw [HR.out]
            exact ⟨by rw [HV.out] <;> rfl, below_setCellsV hbW (Nat.le_refl _) _ _⟩
    · have HS2 := Lib.hid (show sgnI (b.take 1) = x by rw [HS1.out, if_neg (by omega)])
      clear HS1
      go_wp2_with fail
      go_loop [6, 7] (fun z i => ∃ j : Nat, 1 ≤ j ∧ j ≤ n ∧ i = .int .i64 j ∧ z = .int .i64 (sgnI (b.take j))) (fun _ i => n - (intOf i).toNat)
      case atStart => exact ⟨1, Nat.le_refl _, hn1, rfl, by rw [HS2.out]⟩
      case round =>
        obtain ⟨j, hj1, hj, rfl, rfl⟩ := hrel
        by_cases hlt : j < n
        · have hstep := sgn_next (b := b) hj1 (by rw [HLB.out]; exact hlt)
          have s0 := sgn_take HB.out hj1 (by rw [HLB.out]; exact hj) (by omega)
          have s1 := sgn_take (j := j + 1) HB.out (by omega) (by rw [HLB.out]; exact hlt) (by omega)
          have y0 := IsB.bt HB.out j
          have hcj := HCW.out j hlt
          obtain ⟨y, hy⟩ : ∃ y, bt b j = y := ⟨_, rfl⟩
          obtain ⟨s, hs⟩ : ∃ s, sgnI (b.take j) = s := ⟨_, rfl⟩
          obtain ⟨t, ht⟩ : ∃ t, sgnI (b.take (j + 1)) = t := ⟨_, rfl⟩
          rw [hy] at hstep y0 hcj
          rw [hs] at hstep s0
          rw [ht] at hstep s1
          simp only [hs]
          unfold i64K at s0 s1
          have HT' := Lib.hid ht
          have HST := Lib.hid hstep
          have m0 : wrap64 (s * 256) = s * 256 := IntWalk.wrap64_in _ (by omega)
          have m1 : wrap64 (s * 256 + y) = s * 256 + y := IntWalk.wrap64_in _ (by omega)
          have m2 : -9223372036854775808 ≤ s * 256 ∧ s * 256 ≤ 9223372036854775807 := by omega
          clear ht hy hs hstep
          go_wp2_with fail
          go_round
          case rel => exact ⟨j + 1, by omega, by omega, by go_num, by rw [HT'.out, HST.out]⟩
          case measure => simp [intOf]; omega
        · obtain rfl : j = n := by omega
          have s0 := sgn_take HB.out hj1 (by rw [HLB.out]; exact hj) (by omega)
          rw [HSB.out] at s0 ⊢
          have HS0 := Lib.hid s0
          clear s0
          obtain ⟨s, hs⟩ : ∃ s, sgnI b = s := ⟨_, rfl⟩
          rw [hs] at HS0 ⊢
          have HSS := Lib.hid hs
          clear hs
          go_wp2_with fail
          refine (takes_any _ s HS0.out).mono ?_
          rintro e w1 ⟨rfl, rfl⟩
          obtain ⟨q, hq⟩ : ∃ q, widI s = q := ⟨_, rfl⟩
          rw [hq]
          have HQ := Lib.hid hq
          clear hq
          by_cases hqc : (q : Int) = c
          · have hb' : ((q : Int) != c) = false := by simp [hqc]
            have HV := Lib.hid (show readV c b = (⟨1, s, []⟩, 0) by unfold readV; rw [if_neg (by omega), if_neg (by omega), HSS.out, HQ.out, if_neg (by simpa using hqc)])
            clear hqc
            go_upto_region 14 with fail
            iterate 7 go_step
            refine wp_store_vl rfl _ _ rfl w.heap.size ⟨1, s, []⟩ rfl rfl HT.out ?_
            repeat go_step
            refine ret_vl2 rfl rfl (VlAt.stored HT.out ⟨1, s, []⟩) rfl ?_
            rw [HR.out]
            exact ⟨by rw [HV.out] <;> rfl, below_setCellsV hbW (Nat.le_refl _) _ _⟩
          · have hb' : ((q : Int) != c) = true := by simp [hqc]
            have HV := Lib.hid (show readV c b = (zeroV, 8) by unfold readV; rw [if_neg (by omega), if_neg (by omega), HSS.out, HQ.out, if_pos (by simpa using hqc)])
            clear hqc
            go_upto_region 13 with fail
            iterate 4 go_step
            refine wp_store_vl rfl _ _ rfl w.heap.size zeroV rfl rfl HT.out ?_
            repeat go_step
            refine ret_vl2 rfl rfl (VlAt.stored HT.out zeroV) rfl ?_
            rw [HR.out]
            exact ⟨by rw [HV.out] <;> rfl, below_setCellsV hbW (Nat.le_refl _) _ _⟩
  exact HOUT _ rfl
end Go.Proofs.Ytbbdglikdogmhaa
