/- Walk: num.Unvarint. -/
import Derived.Test.YtbbdglikdogmhaaNumB
import Derived.Test.YtbbdglikdogmhaaNumC
import Derived.Test.YtbbdglikdogmhaaNumP2
namespace Go.Proofs.Ytbbdglikdogmhaa
open Go.RowKit
set_option maxRecDepth 100000

set_option maxRecDepth 100000 in
set_option maxHeartbeats 4000000 in
theorem unv_any (w : World) (A : Option Addr) (n c : Nat) (l : List Int) (at_ : Int) (hn : l.length = n) (hnc : n ≤ c) (hcm : c ≤ maxLen) (hA : Rd w A l) (hB : IsB l) (ha : -9223372036854775808 ≤ at_ ∧ at_ ≤ 9223372036854775807) :
    Calls Try.prog 53 #[.slice A n c, .int .i64 at_] w fun e w' => e = .returned (.tuple #[.int .i64 (unvL l at_).1, .int .i64 (unvL l at_).2.1, .int .i64 (unvL l at_).2.2]) ∧ w = w' := by
  unfold maxLen at hcm
  have HN := Lib.hid hn; clear hn
  have HA := Lib.hid hA; clear hA
  have HB := Lib.hid hB; clear hB
  by_cases h1 : at_ < 0
  · have e : unvL l at_ = (0, 0, 1) := by rw [unvL, if_pos h1]
    rw [e]
    clear e
    go_enter Try.func53, Try.ntmps53
    go_wp2_with fail
    go_ret3
    exact ⟨rfl, rfl⟩
  · obtain ⟨p, rfl⟩ := Int.eq_ofNat_of_zero_le (show 0 ≤ at_ by omega)
    have e : unvL l (p : Int) = unvG p (grp 0 (l.drop p)) := by rw [unvL, if_neg h1, Int.toNat_natCast]
    rw [e]
    obtain ⟨s, hs⟩ : ∃ s, s = l.drop p := ⟨_, rfl⟩
    rw [← hs]
    obtain ⟨R, hR⟩ : ∃ R, R = unvG p (grp 0 s) := ⟨_, rfl⟩
    rw [← hR]
    have HR := Lib.hid hR; clear hR
    have hsl : s.length = n - p := by rw [hs, List.length_drop, HN.out]
    have hsb : ∀ j, bt s j = bt l (p + j) := fun j => by rw [hs, bt_drop]
    have hsB : IsB s := by rw [hs]; exact fun x hx => HB.out x (List.mem_of_mem_drop hx)
    have HSL := Lib.hid hsl; clear hsl
    have HSB := Lib.hid hsb; clear hsb
    have HSI := Lib.hid hsB; clear hsB
    clear hs e h1
    go_enter Try.func53, Try.ntmps53
    go_wp2_with fail
    go_loop [7, 12] (fun z i => ∃ j : Nat, Pre s j ∧ i = .int .i64 j ∧ z = .int .u64 (valI (s.take j))) (fun _ i => 10 - (intOf i).toNat)
    case atStart => exact ⟨0, Pre.zero s, rfl, rfl⟩
    case round =>
      obtain ⟨j, hp, rfl, rfl⟩ := hrel
      have hj9 : j ≤ 9 := hp.1
      have HP := Lib.hid hp; clear hp
      obtain ⟨z, hz⟩ : ∃ x, x = valI (s.take j) := ⟨_, rfl⟩
      have hzb := valI_bd (s.take j)
      rw [← hz] at hzb ⊢
      have HZ := Lib.hid hz; clear hz
      have HZB := Lib.hid hzb; clear hzb
      by_cases hsh : n ≤ p + j
      · have hre := HR.out.trans (unv_short HP.out (by rw [HSL.out]; omega) p)
        have HRE := Lib.hid hre; clear hre
        rcases (show n ≤ p ∨ (p < n ∧ n - p ≤ j) by omega) with h | ⟨h, h'⟩
        all_goals
          go_wp2_with fail
          go_ret3
          exact ⟨by rw [HRE.out]; rfl, rfl⟩
      · have hjs : j < s.length := by rw [HSL.out]; omega
        have hjs' : j < n - p := by omega
        obtain ⟨b, off, hA', _, hcell⟩ := Rd.at HA.out (by rw [HN.out]; omega)
        subst hA'
        have hc := hcell (p + j) (by rw [HN.out]; omega)
        rw [← HSB.out j] at hc
        have HJ := Lib.hid hjs; clear hjs hcell
        obtain ⟨x0, x1⟩ := IsB.bt HSI.out j
        obtain ⟨x, hx⟩ : ∃ x, x = bt s j := ⟨_, rfl⟩
        rw [← hx] at hc x0 x1
        have HX := Lib.hid hx; clear hx
        by_cases h9 : j = 9 ∧ 1 < x
        · have hre := HR.out.trans (unv_over HP.out HJ.out h9.1 (by rw [← HX.out]; exact h9.2) p)
          have HRE := Lib.hid hre; clear hre
          obtain ⟨h9, hx1⟩ := h9
          subst h9
          go_wp2_with fail
          go_ret3
          exact ⟨by rw [HRE.out]; rfl, rfl⟩
        · have hn9 := and128 ⟨x0, x1⟩
          have han := andNot128 ⟨x0, x1⟩
          have hor := or_group hj9 (x := x % 128) (by have := HZB.out; rwa [List.length_take, Nat.min_eq_left (by have := HJ.out; omega)] at this) (by omega) (by omega)
          have h9s : ¬ (j = 9 ∧ 1 < bt s j) := by rw [← HX.out]; exact h9
          have H9S := Lib.hid h9s; clear h9s
          obtain ⟨y, hy⟩ : ∃ y, y = valI (s.take (j + 1)) := ⟨_, rfl⟩
          have hy0 : 0 ≤ y := by rw [hy]; exact (valI_bd _).1
          have hy1 : y ≤ 18446744073709551615 := by have := valI_fits HSI.out HP.out HJ.out H9S.out; rw [hy]; omega
          have hyz : z + x % 128 * 128 ^ j = y := by
            rw [hy, take_succ_bt HJ.out, valI_snoc, HZ.out, HX.out, List.length_take, Nat.min_eq_left (by have := HJ.out; omega)]
          rw [hyz] at hor
          have HY := Lib.hid hy; clear hy hyz
          have ha1 := and1 (z := y) ⟨hy0, by omega⟩
          have hzg := zag_prog (z := y) ⟨hy0, by omega⟩
          by_cases hbig : 128 ≤ x
          · have hd : decide (128 ≤ x) = true := by simpa using hbig
            have h9b : ((j : Int) == 9) = false := by simp; omega
            clear h9
            go_wp2_with fail
            go_round
            case rel => exact ⟨j + 1, HP.out.succ HJ.out H9S.out (by rw [← HX.out]; exact hbig), by go_num, by rw [HY.out]⟩
            case measure => simp [intOf]; omega
          · have hd : decide (128 ≤ x) = false := by simpa using hbig
            have hbs : ¬ 128 ≤ bt s j := by rw [← HX.out]; exact hbig
            have HBS := Lib.hid hbs; clear hbs
            by_cases hf : 0 < j ∧ x = 0
            · obtain ⟨hf1, hf2⟩ := hf
              subst hf2
              have hre := HR.out.trans (unv_form HP.out HJ.out H9S.out HBS.out hf1 HX.out.symm p)
              have HRE := Lib.hid hre; clear hre h9
              by_cases h9j : j = 9
              · subst h9j
                go_wp2_with fail
                go_ret3
                exact ⟨by rw [HRE.out]; rfl, rfl⟩
              · have h9b : ((j : Int) == 9) = false := by simp; omega
                go_wp2_with fail
                go_ret3
                exact ⟨by rw [HRE.out]; rfl, rfl⟩
            · have hre := HR.out.trans (unv_ok HP.out HJ.out H9S.out HBS.out (by rw [← HX.out]; exact hf) p)
              rw [← HY.out] at hre
              have HRE := Lib.hid hre; clear hre
              have hxz : 0 < j → (x == 0) = false := fun h0 => by simp; omega
              by_cases h9j : j = 9
              · have hx1 : x ≤ 1 := by omega
                have h9b : ((j : Int) == 9) = true := by simp; omega
                have hx0 := hxz (by omega)
                have hj0 : 0 < j := by omega
                clear h9 hf hxz h9j
                go_wp2_with fail
                go_ret3
                exact ⟨by rw [HRE.out]; rfl, rfl⟩
              · have h9b : ((j : Int) == 9) = false := by simp; omega
                by_cases hj0 : 0 < j
                · have hx0 := hxz hj0
                  clear h9 hf hxz h9j
                  go_wp2_with fail
                  go_ret3
                  exact ⟨by rw [HRE.out]; rfl, rfl⟩
                · clear h9 hf hxz h9j
                  go_wp2_with fail
                  go_ret3
                  exact ⟨by rw [HRE.out]; rfl, rfl⟩
end Go.Proofs.Ytbbdglikdogmhaa
