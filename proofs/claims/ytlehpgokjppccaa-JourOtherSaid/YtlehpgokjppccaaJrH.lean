/- Walk: tomeref11.Frames. -/
import Derived.Test.YtlehpgokjppccaaFr
namespace Go.Proofs.Ytlehpgokjppccaa
open Go.RowKit
set_option maxRecDepth 100000

theorem eq_of_fr {F G : List Fr} (h : F.length = G.length) (hq : ∀ i, i < F.length → fr_ F i = fr_ G i) : F = G := by
  apply List.ext_getElem h
  intro i h1 h2
  have := hq i h1
  rwa [fr_lt h1, fr_lt h2] at this

set_option maxHeartbeats 2000000 in
theorem same_q (w : World) (A B : Option Addr) (n c m d : Nat) (l k : List Int) (hl : l.length = n) (hk : k.length = m) (hn : n ≤ 9223372036854775807) (hA : Rd w A l) (hB : Rd w B k) :
    Calls Try.prog 16 #[.slice A n c, .slice B m d] w fun e w' => e = .returned (.bool (beqL l k)) ∧ ∃ x, w' = w.drewN x := by
  have HL := Lib.hid hl; clear hl
  have HK := Lib.hid hk; clear hk
  have HA := Lib.hid hA; clear hA
  have HB := Lib.hid hB; clear hB
  by_cases hnm : n = m
  · subst hnm
    have hne : ((n : Int) != (n : Int)) = false := by simp
    go_enter Try.func16, Try.ntmps16
    go_wp2_with fail
    go_loopw [5] (fun i wr => ∃ j : Nat, j ≤ n ∧ i = .int .i64 j ∧ Hid (∀ q, q < j → bt l q = bt k q) ∧ ∃ x, wr = w.drewN x) (fun i _ => n - (intOf i).toNat)
    case atStart => exact ⟨0, Nat.zero_le _, rfl, fun q hq => absurd hq (by omega), 0, rfl⟩
    case round =>
      obtain ⟨j, hj, rfl, HE, x, rfl⟩ := hrel
      by_cases hlt : j < n
      · obtain ⟨b1, o1, hA', _, hc1⟩ := Rd.at HA.out (by rw [HL.out]; omega)
        obtain ⟨b2, o2, hB', _, hc2⟩ := Rd.at HB.out (by rw [HK.out]; omega)
        have c1 := hc1 j (by rw [HL.out]; omega)
        have c2 := hc2 j (by rw [HK.out]; omega)
        subst hA'
        subst hB'
        clear hc1 hc2
        have i0 : (0 : Int) ≤ (j : Int) := by omega
        have i1 : (j : Int) < (n : Int) := by omega
        by_cases he : bt l j = bt k j
        · have hne2 : (bt l j != bt k j) = false := by simp [he]
          have HEE := Lib.hid he; clear he
          go_wp2_with fail
          go_quiet (fail)
          go_wp2_with fail
          go_roundw
          case rel =>
            refine ⟨j + 1, by omega, by go_num, fun q hq => ?_, x + nq, by first | rfl | exact World.drewN_drewN _ _ _⟩
            by_cases hqj : q < j
            · exact HE.out q hqj
            · obtain rfl : q = j := by omega
              exact HEE.out
          case measure => simp [intOf]; omega
        · have hne2 : (bt l j != bt k j) = true := by simp [he]
          go_wp2_with fail
          go_quiet (fail)
          go_wp2
          go_ret
          refine ⟨ret_bool ?_, x + nq, by first | rfl | exact World.drewN_drewN _ _ _⟩
          rw [eq_comm, beqL_no]
          rintro rfl
          exact he rfl
      · obtain rfl : j = n := by omega
        go_wp2_with fail
        go_ret
        refine ⟨ret_bool ?_, x, rfl⟩
        rw [eq_comm, beqL_iff]
        exact eq_of_bt (by rw [HL.out, HK.out]) (by rw [HL.out]; exact HE.out)
  · have hne : ((n : Int) != (m : Int)) = true := by simp; omega
    have HNM := Lib.hid hnm; clear hnm
    go_enter Try.func16, Try.ntmps16
    go_wp2
    go_ret
    refine ⟨ret_bool ?_, 0, rfl⟩
    rw [eq_comm, beqL_no]
    exact fun e => HNM.out (by rw [← HL.out, ← HK.out, e])

set_option maxHeartbeats 8000000 in
theorem frames_any (w : World) (A B : Option Addr) (m c k d : Nat) (F G : List Fr) (hF : F.length = m) (hG : G.length = k) (hm : m ≤ maxLen) (hA : RdFr w A F) (hB : RdFr w B G) :
    Calls Try.prog 24 #[.slice A m c, .slice B k d] w fun e w' => e = .returned (.bool (decide (F = G))) ∧ Below w.heap.size w w' := by
  have HL := Lib.hid hF; clear hF
  have HK := Lib.hid hG; clear hG
  have HA := Lib.hid hA; clear hA
  have HB := Lib.hid hB; clear hB
  have hmm : m ≤ 9223372036854775807 := by unfold maxLen at hm; omega
  by_cases hnm : m = k
  · subst hnm
    have hne : ((m : Int) != (m : Int)) = false := by simp
    go_enter Try.func24, Try.ntmps24
    go_wp2_with fail
    go_loopw [5] (fun i wr => ∃ j : Nat, j ≤ m ∧ i = .int .i64 j ∧ Hid (∀ q, q < j → fr_ F q = fr_ G q) ∧ Below w.heap.size w wr) (fun i _ => m - (intOf i).toNat)
    case atStart => exact ⟨0, Nat.zero_le _, rfl, fun q hq => absurd hq (by omega), Below.refl _ _⟩
    case round =>
      obtain ⟨j, hj, rfl, HE, hb⟩ := hrel
      by_cases hlt : j < m
      · obtain ⟨b1, o1, hA', hc1⟩ := RdFr.at (HA.out.keep hb) (by rw [HL.out]; omega)
        obtain ⟨b2, o2, hB', hc2⟩ := RdFr.at (HB.out.keep hb) (by rw [HK.out]; omega)
        obtain ⟨A1, c1, p0, p1, p2, p3, p4, p5⟩ := hc1 j (by rw [HL.out]; omega)
        obtain ⟨A2, c2, q0, q1, q2, q3, q4, q5⟩ := hc2 j (by rw [HK.out]; omega)
        subst hA'
        subst hB'
        clear hc1 hc2
        have HF := Lib.hid (show fr_ F j = fr_ F j from rfl)
        generalize hf : fr_ F j = f at *
        generalize hg : fr_ G j = g at *
        have HFE := Lib.hid hf; clear hf
        have HGE := Lib.hid hg; clear hg
        have i0 : (0 : Int) ≤ (j : Int) := by omega
        have i1 : (j : Int) < (m : Int) := by omega
        have R1 := Lib.hid p5; clear p5
        have R2 := Lib.hid q5; clear q5
        have P3 := Lib.hid p3; clear p3
        have P4 := Lib.hid p4; clear p4
        have Q3 := Lib.hid q3; clear q3
        have Q4 := Lib.hid q4; clear q4
        clear HF
        by_cases he0 : f.pg = g.pg
        · have e0 : (f.pg != g.pg) = false := by simp [he0]
          by_cases he1 : f.cm = g.cm
          · have e1 : (f.cm != g.cm) = false := by simp [he1]
            have HE0 := Lib.hid he0; clear he0
            have HE1 := Lib.hid he1; clear he1
            have hfl : f.b.length ≤ 9223372036854775807 := by have := P3.out; have := P4.out; unfold maxLen at this; omega
            by_cases he2 : f.b = g.b
            · have hq : beqL f.b g.b = true := by rw [he2, beqL_self]
              have HE2 := Lib.hid he2; clear he2
              go_wp2_with fail
              have HSM := Lib.hid (show ∀ n, Calls Try.prog 16 #[.slice A1 f.b.length c1, .slice A2 g.b.length c2] (wr.drewN n) fun e w' => e = .returned (.bool true) ∧ ∃ x, w' = (wr.drewN n).drewN x from fun n => by
                have := same_q (wr.drewN n) A1 A2 f.b.length c1 g.b.length c2 f.b g.b rfl rfl hfl (R1.out.keep (below_drewN (Below.refl _ _) _)) (R2.out.keep (below_drewN (Below.refl _ _) _))
                rwa [hq] at this)
              go_quiet ((go_at_call 16; exact Calls.quiet_of (HSM.out _)))
              go_wp2_with fail
              go_roundw
              case rel =>
                refine ⟨j + 1, by omega, by go_num, fun q hq => ?_, below_drewN hb _⟩
                by_cases hqj : q < j
                · exact HE.out q hqj
                · obtain rfl : q = j := by omega
                  rw [HFE.out, HGE.out]
                  obtain ⟨fp, fc, fb⟩ := f
                  obtain ⟨gp, gc, gb⟩ := g
                  have a0 := HE0.out
                  have a1 := HE1.out
                  have a2 := HE2.out
                  simp only at a0 a1 a2
                  rw [a0, a1, a2]
              case measure => simp [intOf]; omega
            · have hq : beqL f.b g.b = false := by rw [beqL_no]; exact he2
              have HE2 := Lib.hid he2; clear he2
              go_wp2_with fail
              have HSM := Lib.hid (show ∀ n, Calls Try.prog 16 #[.slice A1 f.b.length c1, .slice A2 g.b.length c2] (wr.drewN n) fun e w' => e = .returned (.bool false) ∧ ∃ x, w' = (wr.drewN n).drewN x from fun n => by
                have := same_q (wr.drewN n) A1 A2 f.b.length c1 g.b.length c2 f.b g.b rfl rfl hfl (R1.out.keep (below_drewN (Below.refl _ _) _)) (R2.out.keep (below_drewN (Below.refl _ _) _))
                rwa [hq] at this)
              go_quiet ((go_at_call 16; exact Calls.quiet_of (HSM.out _)))
              go_wp2
              go_ret
              refine ⟨ret_bool ?_, below_drewN hb _⟩
              exact (decide_eq_false (fun e => HE2.out (by rw [← HFE.out, ← HGE.out, e]))).symm
          · have e1 : (f.cm != g.cm) = true := by simp [he1]
            have HE1 := Lib.hid he1; clear he1
            go_wp2_with fail
            go_quiet (fail)
            go_wp2
            go_ret
            refine ⟨ret_bool ?_, below_drewN hb _⟩
            exact (decide_eq_false (fun e => HE1.out (by rw [← HFE.out, ← HGE.out, e]))).symm
        · have e0 : (f.pg != g.pg) = true := by simp [he0]
          have HE0 := Lib.hid he0; clear he0
          go_wp2_with fail
          go_quiet (fail)
          go_wp2
          go_ret
          refine ⟨ret_bool ?_, below_drewN hb _⟩
          exact (decide_eq_false (fun e => HE0.out (by rw [← HFE.out, ← HGE.out, e]))).symm
      · obtain rfl : j = m := by omega
        go_wp2_with fail
        go_ret
        refine ⟨ret_bool ?_, hb⟩
        exact (decide_eq_true (eq_of_fr (by rw [HL.out, HK.out]) (by rw [HL.out]; exact HE.out))).symm
  · have hne : ((m : Int) != (k : Int)) = true := by simp; omega
    have HNM := Lib.hid hnm; clear hnm
    go_enter Try.func24, Try.ntmps24
    go_wp2
    go_ret
    refine ⟨ret_bool ?_, Below.refl _ _⟩
    exact (decide_eq_false (fun e => HNM.out (by rw [← HL.out, ← HK.out, e]))).symm
end Go.Proofs.Ytlehpgokjppccaa
