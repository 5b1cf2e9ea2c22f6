/- Walks over a page: lay, top, Clone, Many, Bytes. -/
import Derived.Test.YtoeaffmlolapnaaSlB
import Derived.Test.YtoeaffmlolapnaaSlM
namespace Go.Proofs.Ytoeaffmlolapnaa
open Go.RowKit
set_option maxRecDepth 100000
set_option linter.unusedVariables false
set_option linter.unusedSimpArgs false
set_option linter.unnecessarySimpa false

def layL (L : List Int) (q : Nat) (cs : List Int) : List Int := splice (splice L q (fxL (cs.length : Int) 2)) (q + 2) cs
theorem layL_len {L cs : List Int} {q : Nat} (h : q + 2 + cs.length ≤ L.length) : (layL L q cs).length = L.length := by
  have e : (splice L q (fxL (cs.length : Int) 2)).length = L.length := splice_len (by rw [fxL_length]; omega)
  unfold layL
  rw [splice_len (by rw [e]; exact h), e]
theorem Rd.mut {w w' : World} {gb : Nat} {A : Option Addr} {l : List Int} (h : Rd w A l) (hm : Mut w gb w') (hne : ∀ a, A = some a → l ≠ [] → a.block ≠ gb) : Rd w' A l := by
  rcases h with rfl | ⟨b, off, rfl, hc⟩
  · exact .inl rfl
  · refine .inr ⟨b, off, rfl, fun i hi => ?_⟩
    have h1 := hc i hi
    have h2 := hm.block b (World.block_lt_of_cell? w ⟨b, off + i, none⟩ h1) (hne _ rfl (by rintro rfl; simp at hi))
    rw [← h1]
    simp [World.cell?, h2]

set_option maxHeartbeats 4000000 in
theorem play_any (w : World) (g gb c h : Nat) (L : List Int) (X : List Value) (hp : Pg w g gb c h L X) (hL : L.length ≤ 4096) (q m : Nat) (sp : Option Addr) (sc : Nat) (cs : List Int) (hq : q + 2 + m ≤ L.length) (hm : cs.length = m) (hrd : Rd w sp cs) (hB : IsB cs) (hne : ∀ a, sp = some a → cs ≠ [] → a.block ≠ gb) :
    Calls Try.prog 69 #[.pointer (some ⟨g, 0, none⟩), .int .i64 ((q : Int) + 2 + (m : Int)), .slice sp m sc] w fun e w' => e = .returned (.int .i64 (q : Int)) ∧ PgBack g gb c h X w (layL L q cs) w' := by
  have HP := Lib.hid hp
  have HM := Lib.hid hm
  have HRD := Lib.hid hrd
  have hlc := hp.len
  clear hp hm hrd
  have hb : (q : Int) + 2 + (m : Int) - 2 - (m : Int) = (q : Int) := by omega
  have hbq : (q : Int) ≤ 4096 ∧ (m : Int) ≤ 4096 := by omega
  obtain ⟨top, htop⟩ : ∃ t, t = (q : Int) + 2 + (m : Int) := ⟨_, rfl⟩
  rw [← htop] at hb ⊢
  have ht : top ≤ 10000 ∧ 2 ≤ top := by omega
  have HT := Lib.hid htop
  clear htop
  go_enter Try.func69, Try.ntmps69
  go_wp2_with fail
  refine (pset_any _ g gb c h L X HP.out q (m : Int) (by omega) (by omega) (by omega)).mono ?_
  rintro e w1 ⟨rfl, hp1, hm1⟩
  obtain ⟨L1, hL1⟩ : ∃ L1, L1 = splice L q (fxL (m : Int) 2) := ⟨_, rfl⟩
  rw [← hL1] at hp1
  have hl1 : L1.length = L.length := by rw [hL1]; exact splice_len (by rw [fxL_length]; omega)
  have HP1 := Lib.hid hp1
  have HL1 := Lib.hid hL1
  have HM1 := Lib.hid hm1
  have HR1 := Lib.hid (HRD.out.mut hm1 hne)
  have m0 := hp1.m0
  rw [hl1] at m0
  have hcut := run_cut_from (some ⟨gb, 0, none⟩) L.length c (q + 2) (by omega)
  rw [show ((q + 2 : Nat) : Int) = (q : Int) + 2 by omega] at hcut
  obtain ⟨D, hD⟩ : ∃ D, cutA (some ⟨gb, 0, none⟩) c (q + 2) = D := ⟨_, rfl⟩
  have HD := Lib.hid hD
  rw [hD] at hcut
  have HLL := Lib.hid hl1
  clear hD hp1 hm1 hL1 hl1
  go_upto_region 3 with fail
  iterate 25 go_step
  refine wp_copy_pg rfl (.tmp 24) (.tmp 25) rfl gb (q + 2) (L.length - (q + 2)) (c - (q + 2)) c L1 cs X (by rw [HD.out]; rfl) HP1.out.row HP1.out.cap (by rw [HLL.out]; omega) sp m sc rfl HM.out (by omega) HR1.out ?_
  intro w3 hr3 hm3
  have hmm := HM1.out.trans hm3
  have hl : splice L1 (q + 2) cs = layL L q cs := by rw [HL1.out]; unfold layL; rw [HM.out]
  have HP3 := Lib.hid (HP1.out.mut hm3 hr3 (splice_len (by rw [HLL.out, HM.out]; exact hq)) (splice_isB HP1.out.byts hB _))
  rw [hl] at HP3
  clear hl hr3 hm3
  go_wp2
  go_ret
  exact ⟨rfl, HP3.out, hmm⟩

theorem pl_bd {M : Mdl} (g : Good M) {j : Nat} (hj : j < M.k) : M.pl j + 2 ≤ 4096 := by
  have := g.hi j hj
  have := g.n1
  omega
set_option maxHeartbeats 4000000 in
theorem ptop_any (w : World) (g gb c : Nat) (L : List Int) (X : List Value) (M : Mdl) (hp : Pg w g gb c M.h L X) (hi : IsP L M) (hg : Good M) :
    Calls Try.prog 71 #[.pointer (some ⟨g, 0, none⟩)] w fun e w' => e = .returned (.int .i64 (M.top : Int)) ∧ w = w' := by
  have m0 := hp.m0
  rw [hi.len] at m0
  have HP := Lib.hid hp
  have HI := Lib.hid hi
  have HG := Lib.hid hg
  have hn1 := hg.n1
  have hh := hg.h1
  have hfit := hg.fit
  have hk := hg.kle
  unfold Mdl.used at hfit
  clear hp hi hg
  have HMN := Lib.hid HI.out.many
  go_enter Try.func71, Try.ntmps71
  go_wp2_with fail
  refine (pmany_any _ g gb c M.h L X HP.out (by rw [HI.out.len]; omega)).mono ?_
  rintro e w1 ⟨rfl, rfl⟩
  rw [HMN.out]
  go_wp2_with fail
  go_loop [3, 12] (fun t i => ∃ j : Nat, j ≤ M.k ∧ i = .int .i64 j ∧ t = .int .i64 (minP M.n (M.P.take j) : Int)) (fun _ i => M.k - (intOf i).toNat)
  case atStart => exact ⟨0, Nat.zero_le _, rfl, rfl⟩
  case round =>
    obtain ⟨j, hj, rfl, rfl⟩ := hrel
    by_cases hlt : j < M.k
    · have hst := minP_take (n := M.n) (P := M.P) (i := j) (by rw [HG.out.same]; exact hlt)
      have hpl : M.P.getD j 0 = M.pl j := rfl
      rw [hpl] at hst
      clear hpl
      have HST := Lib.hid hst
      have hq := HG.out.hi j hlt
      have hm0 := minP_le M.n (M.P.take j)
      obtain ⟨q, hq'⟩ : ∃ q, M.pl j = q := ⟨_, rfl⟩
      have HS := Lib.hid (HI.out.slots j hlt)
      obtain ⟨t, ht⟩ : ∃ t, minP M.n (M.P.take j) = t := ⟨_, rfl⟩
      rw [hq', ht] at HST
      rw [hq'] at HS hq
      rw [ht] at hm0 ⊢
      have hj1 : (j : Int) ≤ 70000 := by omega
      have hlt' : (j : Int) < (M.k : Int) := by omega
      clear hst hq' ht
      go_wp2_with fail
      refine (pslot_any _ g gb c M.h L X HP.out hh (j : Int) (by omega) hj1).mono ?_
      rintro e w1 ⟨rfl, rfl⟩
      rw [show (M.h : Int) + 2 + 2 * (j : Int) = ((M.h + 2 + 2 * j : Nat) : Int) by omega]
      go_wp2_with fail
      refine (pnum_any _ g gb c M.h L X HP.out (M.h + 2 + 2 * j) (by rw [HI.out.len]; omega)).mono ?_
      rintro e w1 ⟨rfl, rfl⟩
      rw [HS.out]
      go_wp2_with fail
      go_round
      case rel => exact ⟨j + 1, by omega, by go_num, by rw [HST.out]; congr 1; split <;> omega⟩
      case measure => simp [intOf]; omega
    · obtain rfl : j = M.k := by omega
      have ht : minP M.n (M.P.take M.k) = M.top := by rw [← HG.out.same, List.take_length]; rfl
      rw [ht]
      clear ht
      go_wp2_with fail
      go_ret
      exact ⟨rfl, rfl⟩
end Go.Proofs.Ytoeaffmlolapnaa
