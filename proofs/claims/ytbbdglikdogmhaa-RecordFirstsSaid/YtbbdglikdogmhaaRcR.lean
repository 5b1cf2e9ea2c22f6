/- Walk: tomeref05.Same. -/
import Derived.Test.YtbbdglikdogmhaaRcE
namespace Go.Proofs.Ytbbdglikdogmhaa
open Go.RowKit
set_option maxRecDepth 100000
set_option linter.unusedVariables false
set_option linter.unusedSimpArgs false
set_option linter.unnecessarySimpa false

theorem VlCell.three {w : World} {b o : Nat} {v : Vl} (h : VlCell w b o v) : w.cell? ⟨b, o, none⟩ = some (.int .i64 v.k) ∧ w.cell? ⟨b, o + 1, none⟩ = some (.int .i64 v.n) ∧ w.cell? ⟨b, o + 2, none⟩ = some (.string (strOfNums v.s)) := by
  have h0 := h 0 _ rfl
  have h1 := h 1 _ rfl
  have h2 := h 2 _ rfl
  exact ⟨by simpa using h0, by simpa using h1, by simpa using h2⟩
theorem eq_of_vl {F G : List Vl} (h : F.length = G.length) (hq : ∀ i, i < F.length → vl_ F i = vl_ G i) : F = G := by
  apply List.ext_getElem h
  intro i h1 h2
  have := hq i h1
  rwa [vl_lt h1, vl_lt h2] at this

set_option maxHeartbeats 8000000 in
theorem vsame_any (w : World) (A B : Option Addr) (m c k d : Nat) (F G : List Vl) (hF : F.length = m) (hG : G.length = k) (hm : m ≤ maxLen) (hA : RdVl w A F) (hB : RdVl w B G) (hFo : ∀ v ∈ F, v.ok) (hGo : ∀ v ∈ G, v.ok) :
    Calls Try.prog 16 #[.slice A m c, .slice B k d] w fun e w' => e = .returned (.bool (decide (F = G))) ∧ Below w.heap.size w w' := by
  have HL := Lib.hid hF; clear hF
  have HK := Lib.hid hG; clear hG
  have HA := Lib.hid hA; clear hA
  have HB := Lib.hid hB; clear hB
  have HFO := Lib.hid hFo; clear hFo
  have HGO := Lib.hid hGo; clear hGo
  have hmm : m ≤ 9223372036854775807 := by unfold maxLen at hm; omega
  by_cases hnm : m = k
  · subst hnm
    have hne : ((m : Int) != (m : Int)) = false := by simp
    go_enter Try.func16, Try.ntmps16
    go_wp2_with fail
    go_loopw [5] (fun i wr => ∃ j : Nat, j ≤ m ∧ i = .int .i64 j ∧ Hid (∀ q, q < j → vl_ F q = vl_ G q) ∧ Below w.heap.size w wr) (fun i _ => m - (intOf i).toNat)
    case atStart => exact ⟨0, Nat.zero_le _, rfl, Lib.hid (by intro q hq; omega), Below.refl _ _⟩
    case round =>
      obtain ⟨j, hj, rfl, HE, hb⟩ := hrel
      by_cases hlt : j < m
      · obtain ⟨b1, o1, hA', hc1⟩ := RdVl.at (HA.out.keep hb) (by rw [HL.out]; omega)
        obtain ⟨b2, o2, hB', hc2⟩ := RdVl.at (HB.out.keep hb) (by rw [HK.out]; omega)
        obtain ⟨p0, p1, p2⟩ := (hc1 j (by rw [HL.out]; omega)).three
        obtain ⟨q0, q1, q2⟩ := (hc2 j (by rw [HK.out]; omega)).three
        subst hA'
        subst hB'
        clear hc1 hc2
        have fo := HFO.out _ (vl_mem (by rw [HL.out]; exact hlt))
        have go := HGO.out _ (vl_mem (F := G) (i := j) (by rw [HK.out]; exact hlt))
        obtain ⟨⟨fk, fn, fs⟩, hf⟩ : ∃ f, vl_ F j = f := ⟨_, rfl⟩
        obtain ⟨⟨gk, gn, gs⟩, hg⟩ : ∃ g, vl_ G j = g := ⟨_, rfl⟩
        rw [hf] at p0 p1 p2 fo
        rw [hg] at q0 q1 q2 go
        have HFE := Lib.hid hf; clear hf
        have HGE := Lib.hid hg; clear hg
        simp only at p0 p1 p2 q0 q1 q2
        have hstr := str_eq fo.2.2 go.2.2
        simp only at hstr
        have HST := Lib.hid hstr; clear hstr fo go
        have i0 : (0 : Int) ≤ (j : Int) := by omega
        have i1 : (j : Int) < (m : Int) := by omega
        by_cases hq : fk = gk ∧ fn = gn ∧ fs = gs
        · obtain ⟨rfl, rfl, rfl⟩ := hq
          clear HST
          go_wp2_with fail
          go_quiet (fail)
          go_wp2_with fail
          go_roundw
          case rel =>
            refine ⟨j + 1, by omega, by go_num, Lib.hid ?_, below_drewN hb _⟩
            intro q hq
            by_cases hqj : q < j
            · exact HE.out q hqj
            · obtain rfl : q = j := by omega
              rw [HFE.out, HGE.out]
          case measure => simp [intOf]; omega
        · have hne : F ≠ G := by
            rintro rfl
            have := HFE.out.symm.trans HGE.out
            injection this with e1 e2 e3
            exact hq ⟨e1, e2, e3⟩
          have HNE := Lib.hid hne
          clear hne
          by_cases hk : fk = gk
          · subst hk
            by_cases hn : fn = gn
            · subst hn
              have hs : ¬ (strOfNums fs).toList = (strOfNums gs).toList := fun h => hq ⟨rfl, rfl, HST.out.1 h⟩
              clear hq HST
              go_wp2_with fail
              go_quiet (fail)
              go_wp2
              go_ret
              exact ⟨ret_bool (by rw [decide_eq_false HNE.out]), below_drewN hb _⟩
            · clear hq HST
              go_wp2_with fail
              go_quiet (fail)
              go_wp2
              go_ret
              exact ⟨ret_bool (by rw [decide_eq_false HNE.out]), below_drewN hb _⟩
          · clear hq HST
            go_wp2_with fail
            go_quiet (fail)
            go_wp2
            go_ret
            exact ⟨ret_bool (by rw [decide_eq_false HNE.out]), below_drewN hb _⟩
      · obtain rfl : j = m := by omega
        have hEq : F = G := eq_of_vl (by rw [HL.out, HK.out]) (by rw [HL.out]; exact HE.out)
        have HEQ := Lib.hid hEq
        clear hEq
        go_wp2_with fail
        go_ret
        exact ⟨ret_bool (by rw [decide_eq_true HEQ.out]), hb⟩
  · have hne : ((m : Int) != (k : Int)) = true := by simp; omega
    have hNE : F ≠ G := fun h => hnm (by rw [← HL.out, ← HK.out, h])
    have HNE := Lib.hid hNE
    clear hNE hnm
    go_enter Try.func16, Try.ntmps16
    go_wp2
    go_ret
    exact ⟨ret_bool (by rw [decide_eq_false HNE.out]), Below.refl _ _⟩
end Go.Proofs.Ytbbdglikdogmhaa
