/- Walks: slices.Equal of values, order.Same. Printed by genTpC.py. -/
import Derived.Test.YtbbdglikdogmhaaTpB
namespace Go.Proofs.Ytbbdglikdogmhaa
open Go.RowKit
set_option maxRecDepth 100000
set_option linter.unusedVariables false
set_option linter.unusedSimpArgs false
set_option linter.unnecessarySimpa false

theorem vl_parts {x y : Vl} (h : ¬ x = y) : ¬ x.k = y.k ∨ ¬ x.n = y.n ∨ ¬ x.s = y.s := by
  by_cases h1 : x.k = y.k
  · by_cases h2 : x.n = y.n
    · by_cases h3 : x.s = y.s
      · obtain ⟨a, b, c⟩ := x
        obtain ⟨a', b', c'⟩ := y
        simp only at h1 h2 h3
        subst h1 h2 h3
        exact absurd rfl h
      · exact .inr (.inr h3)
    · exact .inr (.inl h2)
  · exact .inl h1
theorem str_ne {a b : List Int} (ha : IsB a) (hb : IsB b) (h : ¬ a = b) : ¬ (strOfNums a).toList = (strOfNums b).toList := fun e => h ((str_eq ha hb).1 e)

set_option maxHeartbeats 16000000 in
theorem vequal_any (w : World) (A B : Option Addr) (n c m d : Nat) (F G : List Vl) (hn : F.length = n) (hm : G.length = m) (hnm : n ≤ maxLen) (hmm : m ≤ maxLen) (hA : RdVl w A F) (hB : RdVl w B G) (hF : ∀ v ∈ F, VOk v) (hG : ∀ v ∈ G, VOk v) (R : Ending → World → Prop) (hR : R = fun e w' => ∃ b : Bool, e = .returned (.bool b) ∧ (b = true ↔ F = G) ∧ Below w.heap.size w w') :
    Calls Try.prog 43 #[.slice A n c, .slice B m d] w R := by
  have HR := Lib.hid hR; clear hR
  have HN := Lib.hid hn
  have HM := Lib.hid hm
  have HA := Lib.hid hA
  have HB := Lib.hid hB
  have HF := Lib.hid hF
  have HG := Lib.hid hG
  have hn63 : n ≤ 9223372036854775807 := by unfold maxLen at hnm; omega
  clear hn hm hA hB hF hG
  by_cases hnm2 : n = m
  case neg =>
    have q : ((n : Int) != (m : Int)) = true := by simp; omega
    have HNE := Lib.hid (show ¬ F = G from fun h => hnm2 (by rw [← HN.out, ← HM.out, h]))
    go_enter Try.func43, Try.ntmps43
    go_wp2_with fail
    rw [HR.out]
    exact ⟨false, rfl, ⟨(fun h => (by cases h)), fun h => absurd h HNE.out⟩, Below.refl _ _⟩
  have q : ((n : Int) != (m : Int)) = false := by simp [hnm2]
  have HNM := Lib.hid hnm2
  clear hnm2
  go_enter Try.func43, Try.ntmps43
  go_wp2_with fail
  go_loopw [13] (fun iv wr => ∃ j : Nat, j ≤ n ∧ iv = .int .i64 (j : Int) ∧ F.take j = G.take j ∧ Below w.heap.size w wr) (fun i _ => n - (intOf i).toNat)
  case atStart => exact ⟨0, Nat.zero_le _, rfl, rfl, Below.refl _ _⟩
  case round =>
    obtain ⟨j, hj, rfl, heq, hb⟩ := hrel
    have HEQ := Lib.hid heq
    clear heq
    by_cases hlt : j < n
    · have hlt' : (j : Int) < (n : Int) := by omega
      have hlm' : (j : Int) < (m : Int) := by have := HNM.out; omega
      have i0 : (0 : Int) ≤ (j : Int) := by omega
      have hjF : j < F.length := by rw [HN.out]; exact hlt
      have hjG : j < G.length := by rw [HM.out, ← HNM.out]; exact hlt
      obtain ⟨b, off, hAe, hcell⟩ := (HA.out.keep hb).at (by omega)
      obtain ⟨b2, off2, hBe, hcell2⟩ := (HB.out.keep hb).at (by omega)
      have HR1 := Lib.hid (hcell j hjF)
      have HR2 := Lib.hid (hcell2 j hjG)
      have HFJ := Lib.hid (take_vl hjF)
      have HGJ := Lib.hid (take_vl hjG)
      have hxo := HF.out _ (vl_mem hjF)
      have hyo := HG.out _ (vl_mem hjG)
      have HNE := Lib.hid (show ¬ vl_ F j = vl_ G j → ¬ F = G from fun h e => h (by rw [e]))
      obtain ⟨x, hx⟩ : ∃ x, vl_ F j = x := ⟨_, rfl⟩
      obtain ⟨y, hy⟩ : ∃ y, vl_ G j = y := ⟨_, rfl⟩
      rw [hx] at HR1 HFJ hxo HNE
      rw [hy] at HR2 HGJ hyo HNE
      have HXO := Lib.hid hxo.1.2.2
      have HYO := Lib.hid hyo.1.2.2
      have hl1 : b < wr.heap.size := World.block_lt_of_cell? wr ⟨b, off + j * 3 + 0, none⟩ (HR1.out 0 _ rfl)
      have hl2 : b2 < wr.heap.size := World.block_lt_of_cell? wr ⟨b2, off2 + j * 3 + 0, none⟩ (HR2.out 0 _ rfl)
      subst hAe
      subst hBe
      clear hcell hcell2 hx hy hjF hjG hxo hyo
      go_upto_region 6 with fail
      refine wp_region_held_drew (S := (fun W => Below wr.heap.size wr W)) (by kernel_rfl) ?_ (fun hHeld => ?_)
      · exact (Below.refl _ wr).drew
      refine' wpAnyH_take (i := 0) (oi := _) (v := _) rfl (by kernel_rfl) (by kernel_rfl) (by kernel_rfl) (fun _ _ _ h => h) (Or.inl ⟨by rfl, ?hz1⟩) (by assumption) ?rezt1
      case hz1 => (intro w' hSw; (try dsimp only at hSw); go_simp; try with_reducible rfl)
      try simp only [Act.put, List.setIfInBounds_toArray, List.set_cons_zero, List.set_cons_succ, List.getElem_toArray, List.getElem_cons_zero, List.getElem_cons_succ]
      refine' wpAnyH_take (i := 1) (oi := _) (v := _) rfl (by kernel_rfl) (by kernel_rfl) (by kernel_rfl) (fun _ _ _ h => h) (Or.inl ⟨by rfl, ?hz2⟩) (by assumption) ?rezt2
      case hz2 => (intro w' hSw; (try dsimp only at hSw); go_simp; try with_reducible rfl)
      try simp only [Act.put, List.setIfInBounds_toArray, List.set_cons_zero, List.set_cons_succ, List.getElem_toArray, List.getElem_cons_zero, List.getElem_cons_succ]
      refine' wpAnyH_take (i := 2) (oi := _) (v := _) rfl (by kernel_rfl) (by kernel_rfl) (by kernel_rfl) (fun _ _ _ h => h) (Or.inl ⟨by rfl, ?hz3⟩) (by assumption) ?rezt3
      case hz3 => (intro w' hSw; (try dsimp only at hSw); go_simp; try with_reducible rfl)
      try simp only [Act.put, List.setIfInBounds_toArray, List.set_cons_zero, List.set_cons_succ, List.getElem_toArray, List.getElem_cons_zero, List.getElem_cons_succ]
      refine' wpAnyH_take (i := 3) (oi := _) (v := .agg #[.int .i64 x.k, .int .i64 x.n, .string (strOfNums x.s)]) rfl (by kernel_rfl) (by kernel_rfl) (by kernel_rfl) (fun _ _ _ h => h) (yieldsIf_load_mid (by rfl) 49 _ rfl b (off + j * 3) rfl (vlC x) _ (fun W hW => (rangeAt_keep HR1.out hW)) Try.underlying49 rfl size_vl) (by assumption) ?rezl1
      try simp only [Act.put, List.setIfInBounds_toArray, List.set_cons_zero, List.set_cons_succ, List.getElem_toArray, List.getElem_cons_zero, List.getElem_cons_succ]
      refine' wpAnyH_take (i := 4) (oi := _) (v := _) rfl (by kernel_rfl) (by kernel_rfl) (by kernel_rfl) (fun _ _ _ h => h) (Or.inl ⟨by rfl, ?hz4⟩) (by assumption) ?rezt4
      case hz4 => (intro w' hSw; (try dsimp only at hSw); go_simp; try with_reducible rfl)
      try simp only [Act.put, List.setIfInBounds_toArray, List.set_cons_zero, List.set_cons_succ, List.getElem_toArray, List.getElem_cons_zero, List.getElem_cons_succ]
      refine' wpAnyH_take (i := 5) (oi := _) (v := _) rfl (by kernel_rfl) (by kernel_rfl) (by kernel_rfl) (fun _ _ _ h => h) (Or.inl ⟨by rfl, ?hz5⟩) (by assumption) ?rezt5
      case hz5 => (intro w' hSw; (try dsimp only at hSw); go_simp; try with_reducible rfl)
      try simp only [Act.put, List.setIfInBounds_toArray, List.set_cons_zero, List.set_cons_succ, List.getElem_toArray, List.getElem_cons_zero, List.getElem_cons_succ]
      refine' wpAnyH_take (i := 6) (oi := _) (v := _) rfl (by kernel_rfl) (by kernel_rfl) (by kernel_rfl) (fun _ _ _ h => h) (Or.inl ⟨by rfl, ?hz6⟩) (by assumption) ?rezt6
      case hz6 => (intro w' hSw; (try dsimp only at hSw); go_simp; try with_reducible rfl)
      try simp only [Act.put, List.setIfInBounds_toArray, List.set_cons_zero, List.set_cons_succ, List.getElem_toArray, List.getElem_cons_zero, List.getElem_cons_succ]
      refine' wpAnyH_take (i := 7) (oi := _) (v := .agg #[.int .i64 y.k, .int .i64 y.n, .string (strOfNums y.s)]) rfl (by kernel_rfl) (by kernel_rfl) (by kernel_rfl) (fun _ _ _ h => h) (yieldsIf_load_mid (by rfl) 49 _ rfl b2 (off2 + j * 3) rfl (vlC y) _ (fun W hW => (rangeAt_keep HR2.out hW)) Try.underlying49 rfl size_vl) (by assumption) ?rezl2
      try simp only [Act.put, List.setIfInBounds_toArray, List.set_cons_zero, List.set_cons_succ, List.getElem_toArray, List.getElem_cons_zero, List.getElem_cons_succ]
      have hbd : Below w.heap.size w wr.drew := hb.drew
      by_cases hxy : x = y
      · subst hxy
        refine' wpAnyH_take (i := 8) (oi := _) (v := _) rfl (by kernel_rfl) (by kernel_rfl) (by kernel_rfl) (fun _ _ _ h => h) (Or.inl ⟨by rfl, ?hz7⟩) (by assumption) ?rezt7
        case hz7 => (intro w' hSw; (try dsimp only at hSw); go_simp; try with_reducible rfl)
        try simp only [Act.put, List.setIfInBounds_toArray, List.set_cons_zero, List.set_cons_succ, List.getElem_toArray, List.getElem_cons_zero, List.getElem_cons_succ]
        refine wpAnyH_done (by kernel_rfl) ?_ _
        have HNX := Lib.hid (show F.take (j + 1) = G.take (j + 1) by rw [HFJ.out, HGJ.out, HEQ.out])
        go_wp2_with fail
        go_roundw
        case rel => exact ⟨j + 1, by omega, by go_num, HNX.out, hbd⟩
        case measure => simp [intOf]; omega
      · have HNF := Lib.hid (HNE.out hxy)
        rcases vl_parts hxy with h | h | h
        · refine' wpAnyH_take (i := 8) (oi := _) (v := _) rfl (by kernel_rfl) (by kernel_rfl) (by kernel_rfl) (fun _ _ _ h => h) (Or.inl ⟨by rfl, ?hz8⟩) (by assumption) ?rezt8
          case hz8 => (intro w' hSw; (try dsimp only at hSw); go_simp; try with_reducible rfl)
          try simp only [Act.put, List.setIfInBounds_toArray, List.set_cons_zero, List.set_cons_succ, List.getElem_toArray, List.getElem_cons_zero, List.getElem_cons_succ]
          refine wpAnyH_done (by kernel_rfl) ?_ _
          clear hxy
          go_wp2_with fail
          rw [HR.out]
          exact ⟨false, rfl, ⟨(fun h => (by cases h)), fun h => absurd h HNF.out⟩, hbd⟩
        · refine' wpAnyH_take (i := 8) (oi := _) (v := _) rfl (by kernel_rfl) (by kernel_rfl) (by kernel_rfl) (fun _ _ _ h => h) (Or.inl ⟨by rfl, ?hz9⟩) (by assumption) ?rezt9
          case hz9 => (intro w' hSw; (try dsimp only at hSw); go_simp; try with_reducible rfl)
          try simp only [Act.put, List.setIfInBounds_toArray, List.set_cons_zero, List.set_cons_succ, List.getElem_toArray, List.getElem_cons_zero, List.getElem_cons_succ]
          refine wpAnyH_done (by kernel_rfl) ?_ _
          clear hxy
          go_wp2_with fail
          rw [HR.out]
          exact ⟨false, rfl, ⟨(fun h => (by cases h)), fun h => absurd h HNF.out⟩, hbd⟩
        · have hs := str_ne HXO.out HYO.out h
          refine' wpAnyH_take (i := 8) (oi := _) (v := _) rfl (by kernel_rfl) (by kernel_rfl) (by kernel_rfl) (fun _ _ _ h => h) (Or.inl ⟨by rfl, ?hz10⟩) (by assumption) ?rezt10
          case hz10 => (intro w' hSw; (try dsimp only at hSw); go_simp; try with_reducible rfl)
          try simp only [Act.put, List.setIfInBounds_toArray, List.set_cons_zero, List.set_cons_succ, List.getElem_toArray, List.getElem_cons_zero, List.getElem_cons_succ]
          refine wpAnyH_done (by kernel_rfl) ?_ _
          clear hxy
          go_wp2_with fail
          rw [HR.out]
          exact ⟨false, rfl, ⟨(fun h => (by cases h)), fun h => absurd h HNF.out⟩, hbd⟩
    · obtain rfl : j = n := by omega
      have HFIN := Lib.hid (show F = G by
        have := HEQ.out
        rw [← HN.out, List.take_length, HN.out, HNM.out, ← HM.out, List.take_length] at this
        exact this)
      go_wp2_with fail
      rw [HR.out]
      exact ⟨true, rfl, ⟨fun _ => HFIN.out, fun _ => rfl⟩, hb⟩

theorem same1V_any (w : World) (A B : Option Addr) (n c m d : Nat) (F G : List Vl) (hn : F.length = n) (hm : G.length = m) (hnm : n ≤ maxLen) (hmm : m ≤ maxLen) (hA : RdVl w A F) (hB : RdVl w B G) (hF : ∀ v ∈ F, VOk v) (hG : ∀ v ∈ G, VOk v) :
    Calls Try.prog 42 #[.slice A n c, .slice B m d] w fun e w' => ∃ b : Bool, e = .returned (.bool b) ∧ (b = true ↔ F = G) ∧ Below w.heap.size w w' := by
  have HE := Lib.hid (vequal_any w A B n c m d F G hn hm hnm hmm hA hB hF hG _ rfl)
  clear hn hm hA hB hF hG
  go_enter Try.func42, Try.ntmps42
  go_wp2_with fail
  refine HE.out.mono ?_
  rintro e w1 ⟨b, rfl, hb, hb1⟩
  have HB := Lib.hid hb
  clear hb HE
  go_wp2_with fail
  go_ret
  exact ⟨b, rfl, HB.out, hb1⟩
theorem RdVR.at {w : World} {A : Option Addr} {L : List Rw} (h : RdVR w A L) (hl : 0 < L.length) : ∃ b off, A = some ⟨b, off, none⟩ ∧ ∀ i, i < L.length → w.cell? ⟨b, off + i, none⟩ = some (.slice (vw_ L i).A (vw_ L i).n (vw_ L i).c) := by
  rcases h.1 with q | q
  · rw [q] at hl; simp at hl
  · exact q
theorem vw_mem {L : List Rw} {i : Nat} (h : i < L.length) : vw_ L i ∈ L := by rw [vw_lt h]; exact List.getElem_mem h
theorem valsOf_len (L : List Rw) : (valsOf L).length = L.length := by simp [valsOf]
theorem valsOf_take {L : List Rw} {j : Nat} (h : j < L.length) : (valsOf L).take (j + 1) = (valsOf L).take j ++ [(vw_ L j).F] := by
  rw [List.take_succ_eq_append_getElem (by rw [valsOf_len]; exact h), vw_lt h]
  simp [valsOf]

set_option maxHeartbeats 16000000 in
theorem eqfunc_any (w : World) (A B : Option Addr) (n c m d : Nat) (L M : List Rw) (hn : L.length = n) (hm : M.length = m) (hnm : n ≤ maxLen) (hmm : m ≤ maxLen) (hA : RdVR w A L) (hB : RdVR w B M) (R : Ending → World → Prop) (hR : R = fun e w' => ∃ b : Bool, e = .returned (.bool b) ∧ (b = true ↔ valsOf L = valsOf M) ∧ Below w.heap.size w w') :
    Calls Try.prog 41 #[.slice A n c, .slice B m d, .func (.func 42) #[] #[]] w R := by
  have HR := Lib.hid hR; clear hR
  have HN := Lib.hid hn
  have HM := Lib.hid hm
  have HA := Lib.hid hA
  have HB := Lib.hid hB
  have hn63 : n ≤ 9223372036854775807 := by unfold maxLen at hnm; omega
  have hf : ∀ (v u : Value) (w : World), (callFunc 42 #[v, u]).run Try.prog w = .ok (.enter 42 #[v, u]) w := fun _ _ _ => by rfl
  clear hn hm hA hB
  by_cases hnm2 : n = m
  case neg =>
    have q : ((n : Int) != (m : Int)) = true := by simp; omega
    have HNE := Lib.hid (show ¬ valsOf L = valsOf M from fun h => hnm2 (by rw [← HN.out, ← HM.out, ← valsOf_len L, ← valsOf_len M, h]))
    go_enter Try.func41, Try.ntmps41
    go_wp2_with fail
    rw [HR.out]
    exact ⟨false, rfl, ⟨(fun h => (by cases h)), fun h => absurd h HNE.out⟩, Below.refl _ _⟩
  have q : ((n : Int) != (m : Int)) = false := by simp [hnm2]
  have HNM := Lib.hid hnm2
  clear hnm2
  go_enter Try.func41, Try.ntmps41
  go_wp2_with fail
  go_loopw [17] (fun iv wr => ∃ j : Nat, j ≤ n ∧ iv = .int .i64 (j : Int) ∧ (valsOf L).take j = (valsOf M).take j ∧ Below w.heap.size w wr) (fun i _ => n - (intOf i).toNat)
  case atStart => exact ⟨0, Nat.zero_le _, rfl, rfl, Below.refl _ _⟩
  case round =>
    obtain ⟨j, hj, rfl, heq, hb⟩ := hrel
    have HEQ := Lib.hid heq
    clear heq
    by_cases hlt : j < n
    · have hlt' : (j : Int) < (n : Int) := by omega
      have hlm' : (j : Int) < (m : Int) := by have := HNM.out; omega
      have i0 : (0 : Int) ≤ (j : Int) := by omega
      have hjF : j < L.length := by rw [HN.out]; exact hlt
      have hjG : j < M.length := by rw [HM.out, ← HNM.out]; exact hlt
      obtain ⟨b, off, hAe, hcell⟩ := (HA.out.keep hb).at (by omega)
      obtain ⟨b2, off2, hBe, hcell2⟩ := (HB.out.keep hb).at (by omega)
      have c1 := hcell j hjF
      have c2 := hcell2 j hjG
      have HX := Lib.hid ((HA.out.keep hb).2 _ (vw_mem hjF))
      have HY := Lib.hid ((HB.out.keep hb).2 _ (vw_mem hjG))
      have HFJ := Lib.hid (valsOf_take hjF)
      have HGJ := Lib.hid (valsOf_take hjG)
      have HNE := Lib.hid (show ¬ (vw_ L j).F = (vw_ M j).F → ¬ valsOf L = valsOf M from fun h e => h (by rw [← vr_of, ← vr_of, e]))
      obtain ⟨x, hx⟩ : ∃ x, vw_ L j = x := ⟨_, rfl⟩
      obtain ⟨y, hy⟩ : ∃ y, vw_ M j = y := ⟨_, rfl⟩
      rw [hx] at c1 HX HFJ HNE
      rw [hy] at c2 HY HGJ HNE
      subst hAe
      subst hBe
      clear hcell hcell2 hx hy hjF hjG
      go_wp2_with fail
      refine (same1V_any _ x.A y.A x.n x.c y.n y.c x.F y.F HX.out.1 HY.out.1 (Nat.le_trans HX.out.2.1 HX.out.2.2.1) (Nat.le_trans HY.out.2.1 HY.out.2.2.1) HX.out.2.2.2.1 HY.out.2.2.2.1 HX.out.2.2.2.2 HY.out.2.2.2.2).mono ?_
      rintro e w1 ⟨bb, rfl, hbb, hb1⟩
      have HBB := Lib.hid hbb
      have hb01 : Below w.heap.size w w1 := hb.trans (hb1.mono hb.size)
      clear hbb hb1 c1 c2
      cases bb
      · have HNF := Lib.hid (HNE.out (fun h => by have := HBB.out.2 h; cases this))
        go_wp2_with fail
        rw [HR.out]
        exact ⟨false, rfl, ⟨(fun h => (by cases h)), fun h => absurd h HNF.out⟩, hb01⟩
      · have HNX := Lib.hid (show (valsOf L).take (j + 1) = (valsOf M).take (j + 1) by rw [HFJ.out, HGJ.out, HEQ.out, HBB.out.1 rfl])
        go_wp2_with fail
        go_roundw
        case rel => exact ⟨j + 1, by omega, by go_num, HNX.out, hb01⟩
        case measure => simp [intOf]; omega
    · obtain rfl : j = n := by omega
      have HFIN := Lib.hid (show valsOf L = valsOf M by
        have := HEQ.out
        rw [← HN.out, ← valsOf_len L, List.take_length, valsOf_len, HN.out, HNM.out, ← HM.out, ← valsOf_len M, List.take_length] at this
        exact this)
      go_wp2_with fail
      rw [HR.out]
      exact ⟨true, rfl, ⟨fun _ => HFIN.out, fun _ => rfl⟩, hb⟩
theorem osame_any (w : World) (A B : Option Addr) (n c m d : Nat) (L M : List Rw) (hn : L.length = n) (hm : M.length = m) (hnm : n ≤ maxLen) (hmm : m ≤ maxLen) (hA : RdVR w A L) (hB : RdVR w B M) :
    Calls Try.prog 22 #[.slice A n c, .slice B m d] w fun e w' => ∃ b : Bool, e = .returned (.bool b) ∧ (b = true ↔ valsOf L = valsOf M) ∧ Below w.heap.size w w' := by
  have HE := Lib.hid (eqfunc_any w A B n c m d L M hn hm hnm hmm hA hB _ rfl)
  clear hn hm hA hB
  go_enter Try.func22, Try.ntmps22
  go_wp2_with fail
  refine HE.out.mono ?_
  rintro e w1 ⟨b, rfl, hb, hb1⟩
  have HBB := Lib.hid hb
  clear hb HE
  go_wp2_with fail
  go_ret
  exact ⟨b, rfl, HBB.out, hb1⟩
end Go.Proofs.Ytbbdglikdogmhaa
