/- Walks: cmp.Compare, strings.Compare, text.Fold, value.Compare. Printed by genTpA.py. -/
import Derived.Test.YtbbdglikdogmhaaTpP
import Derived.Test.YtbbdglikdogmhaaRcD
import Derived.Laws.Externs
import Derived.Lib.Bytealg
namespace Go.Proofs.Ytbbdglikdogmhaa
open Go.RowKit
set_option maxRecDepth 100000
set_option linter.unusedVariables false
set_option linter.unusedSimpArgs false
set_option linter.unnecessarySimpa false

theorem heap_cell {w : World} {g i : Nat} {cs : Array Value} {t : TypeId} {fr : Nat × Nat} (h : w.heap[g]? = some (.cells cs t fr)) : w.cell? ⟨g, i, none⟩ = cs[i]? := by simp [World.cell?, h]
def cmpI (a b : Int) : Int := if a < b then -1 else if b < a then 1 else 0
def cmpB (a b : List Int) : Int := Lib.compareBytes (strOfNums a).data.toList (strOfNums b).data.toList
theorem cmpInt_any (w : World) (a b : Int) : Calls Try.prog 61 #[.int .i64 a, .int .i64 b] w fun e w' => e = .returned (.int .i64 (cmpI a b)) ∧ w = w' := by
  unfold cmpI
  have q : ∀ x : Int, (x != x) = false := fun x => by simp
  have HN : ∀ w : World, ∀ x : Int, Calls Try.prog 68 #[.int .i64 x] w fun e w' => e = .returned (.bool false) ∧ w = w' := by
    intro w x
    go_enter Try.func68, Try.ntmps68
    go_wp2_with fail
    go_ret
    exact ⟨rfl, rfl⟩
  have HNN := Lib.hid HN
  clear HN
  by_cases h1 : a < b
  · rw [if_pos h1]
    go_enter Try.func61, Try.ntmps61
    go_wp2_with fail
    refine (HNN.out _ a).mono ?_
    rintro e w1 ⟨rfl, rfl⟩
    go_wp2_with fail
    refine (HNN.out _ b).mono ?_
    rintro e w1 ⟨rfl, rfl⟩
    go_wp2_with fail
    go_ret
    exact ⟨rfl, rfl⟩
  · rw [if_neg h1]
    by_cases h2 : b < a
    · rw [if_pos h2]
      go_enter Try.func61, Try.ntmps61
      go_wp2_with fail
      refine (HNN.out _ a).mono ?_
      rintro e w1 ⟨rfl, rfl⟩
      go_wp2_with fail
      refine (HNN.out _ b).mono ?_
      rintro e w1 ⟨rfl, rfl⟩
      go_wp2_with fail
      go_ret
      exact ⟨rfl, rfl⟩
    · rw [if_neg h2]
      go_enter Try.func61, Try.ntmps61
      go_wp2_with fail
      refine (HNN.out _ a).mono ?_
      rintro e w1 ⟨rfl, rfl⟩
      go_wp2_with fail
      refine (HNN.out _ b).mono ?_
      rintro e w1 ⟨rfl, rfl⟩
      go_wp2_with fail
      go_ret
      exact ⟨rfl, rfl⟩

theorem cmpInt64_any (w : World) (a b : Int) : Calls Try.prog 62 #[.int .i64 a, .int .i64 b] w fun e w' => e = .returned (.int .i64 (cmpI a b)) ∧ w = w' := by
  unfold cmpI
  have q : ∀ x : Int, (x != x) = false := fun x => by simp
  have HN : ∀ w : World, ∀ x : Int, Calls Try.prog 69 #[.int .i64 x] w fun e w' => e = .returned (.bool false) ∧ w = w' := by
    intro w x
    go_enter Try.func69, Try.ntmps69
    go_wp2_with fail
    go_ret
    exact ⟨rfl, rfl⟩
  have HNN := Lib.hid HN
  clear HN
  by_cases h1 : a < b
  · rw [if_pos h1]
    go_enter Try.func62, Try.ntmps62
    go_wp2_with fail
    refine (HNN.out _ a).mono ?_
    rintro e w1 ⟨rfl, rfl⟩
    go_wp2_with fail
    refine (HNN.out _ b).mono ?_
    rintro e w1 ⟨rfl, rfl⟩
    go_wp2_with fail
    go_ret
    exact ⟨rfl, rfl⟩
  · rw [if_neg h1]
    by_cases h2 : b < a
    · rw [if_pos h2]
      go_enter Try.func62, Try.ntmps62
      go_wp2_with fail
      refine (HNN.out _ a).mono ?_
      rintro e w1 ⟨rfl, rfl⟩
      go_wp2_with fail
      refine (HNN.out _ b).mono ?_
      rintro e w1 ⟨rfl, rfl⟩
      go_wp2_with fail
      go_ret
      exact ⟨rfl, rfl⟩
    · rw [if_neg h2]
      go_enter Try.func62, Try.ntmps62
      go_wp2_with fail
      refine (HNN.out _ a).mono ?_
      rintro e w1 ⟨rfl, rfl⟩
      go_wp2_with fail
      refine (HNN.out _ b).mono ?_
      rintro e w1 ⟨rfl, rfl⟩
      go_wp2_with fail
      go_ret
      exact ⟨rfl, rfl⟩

theorem scmp_any (w : World) (a b : List Int) : Calls Try.prog 63 #[.string (strOfNums a), .string (strOfNums b)] w fun e w' => e = .returned (.int .i64 (cmpB a b)) ∧ w = w' := by
  have HB : ∀ w : World, Calls Try.prog 70 #[.string (strOfNums a), .string (strOfNums b)] w fun e w' => e = .returned (.int .i64 (cmpB a b)) ∧ w = w' := by
    intro w
    unfold cmpB
    go_enter Try.func70, Try.ntmps70
    go_wp2
    rw [run_callFunc_extern Try.func73 (by kernel_rfl) (by kernel_rfl) (by kernel_rfl) (e := Extern.BytealgCompare.compare) (by kernel_rfl), Lib.run_compareString]
    simp only [Result.andThen]
    rw [Oper.upon_value]
    go_wp2
    go_ret
    exact ⟨rfl, rfl⟩
  have HBB := Lib.hid HB
  clear HB
  go_enter Try.func63, Try.ntmps63
  go_wp2_with fail
  refine (HBB.out _).mono ?_
  rintro e w1 ⟨rfl, rfl⟩
  go_wp2_with fail
  go_ret
  exact ⟨rfl, rfl⟩

/-! ### a text in small letters -/
def fold1 (c : Int) : Int := if 65 ≤ c ∧ c ≤ 90 then c + 32 else c
def foldP (l : List Int) (j : Nat) : List Int := (l.take j).map fold1 ++ l.drop j
def foldS (l : List Int) : List Int := l.map fold1
theorem foldP_len (l : List Int) (j : Nat) : (foldP l j).length = l.length := by
  unfold foldP
  rw [List.length_append, List.length_map, List.length_take, List.length_drop]
  omega
theorem foldP_at {l : List Int} {j : Nat} (h : j < l.length) : bt (foldP l j) j = bt l j := by
  unfold foldP bt
  simp only [List.getD_eq_getElem?_getD]
  rw [List.getElem?_append_right (by rw [List.length_map, List.length_take]; omega), List.length_map, List.length_take, Nat.min_eq_left (by omega), Nat.sub_self, List.getElem?_drop, Nat.add_zero]
theorem foldP_next {l : List Int} {j : Nat} (h : j < l.length) : foldP l (j + 1) = (foldP l j).set j (fold1 (bt l j)) := by
  apply List.ext_getElem?
  intro i
  unfold foldP
  rw [List.getElem?_set]
  by_cases hij : j = i
  · subst hij
    rw [if_pos rfl, if_pos (by rw [List.length_append, List.length_map, List.length_take, List.length_drop]; omega)]
    rw [List.getElem?_append_left (by rw [List.length_map, List.length_take]; omega), List.getElem?_map, List.getElem?_take, if_pos (by omega)]
    simp [bt, h]
  · rw [if_neg hij]
    by_cases hlt : i < j
    · rw [List.getElem?_append_left (by rw [List.length_map, List.length_take]; omega), List.getElem?_append_left (by rw [List.length_map, List.length_take]; omega), List.getElem?_map, List.getElem?_map, List.getElem?_take, List.getElem?_take, if_pos (by omega), if_pos hlt]
    · rw [List.getElem?_append_right (by rw [List.length_map, List.length_take]; omega), List.getElem?_append_right (by rw [List.length_map, List.length_take]; omega)]
      rw [List.length_map, List.length_take, List.length_map, List.length_take, List.getElem?_drop, List.getElem?_drop]
      congr 1
      omega
theorem foldP_all (l : List Int) : foldP l l.length = foldS l := by simp [foldP, foldS]
/-- Bytes of the call's own that may be written. -/
def SbAt (w : World) (g : Nat) (l : List Int) : Prop := ∀ j, j < l.length → w.cell? ⟨g, j, none⟩ = some (.int .u8 (bt l j)) ∧ w.frozen? ⟨g, j, none⟩ = false
theorem SbAt.rd {w : World} {g : Nat} {l : List Int} (h : SbAt w g l) : Rd w (some ⟨g, 0, none⟩) l := .inr ⟨g, 0, rfl, fun i hi => by rw [Nat.zero_add]; exact (h i hi).1⟩
theorem SbAt.stored {w : World} {g : Nat} {l : List Int} (h : SbAt w g l) {j : Nat} (hj : j < l.length) (x : Int) : SbAt (w.setCell ⟨g, j, none⟩ (.int .u8 x)) g (l.set j x) := by
  intro i hi
  rw [List.length_set] at hi
  obtain ⟨h1, h2⟩ := h i hi
  refine ⟨?_, ?_⟩
  · by_cases hij : j = i
    · subst hij
      rw [World.cell?_setCell_same _ _ _ h1]
      simp [bt, hi]
    · rw [World.cell?_setCell_other _ _ _ _ (by simp; try omega), h1]
      simp [bt, hij]
  · rw [← h2]
    simp [go_sem]
theorem frozen_newT (w : World) (cs : Array Value) (t : TypeId) (lo hi j : Nat) (h : j < lo) : (w.alloc (.cells cs t (lo, hi))).frozen? ⟨w.heap.size, j, none⟩ = false := by
  have e := heap_alloc_new w (.cells cs t (lo, hi))
  unfold World.frozen?
  simp only [e]
  simp
  omega
theorem run_sb2 (w : World) (l : List Int) (hB : IsB l) (hl : l.length ≤ maxLen) :
    ∃ c w', (convert 9 25 (.string (strOfNums l))).run Try.prog w = .ok (.slice (some ⟨w.heap.size, 0, none⟩) l.length c) w' ∧ SbAt w' w.heap.size l ∧ Below w.heap.size w w' := by
  have hz := strOfNums_size l
  refine ⟨_, _, (run_bytes_of_string w 9 25 5 (strOfNums l) Try.underlying9 Try.underlying25 Try.underlying5).trans (by rw [hz]), ?_, ?_⟩
  · have hd : (strOfNums l).data.size = l.length := hz
    intro i hi
    refine ⟨?_, ?_⟩
    · rw [show w.heap.size = w.drew.heap.size from rfl, Joins.cell_alloc_mark_at _ _ _ _ _ _ rfl]
      unfold bytesRow
      rw [Array.getElem?_append_left (by simp [hd]; exact hi)]
      simp only [Array.getElem?_map]
      have hb := hB (l[i]) (List.getElem_mem hi)
      have e : (strOfNums l).data[i]? = some (UInt8.ofNat (l[i]).toNat) := by
        simp [strOfNums, hi]
      rw [e, bt_lt hi]
      simp
      omega
    · have hsz : l.length ≤ (bytesRow (strOfNums l) (grownCap w l.length 0 5)).size := by
        unfold bytesRow
        rw [Array.size_append, Array.size_map, hd]
        omega
      exact frozen_newT w.drew _ _ _ _ i (by omega)
  · exact ((Below.refl _ _).drew).alloc (Nat.le_refl _) _

set_option maxHeartbeats 8000000 in
theorem fold_any (w : World) (l : List Int) (hB : IsB l) (hl : l.length ≤ maxLen) : Calls Try.prog 64 #[.string (strOfNums l)] w fun e w' => e = .returned (.string (strOfNums (foldS l))) ∧ Below w.heap.size w w' := by
  have HB := Lib.hid hB
  have hl63 : l.length ≤ 9223372036854775807 := by unfold maxLen at hl; omega
  obtain ⟨c, w1, hrun, hsb, hb1⟩ := run_sb2 w l hB hl
  have HSB := Lib.hid hsb
  clear hB hsb
  go_enter Try.func64, Try.ntmps64
  go_wp2_with fail
  clear hrun
  go_loopw [10] (fun iv wr => ∃ j : Nat, j ≤ l.length ∧ iv = .int .i64 (j : Int) ∧ SbAt wr w.heap.size (foldP l j) ∧ Below w.heap.size w wr) (fun i _ => l.length - (intOf i).toNat)
  case atStart => exact ⟨0, Nat.zero_le _, rfl, by simpa [foldP] using HSB.out, hb1⟩
  case round =>
    obtain ⟨j, hj, rfl, hat, hb⟩ := hrel
    have HAT := Lib.hid hat
    clear hat
    by_cases hlt : j < l.length
    · have hlt' : (j : Int) < (l.length : Int) := by omega
      have i0 : (0 : Int) ≤ (j : Int) := by omega
      have hc := (HAT.out j (by rw [foldP_len]; exact hlt)).1
      have hf := (HAT.out j (by rw [foldP_len]; exact hlt)).2
      rw [foldP_at hlt] at hc
      have hx := IsB.bt HB.out j
      have HNX := Lib.hid (foldP_next hlt)
      have HLE := Lib.hid (show j < (foldP l j).length by rw [foldP_len]; exact hlt)
      obtain ⟨x, hxe⟩ : ∃ x, bt l j = x := ⟨_, rfl⟩
      rw [hxe] at hc hx HNX
      have HXE := Lib.hid hxe
      clear hxe
      by_cases h1 : 65 ≤ x
      · by_cases h2 : x ≤ 90
        · have e1 : IntKind.u8.wrap (x + 97) = x + 97 := by rw [IntKind.wrap_u8]; omega
          have e2 : IntKind.u8.wrap (x + 97 - 65) = x + 32 := by rw [IntKind.wrap_u8]; omega
          have HF1 := Lib.hid (show fold1 x = x + 32 by unfold fold1; rw [if_pos ⟨h1, h2⟩])
          go_wp2_with fail
          go_roundw
          case rel => exact ⟨j + 1, by omega, by go_num, by rw [HNX.out, HF1.out]; exact HAT.out.stored HLE.out _, hb.setCell (Nat.le_refl _) _⟩
          case measure => simp [intOf]; omega
        · have HF1 := Lib.hid (show fold1 x = x by unfold fold1; rw [if_neg (fun h => h2 h.2)])
          have HID := Lib.hid (show foldP l (j + 1) = foldP l j by
            rw [HNX.out, HF1.out, ← HXE.out, ← foldP_at hlt]
            unfold bt
            rw [List.getD_eq_getElem?_getD, List.getElem?_eq_getElem HLE.out]
            exact List.set_getElem_self HLE.out)
          go_wp2_with fail
          go_roundw
          case rel => exact ⟨j + 1, by omega, by go_num, by rw [HID.out]; exact HAT.out, hb⟩
          case measure => simp [intOf]; omega
      · have HF1 := Lib.hid (show fold1 x = x by unfold fold1; rw [if_neg (fun h => h1 h.1)])
        have HID := Lib.hid (show foldP l (j + 1) = foldP l j by
          rw [HNX.out, HF1.out, ← HXE.out, ← foldP_at hlt]
          unfold bt
          rw [List.getD_eq_getElem?_getD, List.getElem?_eq_getElem HLE.out]
          exact List.set_getElem_self HLE.out)
        go_wp2_with fail
        go_roundw
        case rel => exact ⟨j + 1, by omega, by go_num, by rw [HID.out]; exact HAT.out, hb⟩
        case measure => simp [intOf]; omega
    · obtain rfl : j = l.length := by omega
      have hstr := run_str wr (some ⟨w.heap.size, 0, none⟩) l.length c (foldP l l.length) (foldP_len _ _) HAT.out.rd
      rw [foldP_all] at hstr
      go_wp2_with fail
      go_ret
      exact ⟨rfl, hb⟩

/-! ### value.Compare -/
def cmpV (a b : Vl) (coll : Int) : Int := if a.k ≠ b.k then cmpI a.k b.k else if a.k = 1 then cmpI a.n b.n else if a.k = 2 then (if coll = 1 then cmpB (foldS a.s) (foldS b.s) else cmpB a.s b.s) else if a.k = 3 then cmpB a.s b.s else 0

set_option maxHeartbeats 16000000 in
theorem vcmp_any (w : World) (a b : Vl) (coll : Int) (ha : VOk a) (hb : VOk b) : Calls Try.prog 44 #[a.val, b.val, .int .i64 coll] w fun e w' => e = .returned (.int .i64 (cmpV a b coll)) ∧ Below w.heap.size w w' := by
  have HA := Lib.hid ha
  have HB := Lib.hid hb
  obtain ⟨W1, hW1⟩ : ∃ W, W = (w.alloc (.cells #[.int .i64 a.k, .int .i64 a.n, .string (strOfNums a.s)] 49)).alloc (.cells #[.int .i64 b.k, .int .i64 b.n, .string (strOfNums b.s)] 49) := ⟨_, rfl⟩
  have hs1 : (w.alloc (.cells #[.int .i64 a.k, .int .i64 a.n, .string (strOfNums a.s)] 49)).heap.size = w.heap.size + 1 := by simp
  have hbW : Below w.heap.size w W1 := by rw [hW1]; exact ((Below.refl _ _).alloc (Nat.le_refl _) _).alloc (by rw [hs1]; omega) _
  have hA1 : VlAt W1 w.heap.size a := by
    rw [hW1]
    refine VlAt.keep ?_ ((Below.refl _ _).alloc (Nat.le_refl _) _)
    refine VlAt.of (fun j u hu => ?_)
    rw [Nat.zero_add, heap_cell (heap_alloc_new w _)]
    simpa [vlC] using hu
  have hB1 : VlAt W1 (w.heap.size + 1) b := by
    rw [hW1, ← hs1]
    refine VlAt.of (fun j u hu => ?_)
    rw [Nat.zero_add, heap_cell (heap_alloc_new _ _)]
    simpa [vlC] using hu
  obtain ⟨g0, g1, g2⟩ := hA1
  obtain ⟨k0, k1, k2⟩ := hB1
  have HA1 := Lib.hid (show VlAt W1 w.heap.size a from ⟨g0, g1, g2⟩)
  have HB1 := Lib.hid (show VlAt W1 (w.heap.size + 1) b from ⟨k0, k1, k2⟩)
  have HW := Lib.hid hW1
  clear hW1 hs1 ha hb
  unfold Vl.val
  by_cases hk : a.k = b.k
  case neg =>
    have HC := Lib.hid (show cmpV a b coll = cmpI a.k b.k by unfold cmpV; rw [if_pos hk])
    have q : (a.k != b.k) = true := by simp [hk]
    clear hk g1 g2 k1 k2
    go_enter Try.func44, Try.ntmps44
    go_upto_region 1 with fail
    rw [← HW.out]
    clear HW
    go_wp2_with fail
    refine (cmpInt_any _ a.k b.k).mono ?_
    rintro e w2 ⟨rfl, rfl⟩
    go_wp2_with fail
    go_ret
    exact ⟨by rw [HC.out]; rfl, hbW⟩
  have q : (a.k != b.k) = false := by simp [hk]
  have HK := Lib.hid hk
  clear hk
  by_cases h1 : a.k = 1
  · have HC := Lib.hid (show cmpV a b coll = cmpI a.n b.n by unfold cmpV; rw [if_neg (fun h => h HK.out), if_pos h1])
    have q1 : (a.k == 1) = true := by simp [h1]
    clear h1 g2 k2
    go_enter Try.func44, Try.ntmps44
    go_upto_region 1 with fail
    rw [← HW.out]
    clear HW
    go_wp2_with fail
    refine (cmpInt64_any _ a.n b.n).mono ?_
    rintro e w2 ⟨rfl, rfl⟩
    go_wp2_with fail
    go_ret
    exact ⟨by rw [HC.out]; rfl, hbW⟩
  have q1 : (a.k == 1) = false := by simp [h1]
  by_cases h2 : a.k = 2
  · have q2 : (a.k == 2) = true := by simp [h2]
    by_cases hc : coll = 1
    · have HC := Lib.hid (show cmpV a b coll = cmpB (foldS a.s) (foldS b.s) by unfold cmpV; rw [if_neg (fun h => h HK.out), if_neg h1, if_pos h2, if_pos hc])
      have qc : (coll == 1) = true := by simp [hc]
      have F2 : ∀ W : World, Below W1.heap.size W1 W → W.cell? ⟨w.heap.size, 2, none⟩ = some (.string (strOfNums a.s)) := fun W hW => (HA1.out.keep hW).2.2
      have K2 : ∀ W : World, Below W1.heap.size W1 W → W.cell? ⟨w.heap.size + 1, 2, none⟩ = some (.string (strOfNums b.s)) := fun W hW => (HB1.out.keep hW).2.2
      clear h1 h2 hc g1 g2 k1 k2
      go_enter Try.func44, Try.ntmps44
      go_upto_region 1 with fail
      rw [← HW.out]
      clear HW
      go_upto_region 9 with fail
      clear g0 k0
      refine wp_region_held_drew (S := (fun W => Below W1.heap.size W1 W)) (by kernel_rfl) ?_ (fun hHeld => ?_)
      · exact (Below.refl _ W1).drew
      refine' wpAnyH_take (i := 0) (oi := _) (v := _) rfl (by kernel_rfl) (by kernel_rfl) (by kernel_rfl) (fun _ _ _ h => h) (Or.inl ⟨by rfl, ?hz1⟩) (by assumption) ?rezt1
      case hz1 => (intro w' hSw; (try dsimp only at hSw); go_simp; try with_reducible rfl)
      try simp only [Act.put, List.setIfInBounds_toArray, List.set_cons_zero, List.set_cons_succ, List.getElem_toArray, List.getElem_cons_zero, List.getElem_cons_succ]
      refine' wpAnyH_take (i := 1) (oi := _) (v := _) rfl (by kernel_rfl) (by kernel_rfl) (by kernel_rfl) (fun _ _ _ h => h) (Or.inl ⟨by rfl, ?hz2⟩) (by assumption) ?rezt2
      case hz2 => (intro w' hSw; (try dsimp only at hSw); go_simp; try with_reducible rfl)
      try simp only [Act.put, List.setIfInBounds_toArray, List.set_cons_zero, List.set_cons_succ, List.getElem_toArray, List.getElem_cons_zero, List.getElem_cons_succ]
      refine' wpAnyH_take (i := 3) (oi := _) (v := _) rfl (by kernel_rfl) (by kernel_rfl) (by kernel_rfl) (fun _ _ _ h => h) (Or.inl ⟨by rfl, ?hz3⟩) (by assumption) ?rezt3
      case hz3 => (intro w' hSw; (try dsimp only at hSw); go_simp; try with_reducible rfl)
      try simp only [Act.put, List.setIfInBounds_toArray, List.set_cons_zero, List.set_cons_succ, List.getElem_toArray, List.getElem_cons_zero, List.getElem_cons_succ]
      refine' wpAnyH_take (i := 4) (oi := _) (v := _) rfl (by kernel_rfl) (by kernel_rfl) (by kernel_rfl) (fun _ _ _ h => h) (Or.inl ⟨by rfl, ?hz4⟩) (by assumption) ?rezt4
      case hz4 => (intro w' hSw; (try dsimp only at hSw); go_simp; try with_reducible rfl)
      try simp only [Act.put, List.setIfInBounds_toArray, List.set_cons_zero, List.set_cons_succ, List.getElem_toArray, List.getElem_cons_zero, List.getElem_cons_succ]
      refine wpAnyH_ready (rs := [2]) (by kernel_rfl) (by simp) ?_
      refine AllReadyH.cons (o := _) rfl (fun K hK => ?_) AllReadyH.nil
      go_simp
      have hbd2 : Below W1.heap.size W1 W1.drew := (Below.refl _ W1).drew
      go_at_call 64
      refine (fold_any _ a.s HA.out.1.2.2 HA.out.2).mono ?_
      rintro e w2 ⟨rfl, hb2⟩
      have hbx2 : Below W1.heap.size W1 w2 := hbd2.trans (hb2.mono hbd2.size)
      refine hK.out _ _ ?_ (fun hHeld => ?_)
      · exact hbx2
      clear hK K
      try simp only [Act.put, List.setIfInBounds_toArray, List.set_cons_zero, List.set_cons_succ, List.getElem_toArray, List.getElem_cons_zero, List.getElem_cons_succ]
      refine wpAnyH_ready (rs := [5]) (by kernel_rfl) (by simp) ?_
      refine AllReadyH.cons (o := _) rfl (fun K hK => ?_) AllReadyH.nil
      go_simp
      have hbd3 : Below W1.heap.size W1 w2 := hbx2
      go_at_call 64
      refine (fold_any _ b.s HB.out.1.2.2 HB.out.2).mono ?_
      rintro e w3 ⟨rfl, hb3⟩
      have hbx3 : Below W1.heap.size W1 w3 := hbd3.trans (hb3.mono hbd3.size)
      refine hK.out _ _ ?_ (fun hHeld => ?_)
      · exact hbx3
      clear hK K
      try simp only [Act.put, List.setIfInBounds_toArray, List.set_cons_zero, List.set_cons_succ, List.getElem_toArray, List.getElem_cons_zero, List.getElem_cons_succ]
      refine wpAnyH_ready (rs := [6]) (by kernel_rfl) (by simp) ?_
      refine AllReadyH.cons (o := _) rfl (fun K hK => ?_) AllReadyH.nil
      go_simp
      go_at_call 63
      refine (scmp_any _ (foldS a.s) (foldS b.s)).mono ?_
      rintro e w4 ⟨rfl, rfl⟩
      refine hK.out _ _ ?_ (fun hHeld => ?_)
      · exact hbx3
      clear hK K
      try simp only [Act.put, List.setIfInBounds_toArray, List.set_cons_zero, List.set_cons_succ, List.getElem_toArray, List.getElem_cons_zero, List.getElem_cons_succ]
      refine' wpAnyH_take (i := 7) (oi := _) (v := _) rfl (by kernel_rfl) (by kernel_rfl) (by kernel_rfl) (fun _ _ _ h => h) (Or.inl ⟨by rfl, ?hz5⟩) (by assumption) ?rezt5
      case hz5 => (intro w' hSw; (try dsimp only at hSw); go_simp; try with_reducible rfl)
      try simp only [Act.put, List.setIfInBounds_toArray, List.set_cons_zero, List.set_cons_succ, List.getElem_toArray, List.getElem_cons_zero, List.getElem_cons_succ]
      refine wpAnyH_done (by kernel_rfl) ?_ _
      clear F2 K2
      go_wp2_with fail
      go_ret
      exact ⟨by rw [HC.out]; rfl, hbW.trans (hbx3.mono hbW.size)⟩
    · have HC := Lib.hid (show cmpV a b coll = cmpB a.s b.s by unfold cmpV; rw [if_neg (fun h => h HK.out), if_neg h1, if_pos h2, if_neg hc])
      have qc : (coll == 1) = false := by simp [hc]
      clear h1 h2 hc g1 k1
      go_enter Try.func44, Try.ntmps44
      go_upto_region 1 with fail
      rw [← HW.out]
      clear HW
      go_wp2_with fail
      refine (scmp_any _ a.s b.s).mono ?_
      rintro e w2 ⟨rfl, rfl⟩
      go_wp2_with fail
      go_ret
      exact ⟨by rw [HC.out]; rfl, hbW⟩
  have q2 : (a.k == 2) = false := by simp [h2]
  by_cases h3 : a.k = 3
  · have HC := Lib.hid (show cmpV a b coll = cmpB a.s b.s by unfold cmpV; rw [if_neg (fun h => h HK.out), if_neg h1, if_neg h2, if_pos h3])
    have q3 : (a.k == 3) = true := by simp [h3]
    clear h1 h2 h3 g1 k1
    go_enter Try.func44, Try.ntmps44
    go_upto_region 1 with fail
    rw [← HW.out]
    clear HW
    go_wp2_with fail
    refine (scmp_any _ a.s b.s).mono ?_
    rintro e w2 ⟨rfl, rfl⟩
    go_wp2_with fail
    go_ret
    exact ⟨by rw [HC.out]; rfl, hbW⟩
  · have HC := Lib.hid (show cmpV a b coll = 0 by unfold cmpV; rw [if_neg (fun h => h HK.out), if_neg h1, if_neg h2, if_neg h3])
    have q3 : (a.k == 3) = false := by simp [h3]
    clear h1 h2 h3 g1 g2 k1 k2
    go_enter Try.func44, Try.ntmps44
    go_upto_region 1 with fail
    rw [← HW.out]
    clear HW
    go_wp2_with fail
    go_ret
    exact ⟨by rw [HC.out]; rfl, hbW⟩
end Go.Proofs.Ytbbdglikdogmhaa
