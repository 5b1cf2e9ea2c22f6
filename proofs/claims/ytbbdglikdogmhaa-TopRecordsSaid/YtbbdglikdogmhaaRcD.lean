/- Walks: record.body, tomeref05.body. Printed by genRd.py. -/
import Derived.Test.YtbbdglikdogmhaaRcC
import Derived.Laws.IdiomStrings
namespace Go.Proofs.Ytbbdglikdogmhaa
open Go.RowKit
set_option maxRecDepth 100000
set_option linter.unusedVariables false
set_option linter.unusedSimpArgs false

theorem u64_wrap_bd (a : Int) : 0 ≤ IntKind.u64.wrap a ∧ IntKind.u64.wrap a ≤ 18446744073709551615 := by
  rw [IntKind.wrap_u64]; omega
theorem run_sb (w : World) (l : List Int) (hB : IsB l) (hl : l.length ≤ maxLen) :
    ∃ c w', (convert 9 25 (.string (strOfNums l))).run Try.prog w = .ok (.slice (some ⟨w.heap.size, 0, none⟩) l.length c) w' ∧ l.length ≤ c ∧ c ≤ maxLen ∧ Rd w' (some ⟨w.heap.size, 0, none⟩) l ∧ Below w.heap.size w w' := by
  have hz := strOfNums_size l
  refine ⟨_, _, (run_bytes_of_string w 9 25 5 (strOfNums l) Try.underlying9 Try.underlying25 Try.underlying5).trans (by rw [hz]), ?_, ?_, ?_, ?_⟩
  · exact grownCap_ge w l.length 0 5
  · exact grownCap_le_maxLen w _ 0 5 hl
  · refine .inr ⟨_, 0, rfl, fun i hi => ?_⟩
    rw [Nat.zero_add]
    rw [show w.heap.size = w.drew.heap.size from rfl, Joins.cell_alloc_mark_at _ _ _ _ _ _ rfl]
    have hd : (strOfNums l).data.size = l.length := hz
    unfold bytesRow
    rw [Array.getElem?_append_left (by simp [hd]; exact hi)]
    simp only [Array.getElem?_map]
    have hb := hB (l[i]) (List.getElem_mem hi)
    have e : (strOfNums l).data[i]? = some (UInt8.ofNat (l[i]).toNat) := by
      simp [strOfNums, hi]
    rw [e, bt_lt hi]
    simp
    omega
  · exact ((Below.refl _ _).drew).alloc (Nat.le_refl _) _

set_option maxHeartbeats 4000000 in
theorem body_any (w : World) (v : Vl) (hv : v.ok) (hl : v.s.length ≤ maxLen) : Calls Try.prog 27 #[v.val] w fun e w' => ∃ A n c, e = .returned (.slice A n c) ∧ (bodyV v).length = n ∧ n ≤ c ∧ c ≤ maxLen ∧ Rd w' A (bodyV v) ∧ Below w.heap.size w w' := by
  have HI := Lib.hid hv.2.1
  have HS := Lib.hid hv.2.2
  obtain ⟨k, n, s⟩ := v
  obtain ⟨W1, hW1⟩ : ∃ W, W = w.alloc (.cells #[.int .i64 k, .int .i64 n, .string (strOfNums s)] 49) := ⟨_, rfl⟩
  have hbW : Below w.heap.size w W1 := by rw [hW1]; exact (Below.refl _ _).alloc (Nat.le_refl _) _
  have HV := Lib.hid (show VlAt W1 w.heap.size ⟨k, n, s⟩ by rw [hW1]; exact ⟨by simp [go_sem], by simp [go_sem], by simp [go_sem]⟩)
  have HW := Lib.hid hW1
  unfold Vl.val
  simp only at hl ⊢
  have hsz := strOfNums_size s
  have hz0 := hbW.size
  have hv0 := hv
  clear hv0
  go_enter Try.func27, Try.ntmps27
  go_upto_region 1 with fail
  rw [← hW1]
  clear hW1 HW
  obtain ⟨v0, v1, v2⟩ := HV.out
  by_cases h1 : k = 1
  · subst h1
    go_upto_region 2 with fail
    have K1 : ∀ W : World, Below W1.heap.size W1 W → W.cell? ⟨w.heap.size, 1, none⟩ = some (.int .i64 n) := fun W hW => (HV.out.keep hW).2.1
    clear v0 v1 v2
    obtain ⟨u0, u1⟩ := u64_wrap_bd n
    obtain ⟨wd1, wd8⟩ := widI_bd n
    refine wp_region_held_drew (S := (fun W => Below W1.heap.size W1 W)) (by kernel_rfl) ?_ (fun hHeld => ?_)
    · exact (Below.refl _ W1).drew
    refine' wpAnyH_take (i := 0) (oi := _) (v := _) rfl (by kernel_rfl) (by kernel_rfl) (by kernel_rfl) (fun _ _ _ h => h) (Or.inl ⟨by rfl, ?hy0⟩) (by assumption) ?rest0
    case hy0 => (intro w' hSw; (try dsimp only at hSw); go_simp; try with_reducible rfl)
    try simp only [Act.put, List.setIfInBounds_toArray, List.set_cons_zero, List.set_cons_succ, List.getElem_toArray, List.getElem_cons_zero, List.getElem_cons_succ]
    refine' wpAnyH_take (i := 1) (oi := _) (v := _) rfl (by kernel_rfl) (by kernel_rfl) (by kernel_rfl) (fun _ _ _ h => h) (Or.inl ⟨by rfl, ?hy1⟩) (by assumption) ?rest1
    case hy1 => (intro w' hSw; (try dsimp only at hSw); go_simp; try with_reducible rfl)
    try simp only [Act.put, List.setIfInBounds_toArray, List.set_cons_zero, List.set_cons_succ, List.getElem_toArray, List.getElem_cons_zero, List.getElem_cons_succ]
    refine' wpAnyH_take (i := 2) (oi := _) (v := _) rfl (by kernel_rfl) (by kernel_rfl) (by kernel_rfl) (fun _ _ _ h => h) (Or.inl ⟨by rfl, ?hy2⟩) (by assumption) ?rest2
    case hy2 => (intro w' hSw; (try dsimp only at hSw); go_simp; try with_reducible rfl)
    try simp only [Act.put, List.setIfInBounds_toArray, List.set_cons_zero, List.set_cons_succ, List.getElem_toArray, List.getElem_cons_zero, List.getElem_cons_succ]
    refine' wpAnyH_take (i := 3) (oi := _) (v := _) rfl (by kernel_rfl) (by kernel_rfl) (by kernel_rfl) (fun _ _ _ h => h) (Or.inl ⟨by rfl, ?hy3⟩) (by assumption) ?rest3
    case hy3 => (intro w' hSw; (try dsimp only at hSw); go_simp; try with_reducible rfl)
    try simp only [Act.put, List.setIfInBounds_toArray, List.set_cons_zero, List.set_cons_succ, List.getElem_toArray, List.getElem_cons_zero, List.getElem_cons_succ]
    refine' wpAnyH_take (i := 4) (oi := _) (v := _) rfl (by kernel_rfl) (by kernel_rfl) (by kernel_rfl) (fun _ _ _ h => h) (Or.inl ⟨by rfl, ?hy4⟩) (by assumption) ?rest4
    case hy4 => (intro w' hSw; (try dsimp only at hSw); go_simp; try with_reducible rfl)
    try simp only [Act.put, List.setIfInBounds_toArray, List.set_cons_zero, List.set_cons_succ, List.getElem_toArray, List.getElem_cons_zero, List.getElem_cons_succ]
    refine wpAnyH_ready (rs := [5]) (by kernel_rfl) (by simp) ?_
    refine AllReadyH.cons (o := _) rfl (fun K hK => ?_) AllReadyH.nil
    go_simp
    go_at_call 49
    refine (width_any _ n HI.out).mono ?_
    rintro e w2 ⟨rfl, rfl⟩
    refine hK.out _ _ ?_ (fun hHeld => ?_)
    · exact (Below.refl _ W1).drew
    clear hK K
    try simp only [Act.put, List.setIfInBounds_toArray, List.set_cons_zero, List.set_cons_succ, List.getElem_toArray, List.getElem_cons_zero, List.getElem_cons_succ]
    refine wpAnyH_ready (rs := [6]) (by kernel_rfl) (by simp) ?_
    refine AllReadyH.cons (o := _) rfl (fun K hK => ?_) AllReadyH.nil
    go_simp
    go_at_call 50
    refine (fixed_put _ (IntKind.u64.wrap n) (widI n) u0 u1 wd1 wd8).mono ?_
    rintro e w2 ⟨A2, n2, c2, rfl, hown2, hb2⟩
    have hb2' : Below W1.heap.size W1 w2 := ((Below.refl _ W1).drew).trans hb2
    refine hK.out _ _ ?_ (fun hHeld => ?_)
    · exact hb2'
    clear hK K
    try simp only [Act.put, List.setIfInBounds_toArray, List.set_cons_zero, List.set_cons_succ, List.getElem_toArray, List.getElem_cons_zero, List.getElem_cons_succ]
    refine' wpAnyH_take (i := 7) (oi := _) (v := _) rfl (by kernel_rfl) (by kernel_rfl) (by kernel_rfl) (fun _ _ _ h => h) (Or.inl ⟨by rfl, ?hy7⟩) (by assumption) ?rest7
    case hy7 => (intro w' hSw; (try dsimp only at hSw); go_simp; try with_reducible rfl)
    try simp only [Act.put, List.setIfInBounds_toArray, List.set_cons_zero, List.set_cons_succ, List.getElem_toArray, List.getElem_cons_zero, List.getElem_cons_succ]
    refine wpAnyH_done (by kernel_rfl) ?_ _
    go_wp2
    go_ret
    have hbd : bodyV ⟨1, n, s⟩ = fxL (IntKind.u64.wrap n) (widI n) := if_pos rfl
    rw [hbd]
    exact ⟨_, _, _, rfl, hown2.len, hown2.cap.1, hown2.cap.2, hown2.rd, hbW.trans (hb2'.mono hz0)⟩
  have b1 : (k == 1) = false := by simp [h1]
  have hbd : bodyV ⟨k, n, s⟩ = s := if_neg h1
  have HBD := Lib.hid hbd
  clear hbd
  obtain ⟨cS, wS, hrun, q1, q2, q3, q4⟩ := run_sb W1 s HS.out hl
  have HQ := Lib.hid q3
  clear q3
  go_wp2
  go_ret
  rw [HBD.out]
  exact ⟨_, _, _, rfl, rfl, q1, q2, HQ.out, hbW.trans (q4.mono hz0)⟩

set_option maxHeartbeats 4000000 in
theorem rbody_any (w : World) (v : Vl) (hv : v.ok) (hl : v.s.length ≤ maxLen) : Calls Try.prog 31 #[v.val] w fun e w' => ∃ A n c, e = .returned (.slice A n c) ∧ (bodyV v).length = n ∧ n ≤ c ∧ c ≤ maxLen ∧ Rd w' A (bodyV v) ∧ Below w.heap.size w w' := by
  have HI := Lib.hid hv.2.1
  have HS := Lib.hid hv.2.2
  obtain ⟨k, n, s⟩ := v
  obtain ⟨W1, hW1⟩ : ∃ W, W = w.alloc (.cells #[.int .i64 k, .int .i64 n, .string (strOfNums s)] 49) := ⟨_, rfl⟩
  have hbW : Below w.heap.size w W1 := by rw [hW1]; exact (Below.refl _ _).alloc (Nat.le_refl _) _
  have HV := Lib.hid (show VlAt W1 w.heap.size ⟨k, n, s⟩ by rw [hW1]; exact ⟨by simp [go_sem], by simp [go_sem], by simp [go_sem]⟩)
  have HW := Lib.hid hW1
  unfold Vl.val
  simp only at hl ⊢
  have hsz := strOfNums_size s
  have hz0 := hbW.size
  have hv0 := hv
  clear hv0
  go_enter Try.func31, Try.ntmps31
  go_upto_region 1 with fail
  rw [← hW1]
  clear hW1 HW
  obtain ⟨v0, v1, v2⟩ := HV.out
  by_cases h1 : k = 1
  · subst h1
    go_upto_region 2 with fail
    have K1 : ∀ W : World, Below W1.heap.size W1 W → W.cell? ⟨w.heap.size, 1, none⟩ = some (.int .i64 n) := fun W hW => (HV.out.keep hW).2.1
    clear v0 v1 v2
    obtain ⟨u0, u1⟩ := u64_wrap_bd n
    obtain ⟨wd1, wd8⟩ := widI_bd n
    refine wp_region_held_drew (S := (fun W => Below W1.heap.size W1 W)) (by kernel_rfl) ?_ (fun hHeld => ?_)
    · exact (Below.refl _ W1).drew
    refine' wpAnyH_take (i := 0) (oi := _) (v := _) rfl (by kernel_rfl) (by kernel_rfl) (by kernel_rfl) (fun _ _ _ h => h) (Or.inl ⟨by rfl, ?hy0⟩) (by assumption) ?rest0
    case hy0 => (intro w' hSw; (try dsimp only at hSw); go_simp; try with_reducible rfl)
    try simp only [Act.put, List.setIfInBounds_toArray, List.set_cons_zero, List.set_cons_succ, List.getElem_toArray, List.getElem_cons_zero, List.getElem_cons_succ]
    refine' wpAnyH_take (i := 1) (oi := _) (v := _) rfl (by kernel_rfl) (by kernel_rfl) (by kernel_rfl) (fun _ _ _ h => h) (Or.inl ⟨by rfl, ?hy1⟩) (by assumption) ?rest1
    case hy1 => (intro w' hSw; (try dsimp only at hSw); go_simp; try with_reducible rfl)
    try simp only [Act.put, List.setIfInBounds_toArray, List.set_cons_zero, List.set_cons_succ, List.getElem_toArray, List.getElem_cons_zero, List.getElem_cons_succ]
    refine' wpAnyH_take (i := 2) (oi := _) (v := _) rfl (by kernel_rfl) (by kernel_rfl) (by kernel_rfl) (fun _ _ _ h => h) (Or.inl ⟨by rfl, ?hy2⟩) (by assumption) ?rest2
    case hy2 => (intro w' hSw; (try dsimp only at hSw); go_simp; try with_reducible rfl)
    try simp only [Act.put, List.setIfInBounds_toArray, List.set_cons_zero, List.set_cons_succ, List.getElem_toArray, List.getElem_cons_zero, List.getElem_cons_succ]
    refine' wpAnyH_take (i := 3) (oi := _) (v := _) rfl (by kernel_rfl) (by kernel_rfl) (by kernel_rfl) (fun _ _ _ h => h) (Or.inl ⟨by rfl, ?hy3⟩) (by assumption) ?rest3
    case hy3 => (intro w' hSw; (try dsimp only at hSw); go_simp; try with_reducible rfl)
    try simp only [Act.put, List.setIfInBounds_toArray, List.set_cons_zero, List.set_cons_succ, List.getElem_toArray, List.getElem_cons_zero, List.getElem_cons_succ]
    refine' wpAnyH_take (i := 4) (oi := _) (v := _) rfl (by kernel_rfl) (by kernel_rfl) (by kernel_rfl) (fun _ _ _ h => h) (Or.inl ⟨by rfl, ?hy4⟩) (by assumption) ?rest4
    case hy4 => (intro w' hSw; (try dsimp only at hSw); go_simp; try with_reducible rfl)
    try simp only [Act.put, List.setIfInBounds_toArray, List.set_cons_zero, List.set_cons_succ, List.getElem_toArray, List.getElem_cons_zero, List.getElem_cons_succ]
    refine wpAnyH_ready (rs := [5]) (by kernel_rfl) (by simp) ?_
    refine AllReadyH.cons (o := _) rfl (fun K hK => ?_) AllReadyH.nil
    go_simp
    go_at_call 51
    refine (takes_any _ n HI.out).mono ?_
    rintro e w2 ⟨rfl, rfl⟩
    refine hK.out _ _ ?_ (fun hHeld => ?_)
    · exact (Below.refl _ W1).drew
    clear hK K
    try simp only [Act.put, List.setIfInBounds_toArray, List.set_cons_zero, List.set_cons_succ, List.getElem_toArray, List.getElem_cons_zero, List.getElem_cons_succ]
    refine wpAnyH_ready (rs := [6]) (by kernel_rfl) (by simp) ?_
    refine AllReadyH.cons (o := _) rfl (fun K hK => ?_) AllReadyH.nil
    go_simp
    go_at_call 52
    refine (rfixed_put _ (IntKind.u64.wrap n) (widI n) u0 u1 wd1 wd8).mono ?_
    rintro e w2 ⟨A2, n2, c2, rfl, hown2, hb2⟩
    have hb2' : Below W1.heap.size W1 w2 := ((Below.refl _ W1).drew).trans hb2
    refine hK.out _ _ ?_ (fun hHeld => ?_)
    · exact hb2'
    clear hK K
    try simp only [Act.put, List.setIfInBounds_toArray, List.set_cons_zero, List.set_cons_succ, List.getElem_toArray, List.getElem_cons_zero, List.getElem_cons_succ]
    refine' wpAnyH_take (i := 7) (oi := _) (v := _) rfl (by kernel_rfl) (by kernel_rfl) (by kernel_rfl) (fun _ _ _ h => h) (Or.inl ⟨by rfl, ?hy7⟩) (by assumption) ?rest7
    case hy7 => (intro w' hSw; (try dsimp only at hSw); go_simp; try with_reducible rfl)
    try simp only [Act.put, List.setIfInBounds_toArray, List.set_cons_zero, List.set_cons_succ, List.getElem_toArray, List.getElem_cons_zero, List.getElem_cons_succ]
    refine wpAnyH_done (by kernel_rfl) ?_ _
    go_wp2
    go_ret
    have hbd : bodyV ⟨1, n, s⟩ = fxL (IntKind.u64.wrap n) (widI n) := if_pos rfl
    rw [hbd]
    exact ⟨_, _, _, rfl, hown2.len, hown2.cap.1, hown2.cap.2, hown2.rd, hbW.trans (hb2'.mono hz0)⟩
  have b1 : (k == 1) = false := by simp [h1]
  have hbd : bodyV ⟨k, n, s⟩ = s := if_neg h1
  have HBD := Lib.hid hbd
  clear hbd
  obtain ⟨cS, wS, hrun, q1, q2, q3, q4⟩ := run_sb W1 s HS.out hl
  have HQ := Lib.hid q3
  clear q3
  go_wp2
  go_ret
  rw [HBD.out]
  exact ⟨_, _, _, rfl, rfl, q1, q2, HQ.out, hbW.trans (q4.mono hz0)⟩

end Go.Proofs.Ytbbdglikdogmhaa
