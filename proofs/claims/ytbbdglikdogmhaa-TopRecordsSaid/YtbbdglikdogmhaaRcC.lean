/- Walks: value.Check, tomeref05.wrong, record.code, tomeref05.Code, the bodies. -/
import Derived.Test.YtbbdglikdogmhaaRcB
namespace Go.Proofs.Ytbbdglikdogmhaa
open Go.RowKit
set_option maxRecDepth 100000
set_option linter.unusedVariables false
set_option linter.unusedSimpArgs false
set_option linter.unnecessarySimpa false

theorem wpList_wantedV {P : Program} {ops : Array Oper} {Q : Exit → Act → World → Prop} {a : Act} {w : World} {rest : List Oper} {o : Oper} (hw : Region.wanted o (yielded ops a.tmps) = true)
    (h : ∀ K : Act → World → Prop, (∀ a w, wpList P ops Q rest a w → K a w) → o.wp P a w K Q) : wpList P ops Q (o :: rest) a w :=
  wpList_step fun K hK => by rw [if_pos hw]; exact h K hK
theorem wp_load_vlg {ops : Array Oper} {rest : List Oper} {op : Oper} {a : Act} {w : World} {Q : Exit → Act → World → Prop} (hw : Region.wanted op (yielded ops a.tmps) = true) (x : Operand) (ho : op.op = .load 49 x) (g : Nat) (v : Vl)
    (hx : a.eval x = .pointer (some ⟨g, 0, none⟩)) (hc : VlAt w g v) (h : wpList Try.prog ops Q rest (a.put op.dst v.val) w) : wpList Try.prog ops Q (op :: rest) a w :=
  wpList_wantedV hw fun _ hK => wp_load_mid 49 x ho g 0 hx (vlC v) _ hc.range Try.underlying49 rfl size_vl (hK _ _ h)

set_option maxHeartbeats 4000000 in
theorem vcheck_any (w : World) (v : Vl) (hv : v.ok) (hl : v.s.length ≤ maxLen) : Calls Try.prog 21 #[v.val] w fun e w' => e = .returned (.int .i64 (wrongV v)) ∧ Below w.heap.size w w' := by
  have HS := Lib.hid hv.2.2
  obtain ⟨k, n, s⟩ := v
  obtain ⟨W1, hW1⟩ : ∃ W, W = w.alloc (.cells #[.int .i64 k, .int .i64 n, .string (strOfNums s)] 49) := ⟨_, rfl⟩
  have hbW : Below w.heap.size w W1 := by rw [hW1]; exact (Below.refl _ _).alloc (Nat.le_refl _) _
  have HV := Lib.hid (show VlAt W1 w.heap.size ⟨k, n, s⟩ by rw [hW1]; exact ⟨by simp [go_sem], by simp [go_sem], by simp [go_sem]⟩)
  have HW := Lib.hid hW1
  have hz0 := hbW.size
  unfold Vl.val
  simp only at hl ⊢
  unfold maxLen at hl
  go_enter Try.func21, Try.ntmps21
  go_upto_region 1 with fail
  rw [← hW1]
  clear hW1 HW
  go_step
  refine wp_load_vl rfl _ rfl w.heap.size ⟨k, n, s⟩ rfl HV.out ?_
  go_wp2_with fail
  refine (bare_any _ ⟨k, n, s⟩).mono ?_
  rintro e w2 ⟨rfl, hb2⟩
  have hB2 : Below w.heap.size w w2 := hbW.trans (hb2.mono hz0)
  have HV2 := Lib.hid (HV.out.keep hb2)
  have hz2 := hB2.size
  clear hb2 HV
  obtain ⟨W3, hW3⟩ : ∃ W, W = w2.alloc (.cells #[.int .i64 0, .int .i64 0, .string ⟨#[]⟩] 49) := ⟨_, rfl⟩
  have hb3 : Below w2.heap.size w2 W3 := by rw [hW3]; exact (Below.refl _ _).alloc (Nat.le_refl _) _
  have HT := Lib.hid (show W3.there w2.heap.size 0 3 by
    rw [hW3]
    intro j hj
    rcases (by omega : j = 0 ∨ j = 1 ∨ j = 2) with rfl | rfl | rfl <;> simp [go_sem])
  have HW := Lib.hid hW3
  obtain ⟨u, hu⟩ : ∃ u, bareV ⟨k, n, s⟩ = u := ⟨_, rfl⟩
  have HU := Lib.hid hu
  rw [hu]
  clear hu
  obtain ⟨bk, hbk⟩ : ∃ b, decide (0 ≤ k ∧ k ≤ 3) = b := ⟨_, rfl⟩
  have HK := Lib.hid hbk
  simp only [hbk]
  clear hbk
  iterate 13 go_step
  rw [← hW3]
  clear hW3 HW
  refine wp_store_vl rfl _ _ rfl w2.heap.size u rfl rfl HT.out ?_
  obtain ⟨W4, hW4⟩ : ∃ W, W = W3.setCells w2.heap.size 0 (vlC u) := ⟨_, rfl⟩
  have hb4 : Below w2.heap.size w2 W4 := by rw [hW4]; exact below_setCellsV hb3 (Nat.le_refl _) _ _
  have HU4 := Lib.hid (show VlAt W4 w2.heap.size u by rw [hW4]; exact VlAt.stored HT.out u)
  have HV4 := Lib.hid (HV2.out.keep hb4)
  have hB4 := hB2.trans (hb4.mono hB2.size)
  rw [← hW4]
  clear hW4 hb3 hb4 HT HV2
  by_cases hb : bk = true
  rotate_left
  · have hb' : bk = false := by simpa using hb
    subst hb'
    have hk : ¬ (0 ≤ k ∧ k ≤ 3) := of_decide_eq_false HK.out
    have hw : wrongV ⟨k, n, s⟩ = 1 := if_pos (by simp only; omega)
    have HWR := Lib.hid hw
    clear hb hk hw
    go_wp2
    go_ret
    exact ⟨ret_int HWR.out.symm, hB4⟩
  subst hb
  have hk : 0 ≤ k ∧ k ≤ 3 := of_decide_eq_true HK.out
  obtain ⟨u0, u1, us⟩ := u
  obtain ⟨e0, e1, e2, e3⟩ : u0 = k ∧ (u1 = if k = 1 then n else 0) ∧ (us = if k = 2 ∨ k = 3 then s else []) ∧ IsB us := by
    have := HU.out
    unfold bareV at this
    simp only at this
    rcases (by omega : k = 0 ∨ k = 1 ∨ k = 2 ∨ k = 3) with rfl | rfl | rfl | rfl <;> simp [zeroV] at this <;> obtain ⟨rfl, rfl, rfl⟩ := this <;> simp [IsB] <;> exact HS.out
  subst e0
  have HE1 := Lib.hid e1; clear e1
  have HE2 := Lib.hid e2; clear e2
  have hw : wrongV ⟨u0, n, s⟩ = if n = u1 ∧ s = us then (if 4096 < s.length then 3 else 0) else 1 := by
    have h1 := HE1.out
    have h2 := HE2.out
    unfold wrongV
    simp only
    rcases (by omega : u0 = 0 ∨ u0 = 1 ∨ u0 = 2 ∨ u0 = 3) with rfl | rfl | rfl | rfl <;> simp at h1 h2 <;> subst h1 h2 <;> simp <;> split <;> first | (simp_all; done) | (rename_i h9; rw [if_neg (fun hh => h9.elim (fun f => f hh.1) (fun f => f hh.2))])
  have HWR := Lib.hid hw; clear hw
  have hstr : (strOfNums s).toList = (strOfNums us).toList ↔ s = us := str_eq HS.out e3
  by_cases hn : n = u1
  rotate_left
  · have hw : wrongV ⟨u0, n, s⟩ = 1 := by rw [HWR.out, if_neg (by simp [hn])]
    have HW2 := Lib.hid hw; clear hw HWR hstr
    go_upto_region 2 with fail
    iterate 10 go_step
    refine wp_load_vlg (by kernel_rfl) _ rfl w.heap.size ⟨u0, n, s⟩ rfl HV4.out ?_
    refine wp_load_vlg (by kernel_rfl) _ rfl w2.heap.size ⟨u0, u1, us⟩ rfl HU4.out ?_
    unfold Vl.val
    go_wp2
    go_ret
    exact ⟨ret_int HW2.out.symm, hB4⟩
  subst hn
  by_cases hs : s = us
  rotate_left
  · have hw : wrongV ⟨u0, n, s⟩ = 1 := by rw [HWR.out, if_neg (by simp [hs])]
    have hs2 : ¬ (strOfNums s).toList = (strOfNums us).toList := fun h => hs (hstr.1 h)
    have HW2 := Lib.hid hw; clear hw HWR hstr hs
    go_upto_region 2 with fail
    iterate 10 go_step
    refine wp_load_vlg (by kernel_rfl) _ rfl w.heap.size ⟨u0, n, s⟩ rfl HV4.out ?_
    refine wp_load_vlg (by kernel_rfl) _ rfl w2.heap.size ⟨u0, n, us⟩ rfl HU4.out ?_
    unfold Vl.val
    go_wp2
    go_ret
    exact ⟨ret_int HW2.out.symm, hB4⟩
  subst hs
  have hw : wrongV ⟨u0, n, s⟩ = if 4096 < s.length then 3 else 0 := by rw [HWR.out, if_pos (by simp)]
  have HW2 := Lib.hid hw; clear hw HWR hstr
  obtain ⟨v0, v1, v2⟩ := HV4.out
  have hsz := strOfNums_size s
  by_cases hg : 4096 < s.length
  all_goals
    go_upto_region 2 with fail
    iterate 10 go_step
    refine wp_load_vlg (by kernel_rfl) _ rfl w.heap.size ⟨u0, n, s⟩ rfl HV4.out ?_
    refine wp_load_vlg (by kernel_rfl) _ rfl w2.heap.size ⟨u0, n, s⟩ rfl HU4.out ?_
    unfold Vl.val
    go_wp2
    go_ret
    exact ⟨ret_int (by rw [HW2.out]; simp [hg]), hB4⟩

set_option maxHeartbeats 4000000 in
theorem rwrong_any (w : World) (v : Vl) (hv : v.ok) (hl : v.s.length ≤ maxLen) : Calls Try.prog 29 #[v.val] w fun e w' => e = .returned (.int .i64 (wrongV v)) ∧ Below w.heap.size w w' := by
  have HS := Lib.hid hv.2.2
  obtain ⟨k, n, s⟩ := v
  obtain ⟨W1, hW1⟩ : ∃ W, W = w.alloc (.cells #[.int .i64 k, .int .i64 n, .string (strOfNums s)] 49) := ⟨_, rfl⟩
  have hbW : Below w.heap.size w W1 := by rw [hW1]; exact (Below.refl _ _).alloc (Nat.le_refl _) _
  have HV := Lib.hid (show VlAt W1 w.heap.size ⟨k, n, s⟩ by rw [hW1]; exact ⟨by simp [go_sem], by simp [go_sem], by simp [go_sem]⟩)
  have HW := Lib.hid hW1
  unfold Vl.val
  simp only at hl ⊢
  unfold maxLen at hl
  have hsz := strOfNums_size s
  have hnil : (strOfNums s).toList = [] ↔ s = [] := by
    have := str_eq HS.out (m := []) (by simp [IsB])
    simpa [strOfNums] using this
  go_enter Try.func29, Try.ntmps29
  go_upto_region 1 with fail
  rw [← hW1]
  clear hW1 HW
  obtain ⟨v0, v1, v2⟩ := HV.out
  by_cases h0 : k < 0
  · have HW2 := Lib.hid (show wrongV ⟨k, n, s⟩ = 1 from if_pos (.inl h0))
    go_wp2
    go_ret
    exact ⟨ret_int HW2.out.symm, hbW⟩
  by_cases h3 : 3 < k
  · have HW2 := Lib.hid (show wrongV ⟨k, n, s⟩ = 1 from if_pos (.inr (.inl h3)))
    go_wp2
    go_ret
    exact ⟨ret_int HW2.out.symm, hbW⟩
  by_cases h1 : k = 1
  · subst h1
    clear h0 h3
    have hw : wrongV ⟨1, n, s⟩ = if s ≠ [] then 1 else if 4096 < s.length then 3 else 0 := by simp [wrongV]
    have HW2 := Lib.hid hw; clear hw
    by_cases hs : s = []
    · subst hs
      have hq : (strOfNums []).toList = [] := hnil.2 rfl
      go_wp2
      go_ret
      exact ⟨ret_int (by rw [HW2.out]; simp), hbW⟩
    · have hq : (strOfNums s).toList.isEmpty = false := by
        cases hq : (strOfNums s).toList.isEmpty with
        | false => rfl
        | true => exact absurd (hnil.1 (List.isEmpty_iff.1 hq)) hs
      have HNS := Lib.hid hs
      clear hs hnil
      go_wp2
      go_ret
      exact ⟨ret_int (by rw [HW2.out, if_pos HNS.out]), hbW⟩
  have b1 : (k != 1) = true := by simp [h1]
  by_cases hn : n = 0
  rotate_left
  · have bn : (n != 0) = true := by simp [hn]
    have HW2 := Lib.hid (show wrongV ⟨k, n, s⟩ = 1 from if_pos (.inr (.inr (.inl ⟨h1, hn⟩))))
    go_wp2
    go_ret
    exact ⟨ret_int HW2.out.symm, hbW⟩
  subst hn
  have hw : wrongV ⟨k, 0, s⟩ = if k < 2 ∧ s ≠ [] then 1 else if 4096 < s.length then 3 else 0 := by simp [wrongV, h0, h3]
  have HW2 := Lib.hid hw; clear hw
  by_cases h2 : k < 2
  · by_cases hs : s = []
    · subst hs
      have hq : (strOfNums []).toList = [] := hnil.2 rfl
      go_wp2
      go_ret
      exact ⟨ret_int (by rw [HW2.out]; simp), hbW⟩
    · have hq : (strOfNums s).toList.isEmpty = false := by
        cases hq : (strOfNums s).toList.isEmpty with
        | false => rfl
        | true => exact absurd (hnil.1 (List.isEmpty_iff.1 hq)) hs
      have HNS := Lib.hid hs
      clear hs hnil
      go_wp2
      go_ret
      exact ⟨ret_int (by rw [HW2.out, if_pos ⟨h2, HNS.out⟩]), hbW⟩
  · have HH := Lib.hid h2
    by_cases hg : 4096 < s.length
    all_goals
      go_wp2
      go_ret
      exact ⟨ret_int (by rw [HW2.out, if_neg (fun h => by have := HH.out; omega)]; simp [hg]), hbW⟩

set_option maxHeartbeats 4000000 in
theorem code_any (w : World) (v : Vl) (hv : v.ok) (hl : v.s.length ≤ 4611686018427387000) : Calls Try.prog 26 #[v.val] w fun e w' => e = .returned (.int .i64 (codeV v)) ∧ Below w.heap.size w w' := by
  have HI := Lib.hid hv.2.1
  obtain ⟨k, n, s⟩ := v
  obtain ⟨W1, hW1⟩ : ∃ W, W = w.alloc (.cells #[.int .i64 k, .int .i64 n, .string (strOfNums s)] 49) := ⟨_, rfl⟩
  have hbW : Below w.heap.size w W1 := by rw [hW1]; exact (Below.refl _ _).alloc (Nat.le_refl _) _
  have HV := Lib.hid (show VlAt W1 w.heap.size ⟨k, n, s⟩ by rw [hW1]; exact ⟨by simp [go_sem], by simp [go_sem], by simp [go_sem]⟩)
  have HW := Lib.hid hW1
  unfold Vl.val
  simp only at hl ⊢
  have hsz := strOfNums_size s
  go_enter Try.func26, Try.ntmps26
  go_upto_region 1 with fail
  rw [← hW1]
  clear hW1 HW
  obtain ⟨v0, v1, v2⟩ := HV.out
  by_cases h1 : k = 1
  · subst h1
    go_wp2_with fail
    refine (width_any _ n HI.out).mono ?_
    rintro e w2 ⟨rfl, rfl⟩
    go_wp2
    go_ret
    exact ⟨ret_int (by simp [codeV]), hbW⟩
  by_cases h2 : k = 2
  · subst h2
    go_wp2
    go_ret
    exact ⟨ret_int (by simp [codeV]), hbW⟩
  by_cases h3 : k = 3
  · subst h3
    go_wp2
    go_ret
    exact ⟨ret_int (by simp [codeV]), hbW⟩
  have b1 : (k == 1) = false := by simp [h1]
  have b2 : (k == 2) = false := by simp [h2]
  have b3 : (k == 3) = false := by simp [h3]
  go_wp2
  go_ret
  exact ⟨ret_int (by simp [codeV, h1, h2, h3]), hbW⟩

set_option maxHeartbeats 4000000 in
theorem rcode_any (w : World) (v : Vl) (hv : v.ok) (hl : v.s.length ≤ 4611686018427387000) : Calls Try.prog 30 #[v.val] w fun e w' => e = .returned (.int .i64 (codeV v)) ∧ Below w.heap.size w w' := by
  have HI := Lib.hid hv.2.1
  obtain ⟨k, n, s⟩ := v
  obtain ⟨W1, hW1⟩ : ∃ W, W = w.alloc (.cells #[.int .i64 k, .int .i64 n, .string (strOfNums s)] 49) := ⟨_, rfl⟩
  have hbW : Below w.heap.size w W1 := by rw [hW1]; exact (Below.refl _ _).alloc (Nat.le_refl _) _
  have HV := Lib.hid (show VlAt W1 w.heap.size ⟨k, n, s⟩ by rw [hW1]; exact ⟨by simp [go_sem], by simp [go_sem], by simp [go_sem]⟩)
  have HW := Lib.hid hW1
  unfold Vl.val
  simp only at hl ⊢
  have hsz := strOfNums_size s
  go_enter Try.func30, Try.ntmps30
  go_upto_region 1 with fail
  rw [← hW1]
  clear hW1 HW
  obtain ⟨v0, v1, v2⟩ := HV.out
  by_cases h1 : k = 1
  · subst h1
    go_wp2_with fail
    refine (takes_any _ n HI.out).mono ?_
    rintro e w2 ⟨rfl, rfl⟩
    go_wp2
    go_ret
    exact ⟨ret_int (by simp [codeV]), hbW⟩
  by_cases h2 : k = 2
  · subst h2
    go_wp2
    go_ret
    exact ⟨ret_int (by simp [codeV]), hbW⟩
  by_cases h3 : k = 3
  · subst h3
    go_wp2
    go_ret
    exact ⟨ret_int (by simp [codeV]), hbW⟩
  have b1 : (k == 1) = false := by simp [h1]
  have b2 : (k == 2) = false := by simp [h2]
  have b3 : (k == 3) = false := by simp [h3]
  go_wp2
  go_ret
  exact ⟨ret_int (by simp [codeV, h1, h2, h3]), hbW⟩

theorem fixed_put (w : World) (n : Int) (k : Nat) (hn0 : 0 ≤ n) (hn1 : n ≤ 18446744073709551615) (h1 : 1 ≤ k) (h8 : k ≤ 8) :
    Calls Try.prog 50 #[.int .u64 n, .int .i64 (k : Int)] w (BytesBack w (fxL n k)) := by
  have := fixed_any w n (k : Int) hn0 hn1
  rwa [fixed_nat n k h1 h8] at this
theorem rfixed_put (w : World) (n : Int) (k : Nat) (hn0 : 0 ≤ n) (hn1 : n ≤ 18446744073709551615) (h1 : 1 ≤ k) (h8 : k ≤ 8) :
    Calls Try.prog 52 #[.int .u64 n, .int .i64 (k : Int)] w (BytesBack w (fxL n k)) := by
  have := rfixed_any w n (k : Int) hn0 hn1
  rwa [fixed_nat n k h1 h8] at this
end Go.Proofs.Ytbbdglikdogmhaa
