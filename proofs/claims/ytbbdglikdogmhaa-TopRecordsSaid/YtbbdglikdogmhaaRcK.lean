/- Walk: record.take. Printed by genRk.py. -/
import Derived.Test.YtbbdglikdogmhaaRcI
import Derived.Test.YtbbdglikdogmhaaNumB
namespace Go.Proofs.Ytbbdglikdogmhaa
open Go.RowKit
set_option maxRecDepth 100000
set_option linter.unusedVariables false
set_option linter.unusedSimpArgs false
set_option linter.unnecessarySimpa false

theorem readb (w : World) (A : Option Addr) (n c : Nat) (l : List Int) (hn : l.length = n) (h1 : 1 ≤ n) (h8 : n ≤ 8) (hnc : n ≤ c) (hcm : c ≤ maxLen) (hA : Rd w A l) (hB : IsB l) :
    Calls Try.prog 67 #[.slice A n c, .int .i64 0, .int .i64 n] w fun e w' => e = .returned (.tuple #[.int .u64 (beI l), .int .i64 0]) ∧ w = w' := by
  have := read_any w A n c l (0 : Nat) n hn hnc hcm hA hB (by omega)
  rw [readL_ok h1 h8 (by omega)] at this
  rw [List.drop_zero, List.take_of_length_le (by omega)] at this
  exact this
theorem fold_from (r : List Int) : ∀ a : Int, r.foldl (fun a y => a * 256 + y) a = a * 256 ^ r.length + r.foldl (fun a y => a * 256 + y) 0 := by
  induction r with
  | nil => intro a; simp
  | cons x r ih =>
    intro a
    rw [List.foldl_cons, List.foldl_cons, ih (a * 256 + x), ih (0 * 256 + x), List.length_cons, Int.pow_succ, Int.add_mul, Int.add_mul, Int.mul_assoc, Int.mul_comm 256]
    omega
theorem sgn_form {b : List Int} (hB : IsB b) (h : 1 ≤ b.length) : ∃ x t : Int, 0 ≤ x ∧ x ≤ 255 ∧ 0 ≤ t ∧ t < 256 ^ (b.length - 1) ∧ beI b = x * 256 ^ (b.length - 1) + t ∧ sgnI b = (if 127 < x then x - 256 else x) * 256 ^ (b.length - 1) + t := by
  cases b with
  | nil => simp at h
  | cons x r =>
    have hx := hB x (List.mem_cons_self ..)
    have ht := beI_bd (l := r) (fun y hy => hB y (List.mem_cons_of_mem _ hy))
    refine ⟨x, beI r, hx.1, hx.2, ht.1, by simpa using ht.2, ?_, ?_⟩
    · show (x :: r).foldl _ 0 = _
      rw [List.foldl_cons, fold_from]
      simp [beI]
    · show r.foldl _ _ = _
      rw [fold_from]
      simp [beI]
theorem sgn_small {b : List Int} (hB : IsB b) (h : 1 ≤ b.length) (h8 : b.length ≤ 8) : i64K (sgnI b) := by
  obtain ⟨x, t, h0, h1, h2, h3, h4, h5⟩ := sgn_form hB h
  unfold i64K
  rw [h5]
  rcases (by omega : b.length = 1 ∨ b.length = 2 ∨ b.length = 3 ∨ b.length = 4 ∨ b.length = 5 ∨ b.length = 6 ∨ b.length = 7 ∨ b.length = 8) with e | e | e | e | e | e | e | e <;> rw [e] at h3 ⊢ <;> simp only [Nat.reduceSub, Int.reducePow] at h3 ⊢ <;> split <;> omega
def takeV (c : Int) (b : List Int) : Vl := if c = 0 then zeroV else if 16 ≤ c then ⟨2 + c % 2, 0, b⟩ else ⟨1, sgnI b, []⟩
theorem take_read (c : Int) (b : List Int) (h : (readV c b).2 = 0) : (readV c b).1 = takeV c b := by
  unfold readV takeV at *
  split
  · rfl
  · rename_i h0
    rw [if_neg h0] at h
    split
    · rfl
    · rename_i h1
      rw [if_neg h1] at h
      split
      · rename_i h2
        rw [if_pos h2] at h
        exact absurd h (by decide)
      · rfl
theorem read_err (c : Int) (b : List Int) : (readV c b).2 = 0 ∨ readV c b = (zeroV, 8) := by
  unfold readV
  split
  · exact .inl rfl
  · split
    · exact .inl rfl
    · split
      · exact .inr rfl
      · exact .inl rfl
def TakeBack (w : World) (c : Int) (b : List Int) (e : Ending) (w' : World) : Prop := e = .returned (.tuple #[(takeV c b).val, .bool (decide ((readV c b).2 = 0))]) ∧ Below w.heap.size w w'

theorem sgn_1 {b : List Int} (hB : IsB b) (hl : b.length = 1) (u : Int) (hu : beI b = u) : 0 ≤ u ∧ u < 256 ∧ wrap64 (u * 72057594037927936) / 72057594037927936 = sgnI b := by
  obtain ⟨x, t, h0, h1, h2, h3, h4, h5⟩ := sgn_form hB (by omega)
  rw [hl] at h3 h4 h5
  simp only [Nat.reduceSub, Int.reducePow] at h3 h4 h5
  rw [h5, ← hu, h4]
  refine ⟨by omega, by omega, ?_⟩
  unfold wrap64
  split <;> omega
set_option maxHeartbeats 4000000 in
theorem take_1 (w : World) (A : Option Addr) (d : Nat) (b : List Int) (hl : b.length = 1) (hnd : 1 ≤ d) (hd : d ≤ maxLen) (hA : Rd w A b) (hB : IsB b) (R : Ending → World → Prop) (hR : R = TakeBack w 1 b) : Calls Try.prog 55 #[.int .i64 1, .slice A 1 d] w R := by
  have HR := Lib.hid hR; clear hR
  have HI := Lib.hid (sgn_small hB (by omega) (by omega))
  obtain ⟨u, hu⟩ : ∃ u, beI b = u := ⟨_, rfl⟩
  obtain ⟨u0, u1, hs⟩ := sgn_1 hB hl u hu
  obtain ⟨s, hs'⟩ : ∃ s, sgnI b = s := ⟨_, rfl⟩
  rw [hs'] at hs
  have HS := Lib.hid hs'
  clear hs'
  have HU := Lib.hid hu; clear hu
  have HL := Lib.hid hl; clear hl
  have HB := Lib.hid hB; clear hB
  obtain ⟨W1, hW1⟩ : ∃ W, W = w.alloc (.cells #[.int .i64 0, .int .i64 0, .string ⟨#[]⟩] 49) := ⟨_, rfl⟩
  have hbW : Below w.heap.size w W1 := by rw [hW1]; exact (Below.refl _ _).alloc (Nat.le_refl _) _
  have HT := Lib.hid (show W1.there w.heap.size 0 3 by
    rw [hW1]
    intro j hj
    rcases (by omega : j = 0 ∨ j = 1 ∨ j = 2) with rfl | rfl | rfl <;> simp [go_sem])
  have HA := Lib.hid (hA.keep hbW); clear hA
  have HW := Lib.hid hW1
  go_enter Try.func55, Try.ntmps55
  go_upto_region 1 with fail
  rw [← hW1]
  clear hW1 HW
  go_wp2_with fail
  refine (readb _ A 1 d b HL.out (by omega) (by omega) hnd hd HA.out HB.out).mono ?_
  rintro e w2 ⟨rfl, rfl⟩
  rw [HU.out]
  go_wp2_with fail
  refine (width_any _ s (by rw [← HS.out]; exact HI.out)).mono ?_
  rintro e w2 ⟨rfl, rfl⟩
  have hv : takeV 1 b = ⟨1, s, []⟩ := by unfold takeV; rw [if_neg (by decide), if_neg (by decide), HS.out]
  have hr : decide ((readV 1 b).2 = 0) = decide ((widI s : Int) = 1) := by
    unfold readV
    rw [if_neg (by decide), if_neg (by decide), HS.out]
    by_cases h : (widI s : Int) = 1
    · simp [h]
    · simp [h]
  have HV := Lib.hid hv
  have HRR := Lib.hid hr
  clear hv hr
  obtain ⟨q, hq⟩ : ∃ q, ((widI s : Nat) : Int) = q := ⟨_, rfl⟩
  rw [hq] at HRR ⊢
  have hqq : (q == 1) = decide (q = 1) := rfl
  obtain ⟨bb, hbb⟩ : ∃ bb, decide (q = 1) = bb := ⟨_, rfl⟩
  rw [hbb] at hqq HRR
  clear hbb hq
  dsimp only
  iterate 10 go_step
  refine wp_store_vl rfl _ _ rfl w.heap.size ⟨1, s, []⟩ rfl rfl HT.out ?_
  repeat go_step
  refine ret_vl2 rfl rfl (VlAt.stored HT.out ⟨1, s, []⟩) rfl ?_
  rw [HR.out]
  exact ⟨by rw [HV.out, HRR.out]; rfl, below_setCellsV hbW (Nat.le_refl _) _ _⟩

theorem sgn_2 {b : List Int} (hB : IsB b) (hl : b.length = 2) (u : Int) (hu : beI b = u) : 0 ≤ u ∧ u < 65536 ∧ wrap64 (u * 281474976710656) / 281474976710656 = sgnI b := by
  obtain ⟨x, t, h0, h1, h2, h3, h4, h5⟩ := sgn_form hB (by omega)
  rw [hl] at h3 h4 h5
  simp only [Nat.reduceSub, Int.reducePow] at h3 h4 h5
  rw [h5, ← hu, h4]
  refine ⟨by omega, by omega, ?_⟩
  unfold wrap64
  split <;> omega
set_option maxHeartbeats 4000000 in
theorem take_2 (w : World) (A : Option Addr) (d : Nat) (b : List Int) (hl : b.length = 2) (hnd : 2 ≤ d) (hd : d ≤ maxLen) (hA : Rd w A b) (hB : IsB b) (R : Ending → World → Prop) (hR : R = TakeBack w 2 b) : Calls Try.prog 55 #[.int .i64 2, .slice A 2 d] w R := by
  have HR := Lib.hid hR; clear hR
  have HI := Lib.hid (sgn_small hB (by omega) (by omega))
  obtain ⟨u, hu⟩ : ∃ u, beI b = u := ⟨_, rfl⟩
  obtain ⟨u0, u1, hs⟩ := sgn_2 hB hl u hu
  obtain ⟨s, hs'⟩ : ∃ s, sgnI b = s := ⟨_, rfl⟩
  rw [hs'] at hs
  have HS := Lib.hid hs'
  clear hs'
  have HU := Lib.hid hu; clear hu
  have HL := Lib.hid hl; clear hl
  have HB := Lib.hid hB; clear hB
  obtain ⟨W1, hW1⟩ : ∃ W, W = w.alloc (.cells #[.int .i64 0, .int .i64 0, .string ⟨#[]⟩] 49) := ⟨_, rfl⟩
  have hbW : Below w.heap.size w W1 := by rw [hW1]; exact (Below.refl _ _).alloc (Nat.le_refl _) _
  have HT := Lib.hid (show W1.there w.heap.size 0 3 by
    rw [hW1]
    intro j hj
    rcases (by omega : j = 0 ∨ j = 1 ∨ j = 2) with rfl | rfl | rfl <;> simp [go_sem])
  have HA := Lib.hid (hA.keep hbW); clear hA
  have HW := Lib.hid hW1
  go_enter Try.func55, Try.ntmps55
  go_upto_region 1 with fail
  rw [← hW1]
  clear hW1 HW
  go_wp2_with fail
  refine (readb _ A 2 d b HL.out (by omega) (by omega) hnd hd HA.out HB.out).mono ?_
  rintro e w2 ⟨rfl, rfl⟩
  rw [HU.out]
  go_wp2_with fail
  refine (width_any _ s (by rw [← HS.out]; exact HI.out)).mono ?_
  rintro e w2 ⟨rfl, rfl⟩
  have hv : takeV 2 b = ⟨1, s, []⟩ := by unfold takeV; rw [if_neg (by decide), if_neg (by decide), HS.out]
  have hr : decide ((readV 2 b).2 = 0) = decide ((widI s : Int) = 2) := by
    unfold readV
    rw [if_neg (by decide), if_neg (by decide), HS.out]
    by_cases h : (widI s : Int) = 2
    · simp [h]
    · simp [h]
  have HV := Lib.hid hv
  have HRR := Lib.hid hr
  clear hv hr
  obtain ⟨q, hq⟩ : ∃ q, ((widI s : Nat) : Int) = q := ⟨_, rfl⟩
  rw [hq] at HRR ⊢
  have hqq : (q == 2) = decide (q = 2) := rfl
  obtain ⟨bb, hbb⟩ : ∃ bb, decide (q = 2) = bb := ⟨_, rfl⟩
  rw [hbb] at hqq HRR
  clear hbb hq
  dsimp only
  iterate 10 go_step
  refine wp_store_vl rfl _ _ rfl w.heap.size ⟨1, s, []⟩ rfl rfl HT.out ?_
  repeat go_step
  refine ret_vl2 rfl rfl (VlAt.stored HT.out ⟨1, s, []⟩) rfl ?_
  rw [HR.out]
  exact ⟨by rw [HV.out, HRR.out]; rfl, below_setCellsV hbW (Nat.le_refl _) _ _⟩

theorem sgn_3 {b : List Int} (hB : IsB b) (hl : b.length = 3) (u : Int) (hu : beI b = u) : 0 ≤ u ∧ u < 16777216 ∧ wrap64 (u * 1099511627776) / 1099511627776 = sgnI b := by
  obtain ⟨x, t, h0, h1, h2, h3, h4, h5⟩ := sgn_form hB (by omega)
  rw [hl] at h3 h4 h5
  simp only [Nat.reduceSub, Int.reducePow] at h3 h4 h5
  rw [h5, ← hu, h4]
  refine ⟨by omega, by omega, ?_⟩
  unfold wrap64
  split <;> omega
set_option maxHeartbeats 4000000 in
theorem take_3 (w : World) (A : Option Addr) (d : Nat) (b : List Int) (hl : b.length = 3) (hnd : 3 ≤ d) (hd : d ≤ maxLen) (hA : Rd w A b) (hB : IsB b) (R : Ending → World → Prop) (hR : R = TakeBack w 3 b) : Calls Try.prog 55 #[.int .i64 3, .slice A 3 d] w R := by
  have HR := Lib.hid hR; clear hR
  have HI := Lib.hid (sgn_small hB (by omega) (by omega))
  obtain ⟨u, hu⟩ : ∃ u, beI b = u := ⟨_, rfl⟩
  obtain ⟨u0, u1, hs⟩ := sgn_3 hB hl u hu
  obtain ⟨s, hs'⟩ : ∃ s, sgnI b = s := ⟨_, rfl⟩
  rw [hs'] at hs
  have HS := Lib.hid hs'
  clear hs'
  have HU := Lib.hid hu; clear hu
  have HL := Lib.hid hl; clear hl
  have HB := Lib.hid hB; clear hB
  obtain ⟨W1, hW1⟩ : ∃ W, W = w.alloc (.cells #[.int .i64 0, .int .i64 0, .string ⟨#[]⟩] 49) := ⟨_, rfl⟩
  have hbW : Below w.heap.size w W1 := by rw [hW1]; exact (Below.refl _ _).alloc (Nat.le_refl _) _
  have HT := Lib.hid (show W1.there w.heap.size 0 3 by
    rw [hW1]
    intro j hj
    rcases (by omega : j = 0 ∨ j = 1 ∨ j = 2) with rfl | rfl | rfl <;> simp [go_sem])
  have HA := Lib.hid (hA.keep hbW); clear hA
  have HW := Lib.hid hW1
  go_enter Try.func55, Try.ntmps55
  go_upto_region 1 with fail
  rw [← hW1]
  clear hW1 HW
  go_wp2_with fail
  refine (readb _ A 3 d b HL.out (by omega) (by omega) hnd hd HA.out HB.out).mono ?_
  rintro e w2 ⟨rfl, rfl⟩
  rw [HU.out]
  go_wp2_with fail
  refine (width_any _ s (by rw [← HS.out]; exact HI.out)).mono ?_
  rintro e w2 ⟨rfl, rfl⟩
  have hv : takeV 3 b = ⟨1, s, []⟩ := by unfold takeV; rw [if_neg (by decide), if_neg (by decide), HS.out]
  have hr : decide ((readV 3 b).2 = 0) = decide ((widI s : Int) = 3) := by
    unfold readV
    rw [if_neg (by decide), if_neg (by decide), HS.out]
    by_cases h : (widI s : Int) = 3
    · simp [h]
    · simp [h]
  have HV := Lib.hid hv
  have HRR := Lib.hid hr
  clear hv hr
  obtain ⟨q, hq⟩ : ∃ q, ((widI s : Nat) : Int) = q := ⟨_, rfl⟩
  rw [hq] at HRR ⊢
  have hqq : (q == 3) = decide (q = 3) := rfl
  obtain ⟨bb, hbb⟩ : ∃ bb, decide (q = 3) = bb := ⟨_, rfl⟩
  rw [hbb] at hqq HRR
  clear hbb hq
  dsimp only
  iterate 10 go_step
  refine wp_store_vl rfl _ _ rfl w.heap.size ⟨1, s, []⟩ rfl rfl HT.out ?_
  repeat go_step
  refine ret_vl2 rfl rfl (VlAt.stored HT.out ⟨1, s, []⟩) rfl ?_
  rw [HR.out]
  exact ⟨by rw [HV.out, HRR.out]; rfl, below_setCellsV hbW (Nat.le_refl _) _ _⟩

theorem sgn_4 {b : List Int} (hB : IsB b) (hl : b.length = 4) (u : Int) (hu : beI b = u) : 0 ≤ u ∧ u < 4294967296 ∧ wrap64 (u * 4294967296) / 4294967296 = sgnI b := by
  obtain ⟨x, t, h0, h1, h2, h3, h4, h5⟩ := sgn_form hB (by omega)
  rw [hl] at h3 h4 h5
  simp only [Nat.reduceSub, Int.reducePow] at h3 h4 h5
  rw [h5, ← hu, h4]
  refine ⟨by omega, by omega, ?_⟩
  unfold wrap64
  split <;> omega
set_option maxHeartbeats 4000000 in
theorem take_4 (w : World) (A : Option Addr) (d : Nat) (b : List Int) (hl : b.length = 4) (hnd : 4 ≤ d) (hd : d ≤ maxLen) (hA : Rd w A b) (hB : IsB b) (R : Ending → World → Prop) (hR : R = TakeBack w 4 b) : Calls Try.prog 55 #[.int .i64 4, .slice A 4 d] w R := by
  have HR := Lib.hid hR; clear hR
  have HI := Lib.hid (sgn_small hB (by omega) (by omega))
  obtain ⟨u, hu⟩ : ∃ u, beI b = u := ⟨_, rfl⟩
  obtain ⟨u0, u1, hs⟩ := sgn_4 hB hl u hu
  obtain ⟨s, hs'⟩ : ∃ s, sgnI b = s := ⟨_, rfl⟩
  rw [hs'] at hs
  have HS := Lib.hid hs'
  clear hs'
  have HU := Lib.hid hu; clear hu
  have HL := Lib.hid hl; clear hl
  have HB := Lib.hid hB; clear hB
  obtain ⟨W1, hW1⟩ : ∃ W, W = w.alloc (.cells #[.int .i64 0, .int .i64 0, .string ⟨#[]⟩] 49) := ⟨_, rfl⟩
  have hbW : Below w.heap.size w W1 := by rw [hW1]; exact (Below.refl _ _).alloc (Nat.le_refl _) _
  have HT := Lib.hid (show W1.there w.heap.size 0 3 by
    rw [hW1]
    intro j hj
    rcases (by omega : j = 0 ∨ j = 1 ∨ j = 2) with rfl | rfl | rfl <;> simp [go_sem])
  have HA := Lib.hid (hA.keep hbW); clear hA
  have HW := Lib.hid hW1
  go_enter Try.func55, Try.ntmps55
  go_upto_region 1 with fail
  rw [← hW1]
  clear hW1 HW
  go_wp2_with fail
  refine (readb _ A 4 d b HL.out (by omega) (by omega) hnd hd HA.out HB.out).mono ?_
  rintro e w2 ⟨rfl, rfl⟩
  rw [HU.out]
  go_wp2_with fail
  refine (width_any _ s (by rw [← HS.out]; exact HI.out)).mono ?_
  rintro e w2 ⟨rfl, rfl⟩
  have hv : takeV 4 b = ⟨1, s, []⟩ := by unfold takeV; rw [if_neg (by decide), if_neg (by decide), HS.out]
  have hr : decide ((readV 4 b).2 = 0) = decide ((widI s : Int) = 4) := by
    unfold readV
    rw [if_neg (by decide), if_neg (by decide), HS.out]
    by_cases h : (widI s : Int) = 4
    · simp [h]
    · simp [h]
  have HV := Lib.hid hv
  have HRR := Lib.hid hr
  clear hv hr
  obtain ⟨q, hq⟩ : ∃ q, ((widI s : Nat) : Int) = q := ⟨_, rfl⟩
  rw [hq] at HRR ⊢
  have hqq : (q == 4) = decide (q = 4) := rfl
  obtain ⟨bb, hbb⟩ : ∃ bb, decide (q = 4) = bb := ⟨_, rfl⟩
  rw [hbb] at hqq HRR
  clear hbb hq
  dsimp only
  iterate 10 go_step
  refine wp_store_vl rfl _ _ rfl w.heap.size ⟨1, s, []⟩ rfl rfl HT.out ?_
  repeat go_step
  refine ret_vl2 rfl rfl (VlAt.stored HT.out ⟨1, s, []⟩) rfl ?_
  rw [HR.out]
  exact ⟨by rw [HV.out, HRR.out]; rfl, below_setCellsV hbW (Nat.le_refl _) _ _⟩

theorem sgn_5 {b : List Int} (hB : IsB b) (hl : b.length = 5) (u : Int) (hu : beI b = u) : 0 ≤ u ∧ u < 1099511627776 ∧ wrap64 (u * 16777216) / 16777216 = sgnI b := by
  obtain ⟨x, t, h0, h1, h2, h3, h4, h5⟩ := sgn_form hB (by omega)
  rw [hl] at h3 h4 h5
  simp only [Nat.reduceSub, Int.reducePow] at h3 h4 h5
  rw [h5, ← hu, h4]
  refine ⟨by omega, by omega, ?_⟩
  unfold wrap64
  split <;> omega
set_option maxHeartbeats 4000000 in
theorem take_5 (w : World) (A : Option Addr) (d : Nat) (b : List Int) (hl : b.length = 5) (hnd : 5 ≤ d) (hd : d ≤ maxLen) (hA : Rd w A b) (hB : IsB b) (R : Ending → World → Prop) (hR : R = TakeBack w 5 b) : Calls Try.prog 55 #[.int .i64 5, .slice A 5 d] w R := by
  have HR := Lib.hid hR; clear hR
  have HI := Lib.hid (sgn_small hB (by omega) (by omega))
  obtain ⟨u, hu⟩ : ∃ u, beI b = u := ⟨_, rfl⟩
  obtain ⟨u0, u1, hs⟩ := sgn_5 hB hl u hu
  obtain ⟨s, hs'⟩ : ∃ s, sgnI b = s := ⟨_, rfl⟩
  rw [hs'] at hs
  have HS := Lib.hid hs'
  clear hs'
  have HU := Lib.hid hu; clear hu
  have HL := Lib.hid hl; clear hl
  have HB := Lib.hid hB; clear hB
  obtain ⟨W1, hW1⟩ : ∃ W, W = w.alloc (.cells #[.int .i64 0, .int .i64 0, .string ⟨#[]⟩] 49) := ⟨_, rfl⟩
  have hbW : Below w.heap.size w W1 := by rw [hW1]; exact (Below.refl _ _).alloc (Nat.le_refl _) _
  have HT := Lib.hid (show W1.there w.heap.size 0 3 by
    rw [hW1]
    intro j hj
    rcases (by omega : j = 0 ∨ j = 1 ∨ j = 2) with rfl | rfl | rfl <;> simp [go_sem])
  have HA := Lib.hid (hA.keep hbW); clear hA
  have HW := Lib.hid hW1
  go_enter Try.func55, Try.ntmps55
  go_upto_region 1 with fail
  rw [← hW1]
  clear hW1 HW
  go_wp2_with fail
  refine (readb _ A 5 d b HL.out (by omega) (by omega) hnd hd HA.out HB.out).mono ?_
  rintro e w2 ⟨rfl, rfl⟩
  rw [HU.out]
  go_wp2_with fail
  refine (width_any _ s (by rw [← HS.out]; exact HI.out)).mono ?_
  rintro e w2 ⟨rfl, rfl⟩
  have hv : takeV 5 b = ⟨1, s, []⟩ := by unfold takeV; rw [if_neg (by decide), if_neg (by decide), HS.out]
  have hr : decide ((readV 5 b).2 = 0) = decide ((widI s : Int) = 5) := by
    unfold readV
    rw [if_neg (by decide), if_neg (by decide), HS.out]
    by_cases h : (widI s : Int) = 5
    · simp [h]
    · simp [h]
  have HV := Lib.hid hv
  have HRR := Lib.hid hr
  clear hv hr
  obtain ⟨q, hq⟩ : ∃ q, ((widI s : Nat) : Int) = q := ⟨_, rfl⟩
  rw [hq] at HRR ⊢
  have hqq : (q == 5) = decide (q = 5) := rfl
  obtain ⟨bb, hbb⟩ : ∃ bb, decide (q = 5) = bb := ⟨_, rfl⟩
  rw [hbb] at hqq HRR
  clear hbb hq
  dsimp only
  iterate 10 go_step
  refine wp_store_vl rfl _ _ rfl w.heap.size ⟨1, s, []⟩ rfl rfl HT.out ?_
  repeat go_step
  refine ret_vl2 rfl rfl (VlAt.stored HT.out ⟨1, s, []⟩) rfl ?_
  rw [HR.out]
  exact ⟨by rw [HV.out, HRR.out]; rfl, below_setCellsV hbW (Nat.le_refl _) _ _⟩

theorem sgn_6 {b : List Int} (hB : IsB b) (hl : b.length = 6) (u : Int) (hu : beI b = u) : 0 ≤ u ∧ u < 281474976710656 ∧ wrap64 (u * 65536) / 65536 = sgnI b := by
  obtain ⟨x, t, h0, h1, h2, h3, h4, h5⟩ := sgn_form hB (by omega)
  rw [hl] at h3 h4 h5
  simp only [Nat.reduceSub, Int.reducePow] at h3 h4 h5
  rw [h5, ← hu, h4]
  refine ⟨by omega, by omega, ?_⟩
  unfold wrap64
  split <;> omega
set_option maxHeartbeats 4000000 in
theorem take_6 (w : World) (A : Option Addr) (d : Nat) (b : List Int) (hl : b.length = 6) (hnd : 6 ≤ d) (hd : d ≤ maxLen) (hA : Rd w A b) (hB : IsB b) (R : Ending → World → Prop) (hR : R = TakeBack w 6 b) : Calls Try.prog 55 #[.int .i64 6, .slice A 6 d] w R := by
  have HR := Lib.hid hR; clear hR
  have HI := Lib.hid (sgn_small hB (by omega) (by omega))
  obtain ⟨u, hu⟩ : ∃ u, beI b = u := ⟨_, rfl⟩
  obtain ⟨u0, u1, hs⟩ := sgn_6 hB hl u hu
  obtain ⟨s, hs'⟩ : ∃ s, sgnI b = s := ⟨_, rfl⟩
  rw [hs'] at hs
  have HS := Lib.hid hs'
  clear hs'
  have HU := Lib.hid hu; clear hu
  have HL := Lib.hid hl; clear hl
  have HB := Lib.hid hB; clear hB
  obtain ⟨W1, hW1⟩ : ∃ W, W = w.alloc (.cells #[.int .i64 0, .int .i64 0, .string ⟨#[]⟩] 49) := ⟨_, rfl⟩
  have hbW : Below w.heap.size w W1 := by rw [hW1]; exact (Below.refl _ _).alloc (Nat.le_refl _) _
  have HT := Lib.hid (show W1.there w.heap.size 0 3 by
    rw [hW1]
    intro j hj
    rcases (by omega : j = 0 ∨ j = 1 ∨ j = 2) with rfl | rfl | rfl <;> simp [go_sem])
  have HA := Lib.hid (hA.keep hbW); clear hA
  have HW := Lib.hid hW1
  go_enter Try.func55, Try.ntmps55
  go_upto_region 1 with fail
  rw [← hW1]
  clear hW1 HW
  go_wp2_with fail
  refine (readb _ A 6 d b HL.out (by omega) (by omega) hnd hd HA.out HB.out).mono ?_
  rintro e w2 ⟨rfl, rfl⟩
  rw [HU.out]
  go_wp2_with fail
  refine (width_any _ s (by rw [← HS.out]; exact HI.out)).mono ?_
  rintro e w2 ⟨rfl, rfl⟩
  have hv : takeV 6 b = ⟨1, s, []⟩ := by unfold takeV; rw [if_neg (by decide), if_neg (by decide), HS.out]
  have hr : decide ((readV 6 b).2 = 0) = decide ((widI s : Int) = 6) := by
    unfold readV
    rw [if_neg (by decide), if_neg (by decide), HS.out]
    by_cases h : (widI s : Int) = 6
    · simp [h]
    · simp [h]
  have HV := Lib.hid hv
  have HRR := Lib.hid hr
  clear hv hr
  obtain ⟨q, hq⟩ : ∃ q, ((widI s : Nat) : Int) = q := ⟨_, rfl⟩
  rw [hq] at HRR ⊢
  have hqq : (q == 6) = decide (q = 6) := rfl
  obtain ⟨bb, hbb⟩ : ∃ bb, decide (q = 6) = bb := ⟨_, rfl⟩
  rw [hbb] at hqq HRR
  clear hbb hq
  dsimp only
  iterate 10 go_step
  refine wp_store_vl rfl _ _ rfl w.heap.size ⟨1, s, []⟩ rfl rfl HT.out ?_
  repeat go_step
  refine ret_vl2 rfl rfl (VlAt.stored HT.out ⟨1, s, []⟩) rfl ?_
  rw [HR.out]
  exact ⟨by rw [HV.out, HRR.out]; rfl, below_setCellsV hbW (Nat.le_refl _) _ _⟩

theorem sgn_7 {b : List Int} (hB : IsB b) (hl : b.length = 7) (u : Int) (hu : beI b = u) : 0 ≤ u ∧ u < 72057594037927936 ∧ wrap64 (u * 256) / 256 = sgnI b := by
  obtain ⟨x, t, h0, h1, h2, h3, h4, h5⟩ := sgn_form hB (by omega)
  rw [hl] at h3 h4 h5
  simp only [Nat.reduceSub, Int.reducePow] at h3 h4 h5
  rw [h5, ← hu, h4]
  refine ⟨by omega, by omega, ?_⟩
  unfold wrap64
  split <;> omega
set_option maxHeartbeats 4000000 in
theorem take_7 (w : World) (A : Option Addr) (d : Nat) (b : List Int) (hl : b.length = 7) (hnd : 7 ≤ d) (hd : d ≤ maxLen) (hA : Rd w A b) (hB : IsB b) (R : Ending → World → Prop) (hR : R = TakeBack w 7 b) : Calls Try.prog 55 #[.int .i64 7, .slice A 7 d] w R := by
  have HR := Lib.hid hR; clear hR
  have HI := Lib.hid (sgn_small hB (by omega) (by omega))
  obtain ⟨u, hu⟩ : ∃ u, beI b = u := ⟨_, rfl⟩
  obtain ⟨u0, u1, hs⟩ := sgn_7 hB hl u hu
  obtain ⟨s, hs'⟩ : ∃ s, sgnI b = s := ⟨_, rfl⟩
  rw [hs'] at hs
  have HS := Lib.hid hs'
  clear hs'
  have HU := Lib.hid hu; clear hu
  have HL := Lib.hid hl; clear hl
  have HB := Lib.hid hB; clear hB
  obtain ⟨W1, hW1⟩ : ∃ W, W = w.alloc (.cells #[.int .i64 0, .int .i64 0, .string ⟨#[]⟩] 49) := ⟨_, rfl⟩
  have hbW : Below w.heap.size w W1 := by rw [hW1]; exact (Below.refl _ _).alloc (Nat.le_refl _) _
  have HT := Lib.hid (show W1.there w.heap.size 0 3 by
    rw [hW1]
    intro j hj
    rcases (by omega : j = 0 ∨ j = 1 ∨ j = 2) with rfl | rfl | rfl <;> simp [go_sem])
  have HA := Lib.hid (hA.keep hbW); clear hA
  have HW := Lib.hid hW1
  go_enter Try.func55, Try.ntmps55
  go_upto_region 1 with fail
  rw [← hW1]
  clear hW1 HW
  go_wp2_with fail
  refine (readb _ A 7 d b HL.out (by omega) (by omega) hnd hd HA.out HB.out).mono ?_
  rintro e w2 ⟨rfl, rfl⟩
  rw [HU.out]
  go_wp2_with fail
  refine (width_any _ s (by rw [← HS.out]; exact HI.out)).mono ?_
  rintro e w2 ⟨rfl, rfl⟩
  have hv : takeV 7 b = ⟨1, s, []⟩ := by unfold takeV; rw [if_neg (by decide), if_neg (by decide), HS.out]
  have hr : decide ((readV 7 b).2 = 0) = decide ((widI s : Int) = 7) := by
    unfold readV
    rw [if_neg (by decide), if_neg (by decide), HS.out]
    by_cases h : (widI s : Int) = 7
    · simp [h]
    · simp [h]
  have HV := Lib.hid hv
  have HRR := Lib.hid hr
  clear hv hr
  obtain ⟨q, hq⟩ : ∃ q, ((widI s : Nat) : Int) = q := ⟨_, rfl⟩
  rw [hq] at HRR ⊢
  have hqq : (q == 7) = decide (q = 7) := rfl
  obtain ⟨bb, hbb⟩ : ∃ bb, decide (q = 7) = bb := ⟨_, rfl⟩
  rw [hbb] at hqq HRR
  clear hbb hq
  dsimp only
  iterate 10 go_step
  refine wp_store_vl rfl _ _ rfl w.heap.size ⟨1, s, []⟩ rfl rfl HT.out ?_
  repeat go_step
  refine ret_vl2 rfl rfl (VlAt.stored HT.out ⟨1, s, []⟩) rfl ?_
  rw [HR.out]
  exact ⟨by rw [HV.out, HRR.out]; rfl, below_setCellsV hbW (Nat.le_refl _) _ _⟩

theorem sgn_8 {b : List Int} (hB : IsB b) (hl : b.length = 8) (u : Int) (hu : beI b = u) : 0 ≤ u ∧ u < 18446744073709551616 ∧ wrap64 u = sgnI b := by
  obtain ⟨x, t, h0, h1, h2, h3, h4, h5⟩ := sgn_form hB (by omega)
  rw [hl] at h3 h4 h5
  simp only [Nat.reduceSub, Int.reducePow] at h3 h4 h5
  rw [h5, ← hu, h4]
  refine ⟨by omega, by omega, ?_⟩
  unfold wrap64
  split <;> omega
set_option maxHeartbeats 4000000 in
theorem take_8 (w : World) (A : Option Addr) (d : Nat) (b : List Int) (hl : b.length = 8) (hnd : 8 ≤ d) (hd : d ≤ maxLen) (hA : Rd w A b) (hB : IsB b) (R : Ending → World → Prop) (hR : R = TakeBack w 8 b) : Calls Try.prog 55 #[.int .i64 8, .slice A 8 d] w R := by
  have HR := Lib.hid hR; clear hR
  have HI := Lib.hid (sgn_small hB (by omega) (by omega))
  obtain ⟨u, hu⟩ : ∃ u, beI b = u := ⟨_, rfl⟩
  obtain ⟨u0, u1, hs⟩ := sgn_8 hB hl u hu
  obtain ⟨s, hs'⟩ : ∃ s, sgnI b = s := ⟨_, rfl⟩
  rw [hs'] at hs
  have HS := Lib.hid hs'
  clear hs'
  have HU := Lib.hid hu; clear hu
  have HL := Lib.hid hl; clear hl
  have HB := Lib.hid hB; clear hB
  obtain ⟨W1, hW1⟩ : ∃ W, W = w.alloc (.cells #[.int .i64 0, .int .i64 0, .string ⟨#[]⟩] 49) := ⟨_, rfl⟩
  have hbW : Below w.heap.size w W1 := by rw [hW1]; exact (Below.refl _ _).alloc (Nat.le_refl _) _
  have HT := Lib.hid (show W1.there w.heap.size 0 3 by
    rw [hW1]
    intro j hj
    rcases (by omega : j = 0 ∨ j = 1 ∨ j = 2) with rfl | rfl | rfl <;> simp [go_sem])
  have HA := Lib.hid (hA.keep hbW); clear hA
  have HW := Lib.hid hW1
  go_enter Try.func55, Try.ntmps55
  go_upto_region 1 with fail
  rw [← hW1]
  clear hW1 HW
  go_wp2_with fail
  refine (readb _ A 8 d b HL.out (by omega) (by omega) hnd hd HA.out HB.out).mono ?_
  rintro e w2 ⟨rfl, rfl⟩
  rw [HU.out]
  go_wp2_with fail
  refine (width_any _ s (by rw [← HS.out]; exact HI.out)).mono ?_
  rintro e w2 ⟨rfl, rfl⟩
  have hv : takeV 8 b = ⟨1, s, []⟩ := by unfold takeV; rw [if_neg (by decide), if_neg (by decide), HS.out]
  have hr : decide ((readV 8 b).2 = 0) = decide ((widI s : Int) = 8) := by
    unfold readV
    rw [if_neg (by decide), if_neg (by decide), HS.out]
    by_cases h : (widI s : Int) = 8
    · simp [h]
    · simp [h]
  have HV := Lib.hid hv
  have HRR := Lib.hid hr
  clear hv hr
  obtain ⟨q, hq⟩ : ∃ q, ((widI s : Nat) : Int) = q := ⟨_, rfl⟩
  rw [hq] at HRR ⊢
  have hqq : (q == 8) = decide (q = 8) := rfl
  obtain ⟨bb, hbb⟩ : ∃ bb, decide (q = 8) = bb := ⟨_, rfl⟩
  rw [hbb] at hqq HRR
  clear hbb hq
  dsimp only
  iterate 10 go_step
  refine wp_store_vl rfl _ _ rfl w.heap.size ⟨1, s, []⟩ rfl rfl HT.out ?_
  repeat go_step
  refine ret_vl2 rfl rfl (VlAt.stored HT.out ⟨1, s, []⟩) rfl ?_
  rw [HR.out]
  exact ⟨by rw [HV.out, HRR.out]; rfl, below_setCellsV hbW (Nat.le_refl _) _ _⟩

end Go.Proofs.Ytbbdglikdogmhaa
