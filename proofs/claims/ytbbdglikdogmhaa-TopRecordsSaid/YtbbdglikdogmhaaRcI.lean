/- Walks: record.long, head, codes. -/
import Derived.Test.YtbbdglikdogmhaaRcH
import Derived.Test.YtbbdglikdogmhaaNumD
namespace Go.Proofs.Ytbbdglikdogmhaa
open Go.RowKit
set_option maxRecDepth 100000
set_option linter.unusedVariables false
set_option linter.unusedSimpArgs false
set_option linter.unnecessarySimpa false

def longV (c : Int) : Int := if badC c then 0 else longI c
set_option maxHeartbeats 4000000 in
theorem long_any (w : World) (c : Int) (hc : i64K c) : Calls Try.prog 54 #[.int .i64 c] w fun e w' => e = .returned (.tuple #[.int .i64 (longV c), .bool (!decide (badC c))]) ∧ w = w' := by
  obtain ⟨c0, c1⟩ := hc
  by_cases h0 : c < 0
  · have hb : badC c := .inl h0
    have e1 : longV c = 0 := if_pos hb
    have e2 : decide (badC c) = true := decide_eq_true hb
    rw [e1, e2]
    clear hb e1 e2
    go_enter Try.func54, Try.ntmps54
    go_wp2
    go_ret2
    exact ⟨rfl, rfl⟩
  by_cases h8 : 8 < c
  · by_cases h16 : c < 16
    · have hb : badC c := .inr ⟨h8, h16⟩
      have e1 : longV c = 0 := if_pos hb
      have e2 : decide (badC c) = true := decide_eq_true hb
      rw [e1, e2]
      clear hb e1 e2
      go_enter Try.func54, Try.ntmps54
      go_wp2
      go_ret2
      exact ⟨rfl, rfl⟩
    · have hb : ¬ badC c := by unfold badC; omega
      have e1 : longV c = (c - 16) / 2 := by unfold longV longI; rw [if_neg hb, if_neg h16]
      have e2 : decide (badC c) = false := decide_eq_false hb
      rw [e1, e2]
      clear hb e1 e2
      go_enter Try.func54, Try.ntmps54
      go_wp2
      go_ret2
      exact ⟨rfl, rfl⟩
  · have hb : ¬ badC c := by unfold badC; omega
    have h16 : c < 16 := by omega
    have e1 : longV c = c := by unfold longV longI; rw [if_neg hb, if_pos h16]
    have e2 : decide (badC c) = false := decide_eq_false hb
    rw [e1, e2]
    clear hb e1 e2
    go_enter Try.func54, Try.ntmps54
    go_wp2
    go_ret2
    exact ⟨rfl, rfl⟩

set_option maxHeartbeats 4000000 in
theorem head_any (w : World) (A : Option Addr) (n c : Nat) (l : List Int) (hn : l.length = n) (hnc : n ≤ c) (hcm : c ≤ maxLen) (hA : Rd w A l) (hB : IsB l) :
    Calls Try.prog 32 #[.slice A n c] w fun e w' => e = .returned (.tuple #[.int .i64 (headV l).1, .int .i64 (headV l).2.1, .int .i64 (headV l).2.2]) ∧ w = w' := by
  have HN := Lib.hid hn; clear hn
  have HB := Lib.hid hB; clear hB
  have HA := Lib.hid hA; clear hA
  have HC := Lib.hid hcm
  unfold maxLen at hcm
  by_cases hbig : 16384 < n
  · have e : headV l = (0, 0, 3) := if_pos (by rw [HN.out]; exact hbig)
    rw [e]
    clear e
    go_enter Try.func32, Try.ntmps32
    go_wp2
    go_ret3
    exact ⟨rfl, rfl⟩
  have e0 : headV l = if (unvL l 0).2.2 ≠ 0 then (0, 0, (unvL l 0).2.2) else if (unvL l 0).1 < 0 then (0, 0, 8) else if 64 < (unvL l 0).1 then (0, 0, 3) else ((unvL l 0).1, (unvL l 0).2.1, 0) := if_neg (by rw [HN.out]; exact hbig)
  obtain ⟨⟨v, p, z⟩, hU⟩ : ∃ U, unvL l 0 = U := ⟨_, rfl⟩
  rw [hU] at e0
  have HU := Lib.hid hU
  clear hU
  simp only at e0
  rw [e0]
  clear e0
  by_cases hz : z = 0
  rotate_left
  · have hzb : (z != 0) = true := by simp [hz]
    rw [if_pos hz]
    clear hz
    go_enter Try.func32, Try.ntmps32
    go_wp2_with fail
    refine (unv_any _ A n c l 0 HN.out hnc HC.out HA.out HB.out (by omega)).mono ?_
    rintro e w1 ⟨rfl, rfl⟩
    simp only [HU.out]
    go_wp2
    go_ret3
    exact ⟨rfl, rfl⟩
  subst hz
  rw [if_neg (by simp)]
  by_cases h0 : v < 0
  · rw [if_pos h0]
    go_enter Try.func32, Try.ntmps32
    go_wp2_with fail
    refine (unv_any _ A n c l 0 HN.out hnc HC.out HA.out HB.out (by omega)).mono ?_
    rintro e w1 ⟨rfl, rfl⟩
    simp only [HU.out]
    go_wp2
    go_ret3
    exact ⟨rfl, rfl⟩
  rw [if_neg h0]
  by_cases h1 : 64 < v
  · rw [if_pos h1]
    go_enter Try.func32, Try.ntmps32
    go_wp2_with fail
    refine (unv_any _ A n c l 0 HN.out hnc HC.out HA.out HB.out (by omega)).mono ?_
    rintro e w1 ⟨rfl, rfl⟩
    simp only [HU.out]
    go_wp2
    go_ret3
    exact ⟨rfl, rfl⟩
  rw [if_neg h1]
  go_enter Try.func32, Try.ntmps32
  go_wp2_with fail
  refine (unv_any _ A n c l 0 HN.out hnc HC.out HA.out HB.out (by omega)).mono ?_
  rintro e w1 ⟨rfl, rfl⟩
  simp only [HU.out]
  go_wp2
  go_ret3
  exact ⟨rfl, rfl⟩

/-- What stands before, put ahead of what follows. -/
def glueI (acc : List Int) (r : List Int × Int × Int) : List Int × Int × Int := if r.2.2 ≠ 0 then ([], 0, r.2.2) else (acc ++ r.1, r.2.1, 0)
theorem glue_nil (l : List Int) (k : Nat) (a : Int) : glueI [] (codesV l k a) = codesV l k a := by
  unfold glueI
  by_cases h : (codesV l k a).2.2 = 0
  · rw [if_neg (by simp [h])]
    generalize codesV l k a = r at h ⊢
    obtain ⟨x, y, z⟩ := r
    simp only at h
    subst h
    rfl
  · rw [if_pos h]
    cases k with
    | zero => exact absurd rfl h
    | succ k =>
      unfold codesV at h ⊢
      split
      · rfl
      · split
        · rfl
        · split
          · rfl
          · split
            · rfl
            · rename_i h1 h2 h3 h4
              rw [if_neg h1, if_neg h2, if_neg h3, if_neg h4] at h
              exact absurd rfl h
theorem codes_err (l : List Int) (k : Nat) (a : Int) (h : (unvL l a).2.2 ≠ 0) : codesV l (k + 1) a = ([], 0, (unvL l a).2.2) := if_pos h
theorem codes_bad (l : List Int) (k : Nat) (a : Int) (h : (unvL l a).2.2 = 0) (hb : badC (unvL l a).1) : codesV l (k + 1) a = ([], 0, 8) := by
  unfold codesV; rw [if_neg (by simp [h]), if_pos hb]
theorem codes_long (l : List Int) (k : Nat) (a : Int) (h : (unvL l a).2.2 = 0) (hb : ¬ badC (unvL l a).1) (hl : 8209 < (unvL l a).1) : codesV l (k + 1) a = ([], 0, 3) := by
  unfold codesV; rw [if_neg (by simp [h]), if_neg hb, if_pos hl]
theorem codes_ok (l : List Int) (k : Nat) (a : Int) (h : (unvL l a).2.2 = 0) (hb : ¬ badC (unvL l a).1) (hl : ¬ 8209 < (unvL l a).1) : codesV l (k + 1) a = glueI [(unvL l a).1] (codesV l k (unvL l a).2.1) := by
  show (if _ then _ else _) = _
  rw [if_neg (by simp [h]), if_neg hb, if_neg hl]
  rfl
theorem glue_glue (acc : List Int) (c : Int) (r : List Int × Int × Int) : glueI acc (glueI [c] r) = glueI (acc ++ [c]) r := by
  unfold glueI
  by_cases h : r.2.2 = 0
  · simp [h]
  · simp [h]
theorem long_le (c : Int) (h : ¬ badC c) : 4096 < longI c ↔ 8209 < c := by
  unfold badC at h
  unfold longI
  split <;> omega
end Go.Proofs.Ytbbdglikdogmhaa
