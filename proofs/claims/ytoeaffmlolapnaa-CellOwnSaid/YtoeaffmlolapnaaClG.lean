/- Walk: (*cell.reader).load. Printed by genCg.py. -/
import Derived.Test.YtoeaffmlolapnaaClF
import Derived.Test.YtoeaffmlolapnaaUnv
import Derived.Deep.RegionHeld3
namespace Go.Proofs.Ytoeaffmlolapnaa
open Go.RowKit
set_option maxRecDepth 100000
set_option linter.unusedSimpArgs false
set_option linter.unusedVariables false

theorem pay_e1 {l : List Int} {a v p z : Int} (h : unvL l a = (v, p, z)) (hz : z ≠ 0) : payD l a = py0 z := by simp [payD, wn, h, hz]
theorem wn_form {l : List Int} {a v p lo hi : Int} (h : unvL l a = (v, p, 0)) (hb : v < lo ∨ hi < v) : wn l a lo hi = (0, 0, 8) := by simp [wn, h, hb]
theorem wn_ok {l : List Int} {a v p lo hi : Int} (h : unvL l a = (v, p, 0)) (hb : ¬ (v < lo ∨ hi < v)) : wn l a lo hi = (v, p, 0) := by simp only [wn, h]; rw [if_neg (by simp), if_neg hb]
theorem wn_err {l : List Int} {a v p z lo hi : Int} (h : unvL l a = (v, p, z)) (hz : z ≠ 0) : wn l a lo hi = (0, 0, z) := by simp [wn, h, hz]
theorem pay_f1 {l : List Int} {a v p : Int} (h : unvL l a = (v, p, 0)) (hb : v < 0 ∨ 16384 < v) : payD l a = py0 8 := by simp [payD, wn_form h hb]
theorem pay_e2 {l : List Int} {a v p m p2 z : Int} (h : unvL l a = (v, p, 0)) (hb : ¬ (v < 0 ∨ 16384 < v)) (h2 : unvL l p = (m, p2, z)) (hz : z ≠ 0) : payD l a = py0 z := by simp [payD, wn_ok h hb, wn_err h2 hz, hz]
theorem pay_f2 {l : List Int} {a v p m p2 : Int} (h : unvL l a = (v, p, 0)) (hb : ¬ (v < 0 ∨ 16384 < v)) (h2 : unvL l p = (m, p2, 0)) (hb2 : m < 0 ∨ v < m) : payD l a = py0 8 := by simp [payD, wn_ok h hb, wn_form h2 hb2]
theorem pay_s {l : List Int} {a v p m p2 : Int} (h : unvL l a = (v, p, 0)) (hb : ¬ (v < 0 ∨ 16384 < v)) (h2 : unvL l p = (m, p2, 0)) (hb2 : ¬ (m < 0 ∨ v < m)) (hs : (l.length : Int) - p2 < m) : payD l a = py0 6 := by simp [payD, wn_ok h hb, wn_ok h2 hb2, hs]
theorem pay_all {l : List Int} {a v p p2 : Int} (h : unvL l a = (v, p, 0)) (hb : ¬ (v < 0 ∨ 16384 < v)) (h2 : unvL l p = (v, p2, 0)) (hb2 : ¬ (v < 0 ∨ v < v)) (hs : ¬ (l.length : Int) - p2 < v) : payD l a = ⟨v, 0, (l.drop p2.toNat).take v.toNat, p2 + v, 0⟩ := by simp only [payD, wn_ok h hb, wn_ok h2 hb2]; simp [hs]
theorem pay_e3 {l : List Int} {a v p m p2 s p3 z : Int} (h : unvL l a = (v, p, 0)) (hb : ¬ (v < 0 ∨ 16384 < v)) (h2 : unvL l p = (m, p2, 0)) (hb2 : ¬ (m < 0 ∨ v < m)) (hs : ¬ (l.length : Int) - p2 < m) (hm : m ≠ v) (h3 : unvL l (p2 + m) = (s, p3, z)) (hz : z ≠ 0) : payD l a = py0 z := by
  simp only [payD, wn_ok h hb, wn_ok h2 hb2, wn_err h3 hz]; simp [hs, hm, hz]
theorem pay_f3 {l : List Int} {a v p m p2 s p3 : Int} (h : unvL l a = (v, p, 0)) (hb : ¬ (v < 0 ∨ 16384 < v)) (h2 : unvL l p = (m, p2, 0)) (hb2 : ¬ (m < 0 ∨ v < m)) (hs : ¬ (l.length : Int) - p2 < m) (hm : m ≠ v) (h3 : unvL l (p2 + m) = (s, p3, 0)) (hb3 : s < 1 ∨ 1048576 < s) : payD l a = py0 8 := by
  simp only [payD, wn_ok h hb, wn_ok h2 hb2, wn_form h3 hb3]; simp [hs, hm]
theorem pay_ok {l : List Int} {a v p m p2 s p3 : Int} (h : unvL l a = (v, p, 0)) (hb : ¬ (v < 0 ∨ 16384 < v)) (h2 : unvL l p = (m, p2, 0)) (hb2 : ¬ (m < 0 ∨ v < m)) (hs : ¬ (l.length : Int) - p2 < m) (hm : m ≠ v) (h3 : unvL l (p2 + m) = (s, p3, 0)) (hb3 : ¬ (s < 1 ∨ 1048576 < s)) : payD l a = ⟨v, s, (l.drop p2.toNat).take m.toNat, p3, 0⟩ := by
  simp only [payD, wn_ok h hb, wn_ok h2 hb2, wn_ok h3 hb3]; simp [hs, hm]

theorem next_yes (w : World) (g : Nat) (A : Option Addr) (n c : Nat) (l : List Int) (at_ v p : Int) (hR : RrAt w g A n c at_ 0) (hn : l.length = n) (hnc : n ≤ c) (hcm : c ≤ maxLen) (hA : Rd w A l) (hB : IsB l) (ha : -9223372036854775808 ≤ at_ ∧ at_ ≤ 9223372036854775807) (hU : unvL l at_ = (v, p, 0)) :
    Calls Try.prog 73 #[.pointer (some ⟨g, 0, none⟩)] w fun e w' => e = .returned (.int .i64 v) ∧ RrAt w' g A n c p 0 ∧ Only g w w' := by
  refine (next_any w g A n c l at_ hR hn hnc hcm hA hB ha _ rfl).mono ?_
  rintro e w' ⟨at', e', rfl, h1, h2, h3, h4⟩
  simp only [hU] at h2 h3 ⊢
  have h5 := h3 trivial
  subst h2 h5
  exact ⟨by simp, h1, h4⟩
theorem next_err (w : World) (g : Nat) (A : Option Addr) (n c : Nat) (l : List Int) (at_ v p z : Int) (hR : RrAt w g A n c at_ 0) (hn : l.length = n) (hnc : n ≤ c) (hcm : c ≤ maxLen) (hA : Rd w A l) (hB : IsB l) (ha : -9223372036854775808 ≤ at_ ∧ at_ ≤ 9223372036854775807) (hU : unvL l at_ = (v, p, z)) (hz : z ≠ 0) :
    Calls Try.prog 73 #[.pointer (some ⟨g, 0, none⟩)] w fun e w' => e = .returned (.int .i64 0) ∧ (∃ at', RrAt w' g A n c at' z) ∧ Only g w w' := by
  refine (next_any w g A n c l at_ hR hn hnc hcm hA hB ha _ rfl).mono ?_
  rintro e w' ⟨at', e', rfl, h1, h2, h3, h4⟩
  simp only [hU] at h2 ⊢
  subst h2
  exact ⟨by simp [hz], ⟨at', h1⟩, h4⟩

/-- What load leaves. -/
def LoadBack (w : World) (g gc : Nat) (A : Option Addr) (n c : Nat) (ky ch : Int) (y : Py) (e : Ending) (w' : World) : Prop :=
  ∃ at' e', e = .returned (.tuple #[]) ∧ RrAt w' g A n c at' e' ∧ e' = y.e ∧ (e' = 0 → at' = y.at_ ∧ ∃ A' n' c', ClAt w' gc ⟨ky, ch, y.total, y.spill, y.loc⟩ A' n' c' ∧ OwnB w' (g + 1) A' n' c' y.loc) ∧ Below g w w'

set_option maxHeartbeats 8000000 in
theorem load_bad (w : World) (g gc : Nat) (A : Option Addr) (n c : Nat) (at_ z : Int) (hR : RrAt w g A n c at_ z) (hz : z ≠ 0) (R : Ending → World → Prop) (hP : R = fun e w' => e = .returned (.tuple #[]) ∧ RrAt w' g A n c at_ z ∧ Below g w w') :
    Calls Try.prog 76 #[.pointer (some ⟨g, 0, none⟩), .pointer (some ⟨gc, 0, none⟩)] w R := by
  have HP := Lib.hid hP; clear hP
  have HR := Lib.hid hR
  have HZ := Lib.hid hz
  have z1 : (z != 0) = true := by simp [hz]
  have z2 : (z == 0) = false := by simp [hz]
  obtain ⟨⟨r0, r1, r2⟩, f1, f2⟩ := hR
  clear hz
  go_enter Try.func76, Try.ntmps76
  go_wp2_with fail
  refine (next_bad _ g A n c at_ z HR.out HZ.out).mono ?_
  rintro e w1 ⟨rfl, rfl⟩
  go_wp2_with fail
  refine (form_bad _ g A n c at_ z true HR.out HZ.out).mono ?_
  rintro e w1 ⟨rfl, rfl⟩
  go_wp2_with fail
  refine (next_bad _ g A n c at_ z HR.out HZ.out).mono ?_
  rintro e w1 ⟨rfl, rfl⟩
  go_wp2_with fail
  refine (form_bad _ g A n c at_ z true HR.out HZ.out).mono ?_
  rintro e w1 ⟨rfl, rfl⟩
  go_upto_region 4 with fail
  go_quiet (fail)
  go_wp2
  go_end0
  rw [HP.out]
  exact ⟨rfl, HR.out.drewN nq, below_drewN (Below.refl _ _) nq⟩

end Go.Proofs.Ytoeaffmlolapnaa
