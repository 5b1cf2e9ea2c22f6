/- Walks: jour.Start, tomeref11.Start. -/
import Derived.Test.YtlehpgokjppccaaJrA
namespace Go.Proofs.Ytlehpgokjppccaa
open Go.RowKit
set_option maxRecDepth 100000

def okStart (s p : Int) : Prop := isSize s ∧ 0 ≤ p ∧ p ≤ 1048576 ∧ s * p ≤ 16777216
instance (s p : Int) : Decidable (okStart s p) := by unfold okStart; infer_instance
def startL (s p k : Int) : List Int := if okStart s p then startH s p k else []
def startE (s p : Int) : Int := if okStart s p then 0 else 1
theorem startL_isB (s p k : Int) : IsB (startL s p k) := by
  unfold startL
  split
  · exact startH_isB _ _ _
  · intro x hx; simp at hx
/-- Bytes that may be read, in memory of the call's own, beside an error. -/
def PairBack (w : World) (l : List Int) (z : Int) (e : Ending) (w' : World) : Prop :=
  ∃ A n c, e = .returned (.tuple #[.slice A n c, .int .i64 z]) ∧ l.length = n ∧ n ≤ c ∧ c ≤ maxLen ∧ Rd w' A l ∧ Below w.heap.size w w'

set_option maxHeartbeats 4000000 in
theorem jStart_any0 (w : World) (s p k : Int) (hs : i64ok s) (hp : i64ok p) (hk : 0 ≤ k ∧ k ≤ 18446744073709551615) (R : Ending → World → Prop) (hR : R = PairBack w (startL s p k) (startE s p)) :
    Calls Try.prog 25 #[.int .i64 s, .int .i64 p, .int .u64 k] w R := by
  have HR := Lib.hid hR; clear hR
  have HK := Lib.hid hk; clear hk
  have hs' := hs
  unfold i64ok at hs' hp
  by_cases hg : okStart s p
  · have HG := Lib.hid hg
    obtain ⟨g1, g2, g3, g4⟩ := hg
    have hsb : 256 ≤ s ∧ s ≤ 4096 := by unfold isSize at g1; omega
    have HD := Lib.hid (decide_eq_true g1)
    have hm0 : 0 ≤ s * p := Int.mul_nonneg (by omega) g2
    have hmul : IntKind.i64.wrap (s * p) = s * p := IntWalk.i64_in _ (by omega)
    have hws : IntKind.u64.wrap s = s := IntWalk.u64_in _ (by omega)
    have hwp : IntKind.u64.wrap p = p := IntWalk.u64_in _ (by omega)
    clear g1 hm0
    go_enter Try.func25, Try.ntmps25
    go_wp2_with fail
    refine (jright_any _ s hs).mono ?_
    rintro e w1 ⟨rfl, rfl⟩
    simp only [HD.out]
    go_wp2_with fail
    refine (jstart_any _ s p k (by omega) (by omega) HK.out _ rfl).mono ?_
    rintro e w2 hf
    obtain ⟨g, n, rfl, h1, h2, h3, h4⟩ := fresh_rd hf
    have HF := Lib.hid h3; clear h3 hf
    have HE := Lib.hid (show startL s p k = startH s p k from if_pos HG.out)
    have HE2 := Lib.hid (show startE s p = 0 from if_pos HG.out)
    go_wp2
    rw [HR.out]
    exact ⟨_, _, _, by rw [HE2.out]; rfl, by rw [HE.out]; exact h1, Nat.le_refl _, h2, by rw [HE.out]; exact HF.out, h4⟩
  · have HE := Lib.hid (show startL s p k = [] from if_neg hg)
    have HE2 := Lib.hid (show startE s p = 1 from if_neg hg)
    by_cases g1 : isSize s
    · have hsb : 256 ≤ s ∧ s ≤ 4096 := by unfold isSize at g1; omega
      have HD := Lib.hid (decide_eq_true g1)
      by_cases g2 : p < 0
      · clear hg g1
        go_enter Try.func25, Try.ntmps25
        go_wp2_with fail
        refine (jright_any _ s hs).mono ?_
        rintro e w1 ⟨rfl, rfl⟩
        simp only [HD.out]
        go_wp2
        rw [HR.out]
        exact ⟨none, 0, 0, by rw [HE2.out]; rfl, by rw [HE.out]; rfl, Nat.le_refl _, by decide, by rw [HE.out]; exact .inl rfl, Below.refl _ _⟩
      · by_cases g3 : 1048576 < p
        · clear hg g1
          go_enter Try.func25, Try.ntmps25
          go_wp2_with fail
          refine (jright_any _ s hs).mono ?_
          rintro e w1 ⟨rfl, rfl⟩
          simp only [HD.out]
          go_wp2
          rw [HR.out]
          exact ⟨none, 0, 0, by rw [HE2.out]; rfl, by rw [HE.out]; rfl, Nat.le_refl _, by decide, by rw [HE.out]; exact .inl rfl, Below.refl _ _⟩
        · have hm : 16777216 < s * p := by
            by_cases h : 16777216 < s * p
            · exact h
            · exact absurd ⟨g1, by omega, by omega, by omega⟩ hg
          have hm2 : s * p ≤ 4096 * 1048576 := Int.mul_le_mul hsb.2 (by omega) (by omega) (by decide)
          have hmul : IntKind.i64.wrap (s * p) = s * p := IntWalk.i64_in _ (by omega)
          clear hg g1 hm2
          go_enter Try.func25, Try.ntmps25
          go_wp2_with fail
          refine (jright_any _ s hs).mono ?_
          rintro e w1 ⟨rfl, rfl⟩
          simp only [HD.out]
          go_wp2
          rw [HR.out]
          exact ⟨none, 0, 0, by rw [HE2.out]; rfl, by rw [HE.out]; rfl, Nat.le_refl _, by decide, by rw [HE.out]; exact .inl rfl, Below.refl _ _⟩
    · have HD := Lib.hid (decide_eq_false g1)
      clear hg g1
      go_enter Try.func25, Try.ntmps25
      go_wp2_with fail
      refine (jright_any _ s hs).mono ?_
      rintro e w1 ⟨rfl, rfl⟩
      simp only [HD.out]
      go_wp2
      rw [HR.out]
      exact ⟨none, 0, 0, by rw [HE2.out]; rfl, by rw [HE.out]; rfl, Nat.le_refl _, by decide, by rw [HE.out]; exact .inl rfl, Below.refl _ _⟩
theorem jStart_any (w : World) (s p k : Int) (hs : i64ok s) (hp : i64ok p) (hk : 0 ≤ k ∧ k ≤ 18446744073709551615) :
    Calls Try.prog 25 #[.int .i64 s, .int .i64 p, .int .u64 k] w (PairBack w (startL s p k) (startE s p)) := jStart_any0 w s p k hs hp hk _ rfl
end Go.Proofs.Ytlehpgokjppccaa
