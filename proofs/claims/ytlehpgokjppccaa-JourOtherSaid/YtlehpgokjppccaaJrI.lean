/- A journal that is read: plain; walk: jour.Scan. -/
import Derived.Test.YtlehpgokjppccaaJrH
import Derived.Test.YtlehpgokjppccaaJrF
namespace Go.Proofs.Ytlehpgokjppccaa
open Go.RowKit
set_option maxRecDepth 100000

def eightI (b : List Int) (p : Nat) : Int := beI ((b.drop p).take 8)
theorem eight_bd {b : List Int} (hB : IsB b) (p : Nat) : 0 ≤ eightI b p ∧ eightI b p ≤ 18446744073709551615 := by
  have h := beI_lt (l := (b.drop p).take 8) (fun x hx => hB x (List.mem_of_mem_drop (List.mem_of_mem_take hx))) 8 (by simp; omega)
  have e : (256 : Int) ^ 8 = 18446744073709551616 := by decide
  unfold eightI; rw [e] at h; omega
def okFr (k : Int) (s : Nat) (t : List Int) : Prop := 1 ≤ fourI t 0 ∧ fourI t 0 ≤ 1048576 ∧ fxL (sumI (fxL k 8 ++ t.take (4 + s))) 4 = (t.drop (4 + s)).take 4
instance (k : Int) (s : Nat) (t : List Int) : Decidable (okFr k s t) := by unfold okFr; infer_instance
def frsL (k : Int) (s : Nat) (t : List Int) : List Fr :=
  if h : t.length < s + 8 then [] else if okFr k s t then ⟨fourI t 0, 0, (t.drop 4).take s⟩ :: frsL k s (t.drop (s + 8)) else []
termination_by t.length
decreasing_by simp; omega
theorem frs_end {k : Int} {s : Nat} {t : List Int} (h : t.length < s + 8) : frsL k s t = [] := by rw [frsL, dif_pos h]
theorem frs_stop {k : Int} {s : Nat} {t : List Int} (h : ¬ okFr k s t) : frsL k s t = [] := by
  rw [frsL]
  split
  · rfl
  · first | rfl | rw [if_neg h]
theorem frs_step {k : Int} {s : Nat} {t : List Int} (h : ¬ t.length < s + 8) (ho : okFr k s t) : frsL k s t = ⟨fourI t 0, 0, (t.drop 4).take s⟩ :: frsL k s (t.drop (s + 8)) := by rw [frsL, dif_neg h, if_pos ho]
def hdOk (b : List Int) : Prop := okStart (fourI b 8) (fourI b 12) ∧ startH (fourI b 8) (fourI b 12) (eightI b 16) = b.take 28
instance (b : List Int) : Decidable (hdOk b) := by unfold hdOk; infer_instance
structure Jr where
  (s p : Int)
  k : Int
  F : List Fr
  e : Int
def jr0 (e : Int) : Jr := ⟨0, 0, 0, [], e⟩
def scanL (b : List Int) : Jr := if b.length < 28 then jr0 6 else if b.take 8 ≠ jsign then jr0 8 else if hdOk b then ⟨fourI b 8, fourI b 12, eightI b 16, frsL (eightI b 16) (fourI b 8).toNat (b.drop 28), 0⟩ else jr0 14
def ScanBack (w : World) (l : List Int) (e : Ending) (w' : World) : Prop :=
  ∃ A m c, e = .returned (.tuple #[.int .i64 (scanL l).s, .int .i64 (scanL l).p, .slice A m c, .int .i64 (scanL l).e]) ∧ (scanL l).F.length = m ∧ m ≤ maxLen ∧ RdFr w' A (scanL l).F ∧ Below w.heap.size w w'

theorem scan_sign (w : World) (A : Option Addr) (n c : Nat) (l : List Int) (hn : l.length = n) (hnc : n ≤ c) (hA : Rd w A l) (hB : IsB l) (h28 : 28 ≤ n) (hs : l.take 8 ≠ jsign) :
    Calls Try.prog 22 #[.slice A n c] w fun e w' => e = .returned (.tuple #[.int .i64 0, .int .i64 0, .slice none 0 0, .int .i64 8]) ∧ w = w' := by
  have hs1 := run_str w A 8 c (l.take 8) (by rw [List.length_take, hn]; omega) (rd_take hA 8)
  have hcmp : ((strOfNums (l.take 8)).toList == ([116, 111, 109, 101, 32, 106, 110, 108] : List UInt8)) = false := by
    rw [← jsign_const, str_beq (isB_take hB 8) jsign_isB, beqL_no]
    exact hs
  obtain ⟨b, off, rfl, _, hcells⟩ := hA.at (by rw [hn]; omega)
  clear hcells hA hs hn
  have hc8 : 8 ≤ c := by omega
  go_enter Try.func22, Try.ntmps22
  go_wp2
  go_step3
  go_wp2
  rw [Exit.noGoto_ret]
  go_step
  refine bodyPost_ret (results_tmp4 rfl _ _ _) rfl ?_
  exact ⟨rfl, rfl⟩

set_option maxHeartbeats 8000000 in
theorem scan_bad (w : World) (A : Option Addr) (n c : Nat) (l : List Int) (hn : l.length = n) (hnc : n ≤ c) (hcm : c ≤ maxLen) (hA : Rd w A l) (hB : IsB l) (h28 : 28 ≤ n) (hs : l.take 8 = jsign) (hno : ¬ hdOk l) (R : Ending → World → Prop)
    (hR : R = fun e w' => e = .returned (.tuple #[.int .i64 0, .int .i64 0, .slice none 0 0, .int .i64 14]) ∧ Below w.heap.size w w') :
    Calls Try.prog 22 #[.slice A n c] w R := by
  have HR := Lib.hid hR; clear hR
  have hs1 := run_str w A 8 c (l.take 8) (by rw [List.length_take, hn]; omega) (rd_take hA 8)
  rw [hs] at hs1
  have hcmp : ((strOfNums jsign).toList == ([116, 111, 109, 101, 32, 106, 110, 108] : List UInt8)) = true := by
    rw [jsign_const]; rfl
  obtain ⟨b, off, rfl, _, hcells⟩ := hA.at (by rw [hn]; omega)
  clear hcells hs
  have hc8 : 8 ≤ c := by omega
  have hc28 : 28 ≤ c := by omega
  have HN := Lib.hid hn; clear hn
  have HA := Lib.hid hA; clear hA
  have HB := Lib.hid hB; clear hB
  have HC := Lib.hid hcm
  have HNO := Lib.hid hno; clear hno
  obtain ⟨s0, s1⟩ := four_bd HB.out 8
  obtain ⟨p0, p1⟩ := four_bd HB.out 12
  obtain ⟨k0, k1⟩ := eight_bd HB.out 16
  have r1 := read_at l 8 4 (fourI l 8) (by rw [HN.out]; omega) (by decide) (by decide) rfl
  have r2 := read_at l 12 4 (fourI l 12) (by rw [HN.out]; omega) (by decide) (by decide) rfl
  have r3 := read_at l 16 8 (eightI l 16) (by rw [HN.out]; omega) (by decide) (by decide) rfl
  have HR1 := Lib.hid r1; clear r1
  have HR2 := Lib.hid r2; clear r2
  have HR3 := Lib.hid r3; clear r3
  have hws : IntKind.i64.wrap (fourI l 8) = fourI l 8 := IntWalk.i64_in _ (by omega)
  have hwp : IntKind.i64.wrap (fourI l 12) = fourI l 12 := IntWalk.i64_in _ (by omega)
  go_enter Try.func22, Try.ntmps22
  go_wp2_with fail
  go_step3
  go_wp2_with fail
  refine (read_any _ _ n c l 8 4 HN.out hnc hcm HA.out HB.out (by omega)).mono ?_
  rintro e w1 ⟨rfl, rfl⟩
  simp only [show readL l 8 4 = (fourI l 8, 0) from HR1.out]
  go_wp2_with fail
  refine (read_any _ _ n c l 12 4 HN.out hnc HC.out HA.out HB.out (by omega)).mono ?_
  rintro e w1 ⟨rfl, rfl⟩
  simp only [show readL l 12 4 = (fourI l 12, 0) from HR2.out]
  go_wp2_with fail
  refine (read_any _ _ n c l 16 8 HN.out hnc HC.out HA.out HB.out (by omega)).mono ?_
  rintro e w1 ⟨rfl, rfl⟩
  simp only [show readL l 16 8 = (eightI l 16, 0) from HR3.out]
  go_wp2_with fail
  refine (jStart_any _ (fourI l 8) (fourI l 12) (eightI l 16) (by unfold i64ok; omega) (by unfold i64ok; omega) (by omega)).mono ?_
  rintro e w2 ⟨A2, n2, c2, rfl, h1, h2, h3, h4, h5⟩
  clear hs1 hcmp
  by_cases ho : okStart (fourI l 8) (fourI l 12)
  · have hst : startL (fourI l 8) (fourI l 12) (eightI l 16) = startH (fourI l 8) (fourI l 12) (eightI l 16) := if_pos ho
    have hse : startE (fourI l 8) (fourI l 12) = 0 := if_pos ho
    rw [hst] at h1 h4
    have hne : startH (fourI l 8) (fourI l 12) (eightI l 16) ≠ l.take 28 := fun e => HNO.out ⟨ho, e⟩
    have HX := Lib.hid (startH_isB (fourI l 8) (fourI l 12) (eightI l 16))
    generalize startH (fourI l 8) (fourI l 12) (eightI l 16) = X at h1 h4 hne HX
    simp only [hse]
    have hs2 := fun k => run_str (w2.drewN k) A2 n2 c2 X h1 (h4.keep (below_drewN (Below.refl _ _) k))
    have hs3 := fun k => run_str (w2.drewN k) (some ⟨b, off, none⟩) 28 c (l.take 28) (by rw [List.length_take, HN.out]; omega) (rd_take ((HA.out.keep h5).keep (below_drewN (Below.refl _ _) k)) 28)
    have hcm2 : ((strOfNums X).toList == (strOfNums (l.take 28)).toList) = false := by
      rw [str_beq HX.out (isB_take HB.out 28), beqL_no]
      exact hne
    have HB2 := Lib.hid h5; clear h5 h4 h1 hne hst hse ho
    go_upto_region 9 with fail
    go_quiet (fail)
    clear hs2 hs3
    go_wp2
    rw [Exit.noGoto_ret]
    refine bodyPost_ret (results_tmp4 rfl _ _ _) rfl ?_
    rw [HR.out]
    exact ⟨rfl, below_drewN HB2.out nq⟩
  · have hse : startE (fourI l 8) (fourI l 12) = 1 := if_neg ho
    simp only [hse]
    have HB2 := Lib.hid h5; clear h5 h4 h1 hse ho
    go_upto_region 9 with fail
    go_quiet (fail)
    go_wp2
    rw [Exit.noGoto_ret]
    refine bodyPost_ret (results_tmp4 rfl _ _ _) rfl ?_
    rw [HR.out]
    exact ⟨rfl, below_drewN HB2.out nq⟩
end Go.Proofs.Ytlehpgokjppccaa
