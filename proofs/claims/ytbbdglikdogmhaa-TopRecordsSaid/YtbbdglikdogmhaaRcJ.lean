/- Walk: record.codes. -/
import Derived.Test.YtbbdglikdogmhaaRcI
namespace Go.Proofs.Ytbbdglikdogmhaa
open Go.RowKit
set_option maxRecDepth 100000
set_option linter.unusedVariables false
set_option linter.unusedSimpArgs false
set_option linter.unnecessarySimpa false

def CodesBack (E : TypeId) (w : World) (r : List Int × Int × Int) (e : Ending) (w' : World) : Prop :=
  ∃ A m c, e = .returned (.tuple #[.slice A m c, .int .i64 r.2.1, .int .i64 r.2.2]) ∧ OwnI E w' w.heap.size A m c r.1 ∧ Below w.heap.size w w'
theorem info_i64 : (Try.prog.info? 2).map (fun i => (i.zero, i.size, i.bytes)) = some (some (.int .i64 0), 1, 8) := by kernel_rfl
theorem glue_err (acc : List Int) (z : Int) (hz : z ≠ 0) : glueI acc ([], 0, z) = ([], 0, z) := if_pos hz
theorem glue_end (acc : List Int) (a : Int) : glueI acc ([], a, 0) = (acc, a, 0) := by unfold glueI; rw [if_neg (by simp)]; simp

set_option maxHeartbeats 8000000 in
theorem codes_any (w : World) (A : Option Addr) (n c : Nat) (l : List Int) (hn : l.length = n) (hnc : n ≤ c) (hcm : c ≤ maxLen) (hA : Rd w A l) (hB : IsB l) (p N : Nat) (hp : p ≤ n) (hN : N ≤ 64) (R : Ending → World → Prop) (hR : R = CodesBack 2 w (codesV l N p)) :
    Calls Try.prog 33 #[.slice A n c, .int .i64 p, .int .i64 N] w R := by
  have HR := Lib.hid hR; clear hR
  have HL := Lib.hid hn; clear hn
  have HB := Lib.hid hB; clear hB
  have HA := Lib.hid hA; clear hA
  have HC := Lib.hid hcm
  unfold maxLen at hcm
  have HS := Lib.hid (glue_nil l N p).symm
  have hfin : ∀ W z, codesV l N p = ([], 0, z) → Below w.heap.size w W → R (.returned (.tuple #[.slice none 0 0, .int .i64 0, .int .i64 z])) W := fun W z h1 h2 => by
    rw [HR.out]
    exact ⟨none, 0, 0, by rw [h1], by rw [h1]; exact OwnI.nil _ _ _, h2⟩
  have HFIN := Lib.hid hfin; clear hfin
  go_enter Try.func33, Try.ntmps33
  go_wp2_with fail
  go_loopw [1, 9, 16] (fun a L i wr => ∃ (j q : Nat) (B : Option Addr) (cB : Nat) (acc : List Int), j ≤ N ∧ i = .int .i64 j ∧ a = .int .i64 q ∧ q ≤ n ∧ L = .slice B j cB ∧ Hid (OwnI 2 wr w.heap.size B j cB acc) ∧ Hid (codesV l N p = glueI acc (codesV l (N - j) q)) ∧ Below w.heap.size w wr) (fun _ _ i _ => N - (intOf i).toNat)
  case atStart => exact ⟨0, p, none, 0, [], Nat.zero_le _, rfl, rfl, hp, rfl, Lib.hid (OwnI.nil _ _ _), HS, Below.refl _ _⟩
  case round =>
    obtain ⟨j, q, B, cB, acc, hj, rfl, rfl, hq, rfl, HO, HE, hb⟩ := hrel
    have hz0 := hb.size
    by_cases hlt : j < N
    · have hk : N - j = (N - (j + 1)) + 1 := by omega
      have HE' := Lib.hid (show codesV l N p = glueI acc (codesV l ((N - (j + 1)) + 1) q) by rw [← hk]; exact HE.out)
      clear hk HE
      have hlt' : (j : Int) < (N : Int) := by omega
      obtain ⟨⟨v, p2, z⟩, hU⟩ : ∃ U, unvL l (q : Int) = U := ⟨_, rfl⟩
      have HU := Lib.hid hU
      clear hU
      go_wp2_with fail
      refine (unv_any _ A n c l (q : Int) HL.out hnc HC.out (HA.out.keep hb) HB.out (by omega)).mono ?_
      rintro e w1 ⟨rfl, rfl⟩
      simp only [HU.out]
      by_cases hz : z = 0
      rotate_left
      · have hzb : (z != 0) = true := by simp [hz]
        have HF := Lib.hid (show codesV l N p = ([], 0, z) by rw [HE'.out, codes_err l _ _ (by rw [HU.out]; exact hz), HU.out, glue_err _ _ hz])
        clear hz
        go_wp2
        exact HFIN.out _ _ HF.out hb
      subst hz
      obtain ⟨q2, e1, e2, e3, e4, e5⟩ := unv_at HB.out q (by rw [HU.out])
      rw [HU.out] at e1 e4 e5
      simp only at e1 e4 e5
      subst e1
      clear e4
      rw [HL.out] at e3
      go_wp2_with fail
      refine (long_any _ v e5).mono ?_
      rintro e w2 ⟨rfl, rfl⟩
      by_cases hbad : badC v
      · simp only [decide_eq_true hbad]
        have HF := Lib.hid (show codesV l N p = ([], 0, 8) by rw [HE'.out, codes_bad l _ _ (by rw [HU.out]) (by rw [HU.out]; exact hbad), glue_err _ _ (by decide)])
        clear hbad
        go_wp2
        exact HFIN.out _ _ HF.out hb
      simp only [decide_eq_false hbad]
      have hlv : longV v = longI v := if_neg hbad
      obtain ⟨t, ht⟩ : ∃ t, longV v = t := ⟨_, rfl⟩
      rw [ht] at hlv ⊢
      have hle := long_le v hbad
      rw [← hlv] at hle
      clear hlv ht
      have HBAD := Lib.hid hbad
      clear hbad
      by_cases hbig : 8209 < v
      · have ht4 : 4096 < t := hle.2 hbig
        have HF := Lib.hid (show codesV l N p = ([], 0, 3) by rw [HE'.out, codes_long l _ _ (by rw [HU.out]) (by rw [HU.out]; exact HBAD.out) (by rw [HU.out]; exact hbig), glue_err _ _ (by decide)])
        clear hle
        go_wp2
        exact HFIN.out _ _ HF.out hb
      have ht4 : ¬ 4096 < t := fun h => hbig (hle.1 h)
      have HF := Lib.hid (show codesV l N p = glueI (acc ++ [v]) (codesV l (N - (j + 1)) q2) by
        rw [HE'.out, codes_ok l _ _ (by rw [HU.out]) (by rw [HU.out]; exact HBAD.out) (by rw [HU.out]; exact hbig), HU.out, glue_glue])
      clear hle hbig
      go_upto_region 12 with fail
      iterate 10 go_step
      refine wp_append_i 61 2 Try.underlying61 info_i64 rfl (.tmp 37) (.tmp 39) rfl w.heap.size B j cB acc rfl (HO.out.keep ((Below.refl _ _).alloc (Nat.le_refl _) _)) _ _ v rfl (by simp [go_sem]) (by omega) (by simp; omega) ?_
      intro A' c' w' hown hb'
      have HO' := Lib.hid hown
      have hB' : Below w.heap.size w w' := (hb.alloc hz0 _).trans hb'
      clear hown hb'
      go_wp2_with fail
      go_roundw
      case rel => exact ⟨j + 1, q2, A', c', acc ++ [v], by omega, by go_num, rfl, e3, rfl, HO', HF, hB'⟩
      case measure => simp [intOf]; omega
    · obtain rfl : j = N := by omega
      have HF := Lib.hid (show codesV l j p = (acc, (q : Int), 0) by rw [HE.out, Nat.sub_self]; exact glue_end acc q)
      clear HE
      go_wp2_with fail
      rw [HR.out]
      exact ⟨_, _, _, by rw [HF.out] <;> rfl, by rw [HF.out]; exact HO.out, hb⟩
end Go.Proofs.Ytbbdglikdogmhaa
