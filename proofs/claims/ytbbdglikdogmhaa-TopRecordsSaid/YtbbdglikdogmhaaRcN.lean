/- Walks: record.Decode, First. -/
import Derived.Test.YtbbdglikdogmhaaRcQ
namespace Go.Proofs.Ytbbdglikdogmhaa
open Go.RowKit
set_option maxRecDepth 100000
set_option linter.unusedVariables false
set_option linter.unusedSimpArgs false
set_option linter.unnecessarySimpa false

def DecVBack (w : World) (r : List Vl × Int) (e : Ending) (w' : World) : Prop :=
  ∃ A m c, e = .returned (.tuple #[.slice A m c, .int .i64 r.2]) ∧ OwnV w' w.heap.size A m c r.1 ∧ Below w.heap.size w w'
theorem OwnV.mono {w : World} {base base' : Nat} {A : Option Addr} {m c : Nat} {F : List Vl} (h : OwnV w base A m c F) (hb : base' ≤ base) : OwnV w base' A m c F := by
  refine ⟨h.1, h.2.1, ?_⟩
  rcases h.2.2 with hv | ⟨g, cap, cur, hv, hbg, rest⟩
  · exact .inl hv
  · exact .inr ⟨g, cap, cur, hv, by omega, rest⟩

set_option maxHeartbeats 8000000 in
theorem dec_any (w : World) (A : Option Addr) (n c : Nat) (l : List Int) (hn : l.length = n) (hnc : n ≤ c) (hcm : c ≤ maxLen) (hA : Rd w A l) (hB : IsB l) (R : Ending → World → Prop) (hR : R = DecVBack w (decV l)) :
    Calls Try.prog 15 #[.slice A n c] w R := by
  have HR := Lib.hid hR; clear hR
  have HL := Lib.hid hn; clear hn
  have HB := Lib.hid hB; clear hB
  have HA := Lib.hid hA; clear hA
  have HC := Lib.hid hcm
  unfold maxLen at hcm
  have hfin : ∀ W z, decV l = ([], z) → Below w.heap.size w W → R (.returned (.tuple #[.slice none 0 0, .int .i64 z])) W := fun W z h1 h2 => by
    rw [HR.out]
    exact ⟨none, 0, 0, by rw [h1], by rw [h1]; exact OwnV.nil _ _, h2⟩
  have HFIN := Lib.hid hfin; clear hfin
  obtain ⟨⟨v, p, z⟩, hH⟩ : ∃ H, headV l = H := ⟨_, rfl⟩
  have HH := Lib.hid hH
  clear hH
  go_enter Try.func15, Try.ntmps15
  go_wp2_with fail
  refine (head_any _ A n c l HL.out hnc HC.out HA.out HB.out).mono ?_
  rintro e w1 ⟨rfl, rfl⟩
  simp only [HH.out]
  by_cases hz : z = 0
  rotate_left
  · have hzb : (z != 0) = true := by simp [hz]
    have HF := Lib.hid (show decV l = ([], z) by unfold decV; rw [HH.out]; exact if_pos hz)
    clear hz
    go_wp2
    exact HFIN.out _ _ HF.out (Below.refl _ _)
  subst hz
  obtain ⟨_, N, q, a1, a2, a3, a4, _⟩ := head_back HB.out (by rw [HH.out])
  rw [HH.out] at a1 a3
  simp only at a1 a3
  subst a1 a3
  rw [HL.out] at a4
  obtain ⟨⟨cs, p2, z⟩, hK⟩ : ∃ K, codesV l N q = K := ⟨_, rfl⟩
  have HK := Lib.hid hK
  clear hK
  go_wp2_with fail
  refine (codes_any _ A n c l HL.out hnc HC.out HA.out HB.out q N a4 a2 _ rfl).mono ?_
  rintro e w2 ⟨E, m, d, rfl, hown2, hb2⟩
  rw [HK.out] at hown2
  simp only [HK.out]
  have HO2 := Lib.hid hown2
  clear hown2
  have hz2 := hb2.size
  by_cases hz : z = 0
  rotate_left
  · have hzb : (z != 0) = true := by simp [hz]
    have HF := Lib.hid (show decV l = ([], z) by
      unfold decV
      rw [HH.out]
      simp only [Int.toNat_natCast]
      rw [HK.out, if_neg (by simp)]
      exact if_pos hz)
    clear hz
    go_wp2
    exact HFIN.out _ _ HF.out hb2
  subst hz
  obtain ⟨q2, b1, b2, b3, b4, b5, _⟩ := codes_back HB.out N q (by rw [HL.out]; exact a4) (by rw [HK.out])
  rw [HK.out] at b1 b4 b5
  simp only at b1 b4 b5
  subst b1
  rw [HL.out] at b3
  have hmN : m = N := by rw [← HO2.out.1]; exact b4
  subst hmN
  have HG := Lib.hid b5
  clear b5
  obtain ⟨⟨vs, p3, z⟩, hV⟩ : ∃ V, valsV l cs q2 = V := ⟨_, rfl⟩
  have HV := Lib.hid hV
  clear hV
  go_wp2_with fail
  refine (bodies_any _ A n c l HL.out hnc HC.out (HA.out.keep hb2) HB.out E m d cs HO2.out.1 a2 HO2.out.rd HG.out q2 m b3 (Nat.le_refl _) _ rfl).mono ?_
  rintro e w3 ⟨D, k, cD, rfl, hown3, hb3⟩
  have htk : cs.take m = cs := List.take_of_length_le (by rw [HO2.out.1]; exact Nat.le_refl _)
  rw [htk, HV.out] at hown3
  simp only [htk, HV.out]
  clear htk
  have hB3 := hb2.trans (hb3.mono hz2)
  have HO3 := Lib.hid (hown3.mono hz2)
  clear hown3 hb3
  by_cases hz : z = 0
  rotate_left
  · have hzb : (z == 0) = false := by simp [hz]
    have hnil : vs = [] := by have := vals_nil l cs q2 (by rw [HV.out]; exact hz); rwa [HV.out] at this
    have HF := Lib.hid (show decV l = ([], z) by
      unfold decV
      rw [HH.out]
      simp only [Int.toNat_natCast]
      rw [HK.out]
      simp only
      rw [HV.out, if_neg (by simp), if_neg (by simp)]
      exact if_pos hz)
    clear hz
    go_wp2
    rw [HR.out]
    exact ⟨D, k, cD, by rw [HF.out], by rw [HF.out, ← hnil]; exact HO3.out, hB3⟩
  subst hz
  obtain ⟨q3, c1, c2, c3, _⟩ := vals_back HB.out cs q2 HG.out (by rw [HL.out]; exact b3) (by rw [HV.out])
  rw [HV.out] at c1
  simp only at c1
  subst c1
  rw [HL.out] at c3
  by_cases hend : q3 = n
  rotate_left
  · have hlt : (q3 : Int) < (n : Int) := by omega
    have HF := Lib.hid (show decV l = ([], 8) by
      unfold decV
      rw [HH.out]
      simp only [Int.toNat_natCast]
      rw [HK.out]
      simp only
      rw [HV.out, if_neg (by simp), if_neg (by simp), if_neg (by simp)]
      exact if_pos (by rw [HL.out]; simp only; omega))
    go_wp2
    exact HFIN.out _ _ HF.out hB3
  · have hlt : ¬ (q3 : Int) < (n : Int) := by omega
    have HF := Lib.hid (show decV l = (vs, 0) by
      unfold decV
      rw [HH.out]
      simp only [Int.toNat_natCast]
      rw [HK.out]
      simp only
      rw [HV.out, if_neg (by simp), if_neg (by simp), if_neg (by simp)]
      exact if_neg (by rw [HL.out]; simp only; omega))
    clear hend
    go_wp2
    rw [HR.out]
    exact ⟨D, k, cD, by rw [HF.out], by rw [HF.out]; exact HO3.out, hB3⟩

set_option maxHeartbeats 8000000 in
theorem first_any (w : World) (A : Option Addr) (n c : Nat) (l : List Int) (hn : l.length = n) (hnc : n ≤ c) (hcm : c ≤ maxLen) (hA : Rd w A l) (hB : IsB l) (t : Int) (ht : i64K t) (R : Ending → World → Prop) (hR : R = DecVBack w (firstV l t)) :
    Calls Try.prog 18 #[.slice A n c, .int .i64 t] w R := by
  have HR := Lib.hid hR; clear hR
  have HL := Lib.hid hn; clear hn
  have HB := Lib.hid hB; clear hB
  have HA := Lib.hid hA; clear hA
  have HC := Lib.hid hcm
  unfold maxLen at hcm
  obtain ⟨t0, t1⟩ := ht
  have hfin : ∀ W z, firstV l t = ([], z) → Below w.heap.size w W → R (.returned (.tuple #[.slice none 0 0, .int .i64 z])) W := fun W z h1 h2 => by
    rw [HR.out]
    exact ⟨none, 0, 0, by rw [h1], by rw [h1]; exact OwnV.nil _ _, h2⟩
  have HFIN := Lib.hid hfin; clear hfin
  by_cases hneg : t < 0
  · have HF := Lib.hid (show firstV l t = ([], 1) from if_pos hneg)
    go_enter Try.func18, Try.ntmps18
    go_wp2
    exact HFIN.out _ _ HF.out (Below.refl _ _)
  have HNEG := Lib.hid hneg
  obtain ⟨⟨v, p, z⟩, hH⟩ : ∃ H, headV l = H := ⟨_, rfl⟩
  have HH := Lib.hid hH
  clear hH
  go_enter Try.func18, Try.ntmps18
  go_wp2_with fail
  refine (head_any _ A n c l HL.out hnc HC.out HA.out HB.out).mono ?_
  rintro e w1 ⟨rfl, rfl⟩
  simp only [HH.out]
  by_cases hz : z = 0
  rotate_left
  · have hzb : (z != 0) = true := by simp [hz]
    have HF := Lib.hid (show firstV l t = ([], z) by unfold firstV; rw [if_neg (by have := HNEG.out; omega), HH.out]; exact if_pos hz)
    clear hz
    go_wp2
    exact HFIN.out _ _ HF.out (Below.refl _ _)
  subst hz
  obtain ⟨_, N, q, a1, a2, a3, a4, _⟩ := head_back HB.out (by rw [HH.out])
  rw [HH.out] at a1 a3
  simp only at a1 a3
  subst a1 a3
  rw [HL.out] at a4
  by_cases hfew : (N : Int) < t
  · have HF := Lib.hid (show firstV l t = ([], 4) by unfold firstV; rw [if_neg (by have := HNEG.out; omega), HH.out, if_neg (by simp)]; exact if_pos hfew)
    go_wp2
    exact HFIN.out _ _ HF.out (Below.refl _ _)
  obtain ⟨T, rfl⟩ : ∃ T : Nat, t = T := ⟨t.toNat, by omega⟩
  have hTN : T ≤ N := by omega
  obtain ⟨⟨cs, p2, z⟩, hK⟩ : ∃ K, codesV l N q = K := ⟨_, rfl⟩
  have HK := Lib.hid hK
  clear hK
  have HFEW := Lib.hid hfew
  go_wp2_with fail
  refine (codes_any _ A n c l HL.out hnc HC.out HA.out HB.out q N a4 a2 _ rfl).mono ?_
  rintro e w2 ⟨E, m, d, rfl, hown2, hb2⟩
  rw [HK.out] at hown2
  simp only [HK.out]
  have HO2 := Lib.hid hown2
  clear hown2
  have hz2 := hb2.size
  by_cases hz : z = 0
  rotate_left
  · have hzb : (z != 0) = true := by simp [hz]
    have HF := Lib.hid (show firstV l (T : Int) = ([], z) by
      unfold firstV
      rw [HH.out]
      simp only [Int.toNat_natCast]
      rw [HK.out, if_neg (by have := HNEG.out; omega), if_neg (by simp), if_neg (by have := HFEW.out; omega)]
      exact if_pos hz)
    clear hz
    go_wp2
    exact HFIN.out _ _ HF.out hb2
  subst hz
  obtain ⟨q2, b1, b2, b3, b4, b5, _⟩ := codes_back HB.out N q (by rw [HL.out]; exact a4) (by rw [HK.out])
  rw [HK.out] at b1 b4 b5
  simp only at b1 b4 b5
  subst b1
  rw [HL.out] at b3
  have hmN : m = N := by rw [← HO2.out.1]; exact b4
  subst hmN
  have HG := Lib.hid b5
  clear b5
  obtain ⟨⟨vs, p3, z⟩, hV⟩ : ∃ V, valsV l (cs.take T) q2 = V := ⟨_, rfl⟩
  have HV := Lib.hid hV
  clear hV
  go_wp2_with fail
  refine (bodies_any _ A n c l HL.out hnc HC.out (HA.out.keep hb2) HB.out E m d cs HO2.out.1 a2 HO2.out.rd HG.out q2 T b3 hTN _ rfl).mono ?_
  rintro e w3 ⟨D, k, cD, rfl, hown3, hb3⟩
  rw [HV.out] at hown3
  simp only [HV.out]
  have hB3 := hb2.trans (hb3.mono hz2)
  have HO3 := Lib.hid (hown3.mono hz2)
  clear hown3 hb3
  have HF := Lib.hid (show firstV l (T : Int) = (vs, z) by
    unfold firstV
    rw [HH.out]
    simp only [Int.toNat_natCast]
    rw [HK.out]
    simp only
    rw [HV.out, if_neg (by have := HNEG.out; omega), if_neg (by simp), if_neg (by have := HFEW.out; omega), if_neg (by simp)])
  go_wp2
  rw [HR.out]
  exact ⟨D, k, cD, by rw [HF.out], by rw [HF.out]; exact HO3.out, hB3⟩
end Go.Proofs.Ytbbdglikdogmhaa
