/- The walks of RecordDecodes and RecordFirsts. -/
import Derived.Test.YtbbdglikdogmhaaRcY
import Derived.Test.YtbbdglikdogmhaaRcU
namespace Go.Proofs.Ytbbdglikdogmhaa
open Go.RowKit
set_option maxRecDepth 100000
set_option linter.unusedVariables false
set_option linter.unusedSimpArgs false
set_option linter.unnecessarySimpa false

theorem dec_vok {l : List Int} (hB : IsB l) : ∀ v ∈ (decV l).1, VOk v := by
  intro v hv
  by_cases h : (decV l).2 = 0
  · have := (enc_dec hB h).2 v hv
    refine ⟨this.2, ?_⟩
    have := wrong_len this.1
    unfold maxLen; omega
  · exfalso
    revert hv h
    unfold decV
    intro hv h
    repeat' split at hv
    all_goals first | (simp at hv; done) | skip
    repeat' split at h
    all_goals first | contradiction | (exact absurd rfl h)
theorem vals_ok_all {l : List Int} (hB : IsB l) (cs : List Int) (a : Nat) (hg : GoodC cs) (ha : a ≤ l.length) : ∀ v ∈ (valsV l cs a).1, v.ok := by
  intro v hv
  by_cases h : (valsV l cs a).2.2 = 0
  · obtain ⟨q, _, _, _, _, _, _, h7⟩ := vals_back hB cs a hg ha h
    exact (h7 v hv).2
  · rw [vals_nil l cs a h] at hv
    simp at hv
theorem first_ok {l : List Int} (hB : IsB l) (t : Int) : ∀ v ∈ (firstV l t).1, v.ok := by
  intro v hv
  by_cases ht : t < 0
  · unfold firstV at hv; rw [if_pos ht] at hv; simp at hv
  by_cases hl : 16384 < l.length
  · have h3 : headV l = (0, 0, 3) := if_pos hl
    unfold firstV at hv; rw [if_neg ht, h3, if_pos (by decide)] at hv; simp at hv
  rw [first_heads ht hl] at hv
  by_cases hz : (headsV l t).2.2 = 0
  · rw [if_neg (by simp [hz])] at hv
    obtain ⟨q, a1, a2, a3, a4, a5⟩ := heads_back hB t hz
    rw [a1] at hv
    exact vals_ok_all hB _ q (fun c hc => a5 c (List.mem_of_mem_take hc)) a2 v hv
  · rw [if_pos hz] at hv; simp at hv

set_option maxHeartbeats 16000000 in
theorem recordFirsts_walk (w : World) (A : Option Addr) (n c : Nat) (l : List Int) (t : Int) (hn : l.length = n) (hnc : n ≤ c) (hcm : c ≤ maxLen) (hA : Rd w A l) (hB : IsB l) (ht : -9223372036854775808 ≤ t ∧ t ≤ 9223372036854775807) :
    Calls Try.prog 6 #[.slice A n c, .int .i64 t] w (RYes w) := by
  have HL := Lib.hid hn; clear hn
  have HB := Lib.hid hB; clear hB
  have HA := Lib.hid hA; clear hA
  have HC := Lib.hid hcm
  have hT : i64K t := ht
  have HT := Lib.hid hT; clear hT
  go_enter Try.func6, Try.ntmps6
  go_wp2_with fail
  refine (rawake_any _).mono ?_
  rintro e w1 ⟨rfl, hB1⟩
  have hz1 := hB1.size
  by_cases hbig : (20000 : Int) < (n : Int)
  · go_wp2_with fail
    refine (rawake_any _).mono ?_
    rintro e w2 ⟨rfl, hb2⟩
    have hB2 := hB1.trans (hb2.mono hB1.size)
    go_wp2
    go_ret
    exact ⟨rfl, hB2⟩
  obtain ⟨⟨F, z⟩, hF⟩ : ∃ E, firstV l t = E := ⟨_, rfl⟩
  have HFo := Lib.hid (first_ok HB.out t)
  rw [hF] at HFo
  have HF := Lib.hid hF
  clear hF
  go_wp2_with fail
  refine (first_any _ A n c l HL.out hnc HC.out (HA.out.keep hB1) HB.out t HT.out _ rfl).mono ?_
  rintro e w2 ⟨D, k, cD, rfl, hown2, hb2⟩
  rw [HF.out] at hown2
  simp only [HF.out]
  have hB2 : Below w.heap.size w w2 := hB1.trans (hb2.mono hB1.size)
  have HO2 := Lib.hid hown2
  clear hb2 hown2
  have hz2 := hB2.size
  go_wp2_with fail
  refine (rfirst_any _ A n c l HL.out hnc HC.out (HA.out.keep hB2) HB.out t HT.out _ rfl).mono ?_
  rintro e w3 ⟨D', k', cD', rfl, hown3, hb3⟩
  rw [HF.out] at hown3
  simp only [HF.out]
  have hB3 : Below w.heap.size w w3 := hB2.trans (hb3.mono hB2.size)
  have HO3 := Lib.hid hown3
  have HO2' := Lib.hid (HO2.out.keep hb3)
  clear hb3 hown3 HO2
  have hz3 := hB3.size
  have hzz : (z == z) = true := by simp
  go_wp2_with fail
  refine (vsame_any _ D D' k cD k' cD' F F HO2'.out.1 HO3.out.1 (Nat.le_trans HO2'.out.cap.1 HO2'.out.cap.2) HO2'.out.rd HO3.out.rd HFo.out HFo.out).mono ?_
  rintro e w7 ⟨rfl, hb7⟩
  simp only [decide_true]
  have hB7 : Below w.heap.size w w7 := hB3.trans (hb7.mono hB3.size)
  go_wp2
  go_ret
  exact ⟨rfl, hB7⟩

set_option maxHeartbeats 16000000 in
theorem recordDecodes_walk (w : World) (A : Option Addr) (n c : Nat) (l : List Int) (hn : l.length = n) (hnc : n ≤ c) (hcm : c ≤ maxLen) (hA : Rd w A l) (hB : IsB l) :
    Calls Try.prog 4 #[.slice A n c] w (RYes w) := by
  have HL := Lib.hid hn; clear hn
  have HB := Lib.hid hB; clear hB
  have HA := Lib.hid hA; clear hA
  have HC := Lib.hid hcm
  go_enter Try.func4, Try.ntmps4
  go_wp2_with fail
  refine (rawake_any _).mono ?_
  rintro e w1 ⟨rfl, hB1⟩
  have hz1 := hB1.size
  by_cases hbig : (20000 : Int) < (n : Int)
  · go_wp2_with fail
    refine (rawake_any _).mono ?_
    rintro e w2 ⟨rfl, hb2⟩
    have hB2 := hB1.trans (hb2.mono hB1.size)
    go_wp2
    go_ret
    exact ⟨rfl, hB2⟩
  have hn2 : n ≤ 20000 := by omega
  obtain ⟨⟨F, z⟩, hF⟩ : ∃ E, decV l = E := ⟨_, rfl⟩
  have HFo := Lib.hid (dec_vok HB.out)
  rw [hF] at HFo
  have HF := Lib.hid hF
  clear hF
  have hba : Below w1.heap.size w1 (w1.alloc (.cells #[] 5)) := (Below.refl _ _).alloc (Nat.le_refl _) _
  go_upto_region 3 with fail
  iterate 7 go_step
  refine wp_append rfl (.tmp 18) (.tmp 19) rfl w1.heap.size _ _ _ [] rfl (OwnB.lit w1 #[] [] _ 0 rfl rfl (Nat.le_refl _) (by decide)) A n c l rfl HL.out ((HA.out.keep hB1).keep hba) (by omega) (by simp) ?_
  intro A2 c2 w2 hown2 _ hb2'
  have hb2 : Below w1.heap.size w1 w2 := hba.trans hb2'
  simp only [List.nil_append, Nat.zero_add] at hown2 ⊢
  have HO2 := Lib.hid hown2
  clear hown2 hb2' hba
  have hB2 : Below w.heap.size w w2 := hB1.trans (hb2.mono hB1.size)
  clear hb2
  have hz2 := hB2.size
  go_wp2_with fail
  refine (dec_any _ A2 n c2 l HL.out HO2.out.cap.1 HO2.out.cap.2 HO2.out.rd HB.out _ rfl).mono ?_
  rintro e w3 ⟨D, k, cD, rfl, hown3, hb3⟩
  rw [HF.out] at hown3
  simp only [HF.out]
  have hB3 : Below w.heap.size w w3 := hB2.trans (hb3.mono hB2.size)
  have HO3 := Lib.hid hown3
  have HO2' := Lib.hid (HO2.out.keep hb3)
  clear hb3 hown3 HO2
  have hz3 := hB3.size
  go_wp2_with fail
  refine (rdec_any _ A n c l HL.out hnc HC.out (HA.out.keep hB3) HB.out _ rfl).mono ?_
  rintro e w4 ⟨D', k', cD', rfl, hown4, hb4⟩
  rw [HF.out] at hown4
  simp only [HF.out]
  have hB4 : Below w.heap.size w w4 := hB3.trans (hb4.mono hB3.size)
  have HO4 := Lib.hid hown4
  have HO3' := Lib.hid (HO3.out.keep hb4)
  have HO2 := Lib.hid (HO2'.out.keep hb4)
  clear hb4 hown4 HO3 HO2'
  have hz4 := hB4.size
  have hzz : (z != z) = false := by simp
  go_wp2_with fail
  refine (vsame_any _ D D' k cD k' cD' F F HO3'.out.1 HO4.out.1 (Nat.le_trans HO3'.out.cap.1 HO3'.out.cap.2) HO3'.out.rd HO4.out.rd (OwnV.ok_of HFo.out) (OwnV.ok_of HFo.out)).mono ?_
  rintro e w5 ⟨rfl, hb5⟩
  simp only [decide_true]
  have hB5 : Below w.heap.size w w5 := hB4.trans (hb5.mono hB4.size)
  have HO3 := Lib.hid (HO3'.out.keep hb5)
  have HO2' := Lib.hid (HO2.out.keep hb5)
  clear hb5 HO3' HO4 HO2
  have hz5 := hB5.size
  have hn9 : n ≤ 9223372036854775807 := by omega
  go_wp2_with fail
  refine (same1_any _ A2 A n c2 n c l l HL.out HL.out hn9 HO2'.out.rd (HA.out.keep hB5)).mono ?_
  rintro e w6 ⟨rfl, hb6⟩
  simp only [beqL_self]
  have hB6 : Below w.heap.size w w6 := hB5.trans (hb6.mono hB5.size)
  have HO3' := Lib.hid (HO3.out.keep hb6)
  clear hb6 HO3 HO2'
  have hz6 := hB6.size
  by_cases h0 : z = 0
  rotate_left
  · have h0b : (z != 0) = true := by simp [h0]
    go_wp2
    go_ret
    exact ⟨rfl, hB6⟩
  subst h0
  have HE := Lib.hid (show encV F = (l, 0) by have := (enc_dec HB.out (by rw [HF.out])).1; rwa [HF.out] at this)
  go_wp2_with fail
  refine (enc_any _ D k cD F HO3'.out.1 HO3'.out.cap.1 HO3'.out.cap.2 HO3'.out.rd HFo.out _ rfl).mono ?_
  rintro e w7 ⟨B7, n7, c7, rfl, hown7, hb7⟩
  rw [HE.out] at hown7
  rw [HE.out]
  have hB7 : Below w.heap.size w w7 := hB6.trans (hb7.mono hB6.size)
  have HO7 := Lib.hid hown7
  clear hb7 hown7 HO3'
  have hz7 := hB7.size
  have hn7 : n7 ≤ 9223372036854775807 := by have := HO7.out.cap; unfold maxLen at this; omega
  go_wp2_with fail
  refine (same1_any _ B7 A n7 c7 n c l l HO7.out.len HL.out hn7 HO7.out.rd (HA.out.keep hB7)).mono ?_
  rintro e w8 ⟨rfl, hb8⟩
  simp only [beqL_self]
  have hB8 : Below w.heap.size w w8 := hB7.trans (hb8.mono hB7.size)
  go_wp2
  go_ret
  exact ⟨rfl, hB8⟩
end Go.Proofs.Ytbbdglikdogmhaa
