/- Walks: RecordEncodes, RecordApart, RecordBegins. -/
import Derived.Test.YtbbdglikdogmhaaRcS
namespace Go.Proofs.Ytbbdglikdogmhaa
open Go.RowKit
set_option maxRecDepth 100000
set_option linter.unusedVariables false
set_option linter.unusedSimpArgs false
set_option linter.unnecessarySimpa false

theorem OwnV.ok_of {F : List Vl} (h : ∀ v ∈ F, VOk v) : ∀ v ∈ F, v.ok := fun v hv => (h v hv).1
theorem body_isB {v : Vl} (h : v.ok) : IsB (bodyV v) := by
  unfold bodyV
  split
  · exact fxL_isB _ _
  · exact h.2.2
theorem flat_isB {L : List (List Int)} (h : ∀ l ∈ L, IsB l) : IsB L.flatten := by
  intro x hx
  obtain ⟨l, hl, hxl⟩ := List.mem_flatten.1 hx
  exact h l hl x hxl
theorem enc_isB {F : List Vl} (h : ∀ v ∈ F, v.ok) : IsB (encV F).1 := by
  unfold encV
  repeat' split
  · intro x hx; simp at hx
  · intro x hx; simp at hx
  · intro x hx; simp at hx
  · intro x hx
    rcases List.mem_append.1 hx with hx | hx
    · rcases List.mem_append.1 hx with hx | hx
      · exact vl_isB _ x hx
      · refine flat_isB (L := F.map fun v => varL (codeV v)) ?_ x hx
        intro l hl
        obtain ⟨v, _, rfl⟩ := List.mem_map.1 hl
        exact vl_isB _
    · refine flat_isB (L := F.map bodyV) ?_ x hx
      intro l hl
      obtain ⟨v, hv, rfl⟩ := List.mem_map.1 hl
      exact body_isB (h v hv)

set_option maxHeartbeats 16000000 in
theorem recordEncodes_walk (w : World) (A : Option Addr) (m c : Nat) (F : List Vl) (hF : F.length = m) (hmc : m ≤ c) (hcm : c ≤ maxLen) (hA : RdVl w A F) (hok : ∀ v ∈ F, VOk v) :
    Calls Try.prog 3 #[.slice A m c] w (RYes w) := by
  have HL := Lib.hid hF; clear hF
  have HA := Lib.hid hA; clear hA
  have HOK := Lib.hid hok; clear hok
  have HC := Lib.hid hcm
  have hmm : m ≤ maxLen := Nat.le_trans hmc hcm
  have HMM := Lib.hid hmm
  go_enter Try.func3, Try.ntmps3
  go_wp2_with fail
  refine (rawake_any _).mono ?_
  rintro e w1 ⟨rfl, hB1⟩
  have hz1 := hB1.size
  go_wp2_with fail
  refine (great_any _ A m c F HL.out hmc HC.out (HA.out.keep hB1) HOK.out).mono ?_
  rintro e w2 ⟨b, rfl, rfl, _⟩
  by_cases hb : b = true
  · subst hb
    go_wp2_with fail
    refine (rawake_any _).mono ?_
    rintro e w2 ⟨rfl, hb2⟩
    have hB2 := hB1.trans (hb2.mono hB1.size)
    go_wp2
    go_ret
    exact ⟨rfl, hB2⟩
  have hb' : b = false := by simpa using hb
  subst hb'
  clear hb
  obtain ⟨⟨L, z⟩, hE⟩ : ∃ E, encV F = E := ⟨_, rfl⟩
  have HE := Lib.hid hE
  clear hE
  go_wp2_with fail
  refine (enc_any _ A m c F HL.out hmc HC.out (HA.out.keep hB1) HOK.out _ rfl).mono ?_
  rintro e w2 ⟨B2, n2, c2, rfl, hown2, hb2⟩
  rw [HE.out] at hown2
  rw [HE.out]
  have hB2 : Below w.heap.size w w2 := hB1.trans (hb2.mono hB1.size)
  have HO2 := Lib.hid hown2
  clear hb2 hown2
  have hz2 := hB2.size
  go_wp2_with fail
  refine (renc_any _ A m c F HL.out hmc HC.out (HA.out.keep hB2) HOK.out _ rfl).mono ?_
  rintro e w3 ⟨B3, n3, c3, rfl, hown3, hb3⟩
  rw [HE.out] at hown3
  rw [HE.out]
  have hB3 : Below w.heap.size w w3 := hB2.trans (hb3.mono hB2.size)
  have HO3 := Lib.hid hown3
  have HO2' := Lib.hid (HO2.out.keep hb3)
  clear hb3 hown3 HO2
  have hz3 := hB3.size
  have hzz : (z != z) = false := by simp
  have hn2 : n2 ≤ 9223372036854775807 := by have := HO2'.out.cap; unfold maxLen at this; omega
  go_wp2_with fail
  refine (same1_any _ B2 B3 n2 c2 n3 c3 L L HO2'.out.len HO3.out.len hn2 HO2'.out.rd HO3.out.rd).mono ?_
  rintro e w4 ⟨rfl, hb4⟩
  simp only [beqL_self]
  have hB4 : Below w.heap.size w w4 := hB3.trans (hb4.mono hB3.size)
  have HO2 := Lib.hid (HO2'.out.keep hb4)
  have HN3 := Lib.hid HO3.out.len
  clear hb4 HO2' HO3
  have hz4 := hB4.size
  go_wp2_with fail
  refine (size_any _ A m c F HL.out hmc HC.out (HA.out.keep hB4) HOK.out).mono ?_
  rintro e w5 ⟨rfl, hb5⟩
  rw [HE.out]
  have hll : L.length = n3 := HN3.out
  rw [hll]
  clear hll
  have hnn : ((n3 : Int) != (n3 : Int)) = false := by simp
  have hB5 : Below w.heap.size w w5 := hB4.trans (hb5.mono hB4.size)
  have HO2' := Lib.hid (HO2.out.keep hb5)
  clear hb5 HO2
  have hz5 := hB5.size
  by_cases h0 : z = 0
  rotate_left
  · have h0b : (z != 0) = true := by simp [h0]
    go_wp2
    go_ret
    exact ⟨rfl, hB5⟩
  subst h0
  have hdec : decV L = (F, 0) := by
    have := dec_enc (F := F) (by rw [HE.out]) (OwnV.ok_of HOK.out)
    rwa [HE.out] at this
  have HDEC := Lib.hid hdec
  clear hdec
  have HLB := Lib.hid (show IsB L by have := enc_isB (OwnV.ok_of HOK.out); rwa [HE.out] at this)
  go_wp2_with fail
  refine (dec_any _ B2 n2 c2 L HO2'.out.len HO2'.out.cap.1 HO2'.out.cap.2 HO2'.out.rd HLB.out _ rfl).mono ?_
  rintro e w6 ⟨D, k, cD, rfl, hown6, hb6⟩
  rw [HDEC.out] at hown6
  rw [HDEC.out]
  have hB6 : Below w.heap.size w w6 := hB5.trans (hb6.mono hB5.size)
  have HO6 := Lib.hid hown6
  clear hb6 hown6 HO2'
  have hz6 := hB6.size
  go_wp2_with fail
  refine (vsame_any _ D A k cD m c F F HO6.out.1 HL.out (Nat.le_trans HO6.out.cap.1 HO6.out.cap.2) HO6.out.rd (HA.out.keep hB6) (OwnV.ok_of HOK.out) (OwnV.ok_of HOK.out)).mono ?_
  rintro e w7 ⟨rfl, hb7⟩
  simp only [decide_true]
  have hB7 : Below w.heap.size w w7 := hB6.trans (hb7.mono hB6.size)
  go_wp2
  go_ret
  exact ⟨rfl, hB7⟩

set_option maxHeartbeats 16000000 in
theorem recordApart_walk (w : World) (A : Option Addr) (m c : Nat) (F : List Vl) (A' : Option Addr) (m' c' : Nat) (G : List Vl) (hF : F.length = m) (hmc : m ≤ c) (hcm : c ≤ maxLen) (hA : RdVl w A F) (hok : ∀ v ∈ F, VOk v) (hG : G.length = m') (hmc' : m' ≤ c') (hcm' : c' ≤ maxLen) (hA' : RdVl w A' G) (hok' : ∀ v ∈ G, VOk v) :
    Calls Try.prog 5 #[.slice A m c, .slice A' m' c'] w (RYes w) := by
  have HL := Lib.hid hF; clear hF
  have HA := Lib.hid hA; clear hA
  have HOK := Lib.hid hok; clear hok
  have HC := Lib.hid hcm
  have HL' := Lib.hid hG; clear hG
  have HA' := Lib.hid hA'; clear hA'
  have HOK' := Lib.hid hok'; clear hok'
  have HC' := Lib.hid hcm'
  have hmm : m ≤ maxLen := Nat.le_trans hmc hcm
  have HMM := Lib.hid hmm
  have main : ∀ (w1 : World), Below w.heap.size w w1 → Calls Try.prog 9 #[] w1 (RYes w1) := fun w1 _ => rawake_any _
  clear main
  go_enter Try.func5, Try.ntmps5
  go_wp2_with fail
  refine (rawake_any _).mono ?_
  rintro e w1 ⟨rfl, hB1⟩
  have hz1 := hB1.size
  go_wp2_with fail
  refine (great_any _ A m c F HL.out hmc HC.out (HA.out.keep hB1) HOK.out).mono ?_
  rintro e w2 ⟨b, rfl, rfl, _⟩
  by_cases hb : b = true
  · subst hb
    go_wp2_with fail
    refine (rawake_any _).mono ?_
    rintro e w2 ⟨rfl, hb2⟩
    have hB2 := hB1.trans (hb2.mono hB1.size)
    go_wp2
    go_ret
    exact ⟨rfl, hB2⟩
  have hb' : b = false := by simpa using hb
  subst hb'
  clear hb
  go_wp2_with fail
  refine (great_any _ A' m' c' G HL'.out hmc' HC'.out (HA'.out.keep hB1) HOK'.out).mono ?_
  rintro e w2 ⟨b, rfl, rfl, _⟩
  by_cases hb : b = true
  · subst hb
    go_wp2_with fail
    refine (rawake_any _).mono ?_
    rintro e w2 ⟨rfl, hb2⟩
    have hB2 := hB1.trans (hb2.mono hB1.size)
    go_wp2
    go_ret
    exact ⟨rfl, hB2⟩
  have hb' : b = false := by simpa using hb
  subst hb'
  clear hb
  obtain ⟨⟨L, z⟩, hE⟩ : ∃ E, encV F = E := ⟨_, rfl⟩
  have HE := Lib.hid hE
  clear hE
  obtain ⟨⟨L', z'⟩, hE⟩ : ∃ E, encV G = E := ⟨_, rfl⟩
  have HE' := Lib.hid hE
  clear hE
  go_wp2_with fail
  refine (enc_any _ A m c F HL.out hmc HC.out (HA.out.keep hB1) HOK.out _ rfl).mono ?_
  rintro e w2 ⟨B2, n2, c2, rfl, hown2, hb2⟩
  rw [HE.out] at hown2
  rw [HE.out]
  have hB2 : Below w.heap.size w w2 := hB1.trans (hb2.mono hB1.size)
  have HO2 := Lib.hid hown2
  clear hb2 hown2
  have hz2 := hB2.size
  go_wp2_with fail
  refine (enc_any _ A' m' c' G HL'.out hmc' HC'.out (HA'.out.keep hB2) HOK'.out _ rfl).mono ?_
  rintro e w3 ⟨B3, n3, c3, rfl, hown3, hb3⟩
  rw [HE'.out] at hown3
  rw [HE'.out]
  have hB3 : Below w.heap.size w w3 := hB2.trans (hb3.mono hB2.size)
  have HO3 := Lib.hid hown3
  have HO2' := Lib.hid (HO2.out.keep hb3)
  clear hb3 hown3 HO2
  have hz3 := hB3.size
  by_cases h0 : z = 0
  rotate_left
  · have h0b : (z != 0) = true := by simp [h0]
    go_wp2
    go_ret
    exact ⟨rfl, hB3⟩
  by_cases h0' : z' = 0
  rotate_left
  · have h0b : (z' != 0) = true := by simp [h0']
    subst h0
    go_wp2
    go_ret
    exact ⟨rfl, hB3⟩
  subst h0 h0'
  have hn2 : n2 ≤ 9223372036854775807 := by have := HO2'.out.cap; unfold maxLen at this; omega
  have heq : beqL L L' = decide (F = G) := by
    have d1 := dec_enc (F := F) (by rw [HE.out]) (OwnV.ok_of HOK.out)
    have d2 := dec_enc (F := G) (by rw [HE'.out]) (OwnV.ok_of HOK'.out)
    rw [HE.out] at d1
    rw [HE'.out] at d2
    simp only at d1 d2
    by_cases h : F = G
    · subst h
      have := HE.out.symm.trans HE'.out
      injection this with e1 e2
      subst e1
      simp [beqL]
    · have hne : L ≠ L' := by
        rintro rfl
        have := d1.symm.trans d2
        injection this with e1 e2
        exact h e1
      simp [beqL, h, hne]
  obtain ⟨q, hq⟩ : ∃ q, decide (F = G) = q := ⟨_, rfl⟩
  rw [hq] at heq
  have HEQ := Lib.hid heq
  have HQ := Lib.hid hq
  clear heq hq
  go_wp2_with fail
  refine (same1_any _ B2 B3 n2 c2 n3 c3 L L' HO2'.out.len HO3.out.len hn2 HO2'.out.rd HO3.out.rd).mono ?_
  rintro e w4 ⟨rfl, hb4⟩
  rw [HEQ.out]
  have hB4 : Below w.heap.size w w4 := hB3.trans (hb4.mono hB3.size)
  clear hb4
  have hz4 := hB4.size
  go_wp2_with fail
  refine (vsame_any _ A A' m c m' c' F G HL.out HL'.out HMM.out (HA.out.keep hB4) (HA'.out.keep hB4) (OwnV.ok_of HOK.out) (OwnV.ok_of HOK'.out)).mono ?_
  rintro e w7 ⟨rfl, hb7⟩
  rw [HQ.out]
  have hqq : (q == q) = true := by simp
  have hB7 : Below w.heap.size w w7 := hB4.trans (hb7.mono hB4.size)
  go_wp2
  go_ret
  exact ⟨rfl, hB7⟩
end Go.Proofs.Ytbbdglikdogmhaa
