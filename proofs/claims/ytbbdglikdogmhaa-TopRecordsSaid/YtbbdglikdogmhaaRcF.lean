/- Walk: record.Encode, Size. -/
import Derived.Test.YtbbdglikdogmhaaRcE
import Derived.Test.YtbbdglikdogmhaaNumC
namespace Go.Proofs.Ytbbdglikdogmhaa
open Go.RowKit
set_option maxRecDepth 100000
set_option linter.unusedVariables false
set_option linter.unusedSimpArgs false
set_option linter.unnecessarySimpa false

theorem vput (w : World) (n : Int) (hn : -9223372036854775808 ≤ n ∧ n ≤ 9223372036854775807) :
    Calls Try.prog 25 #[.int .i64 n] w fun e w' => ∃ A m c, e = .returned (.slice A m c) ∧ OwnB w' w.heap.size A m c (varL n) ∧ Below w.heap.size w w' := by
  refine (varint_any w n hn).mono ?_
  rintro e w' ⟨A, m, c, rfl, h1, h2⟩
  exact ⟨A, m, c, rfl, h1, h2⟩

theorem VlAt.grown {w w' : World} {g : Nat} {v : Vl} {B : Option Addr} {n c : Nat} (h : VlAt w g v) (hg : w.grownBy w' (Value.ownBlock (.slice B n c))) (hB : ∀ x, B = some x → x.block ≠ g) : VlAt w' g v := by
  have hlt := World.block_lt_of_cell? _ _ h.1
  have hs : w'.heap[g]? = w.heap[g]? := by
    refine hg.block g hlt ?_
    intro e
    cases B with
    | none => simp [Value.ownBlock] at e
    | some x =>
      simp only [Value.ownBlock, Option.some.injEq] at e
      exact hB x rfl e.symm
  have hc : ∀ o, w'.cell? ⟨g, o, none⟩ = w.cell? ⟨g, o, none⟩ := fun o => by unfold World.cell?; rw [hs]
  exact ⟨(hc 0).trans h.1, (hc 1).trans h.2.1, (hc 2).trans h.2.2⟩
theorem OwnB.below_blk {w : World} {base : Nat} {A : Option Addr} {n c : Nat} {l : List Int} (h : OwnB w base A n c l) : ∀ x, A = some x → x.block < w.heap.size := by
  intro x hx
  rcases h.form with ⟨rfl, _, _⟩ | ⟨g, cur, rfl, h1, h2, _⟩
  · cases hx
  · injection hx with hx
    subst hx
    exact (Array.getElem?_eq_some_iff.1 h2).1

set_option maxHeartbeats 16000000 in
theorem enc_any (w : World) (A : Option Addr) (m c : Nat) (F : List Vl) (hF : F.length = m) (hmc : m ≤ c) (hcm : c ≤ maxLen) (hA : RdVl w A F) (hok : ∀ v ∈ F, VOk v) (R : Ending → World → Prop) (hR : R = EncVB w (encV F).1 (encV F).2) :
    Calls Try.prog 11 #[.slice A m c] w R := by
  have HR := Lib.hid hR; clear hR
  have HL := Lib.hid hF; clear hF
  have HA := Lib.hid hA; clear hA
  have HOK := Lib.hid hok; clear hok
  unfold maxLen at hcm
  by_cases hm : 64 < m
  · have he : encV F = ([], 3) := if_pos (by rw [HL.out]; exact hm)
    have HE := Lib.hid he; clear he
    go_enter Try.func11, Try.ntmps11
    go_wp2
    rw [HR.out]
    exact ⟨none, 0, 0, by rw [HE.out]; rfl, by rw [HE.out]; exact OwnB.nil _ _, Below.refl _ _⟩
  go_enter Try.func11, Try.ntmps11
  go_wp2_with fail
  refine (vput _ (m : Int) (by omega)).mono ?_
  rintro e w1 ⟨B1, n1, c1, rfl, hown1, hb1⟩
  have HO1 := Lib.hid hown1
  clear hown1
  go_wp2_with fail
  go_loopw [4, 5, 19] (fun b t i wr => ∃ (j : Nat) (B : Option Addr) (n c : Nat), j ≤ m ∧ i = .int .i64 j ∧ b = .slice B n c ∧ t = .int .i64 (((bodiesB (F.take j)).length : Nat) : Int) ∧ Hid (firstW (F.take j) = 0) ∧ Hid (OwnB wr w.heap.size B n c (varL (m : Int) ++ codesB (F.take j))) ∧ Below w.heap.size w wr) (fun _ _ i _ => m - (intOf i).toNat)
  case atStart => exact ⟨0, B1, n1, c1, Nat.zero_le _, rfl, rfl, rfl, Lib.hid rfl, Lib.hid (by simpa [codesB] using HO1.out), hb1⟩
  case round =>
    obtain ⟨j, B, n, cB, hj, rfl, rfl, rfl, HF0, HO, hb⟩ := hrel
    have HALL := Lib.hid (firstW_all HF0.out)
    have hlen : n ≤ 650 := by
      have h1 := HO.out.len
      have h2 := codesB_len HALL.out
      have h3 : (varL (m : Int)).length ≤ 10 := varL_len (by omega)
      rw [List.length_append] at h1
      have h4 : (F.take j).length ≤ 64 := by rw [List.length_take]; omega
      omega
    have hbl : (bodiesB (F.take j)).length ≤ 262144 := by
      have h2 := bodiesB_len HALL.out
      have h4 : (F.take j).length ≤ 64 := by rw [List.length_take]; omega
      omega
    have hz := hb.size
    have HBK := Lib.hid HO.out.below_blk
    by_cases hlt : j < m
    · obtain ⟨b0, o0, hA', hcell⟩ := (HA.out.keep hb).at (by rw [HL.out]; omega)
      have hcj := hcell j (by rw [HL.out]; exact hlt)
      subst hA'
      clear hcell
      obtain ⟨v, hv⟩ : ∃ v, vl_ F j = v := ⟨_, rfl⟩
      have HV := Lib.hid hv
      rw [hv] at hcj
      have hvok : VOk v := by rw [← hv]; exact HOK.out _ (vl_mem (by rw [HL.out]; exact hlt))
      clear hv
      have HVO := Lib.hid hvok
      clear hvok
      have HC := Lib.hid hcj
      clear hcj
      have i0 : (0 : Int) ≤ (j : Int) := by omega
      have i1 : (j : Int) < (m : Int) := by omega
      obtain ⟨t, ht⟩ : ∃ t, (bodiesB (F.take j)).length = t := ⟨_, rfl⟩
      have HTT := Lib.hid ht
      rw [ht] at hbl ⊢
      clear ht
      obtain ⟨W3, hW3⟩ : ∃ W, W = wr.alloc (.cells #[.int .i64 0, .int .i64 0, .string ⟨#[]⟩] 49) := ⟨_, rfl⟩
      have hb3 : Below wr.heap.size wr W3 := by rw [hW3]; exact (Below.refl _ _).alloc (Nat.le_refl _) _
      have HTH := Lib.hid (show W3.there wr.heap.size 0 3 by
        rw [hW3]
        intro j hj
        rcases (by omega : j = 0 ∨ j = 1 ∨ j = 2) with rfl | rfl | rfl <;> simp [go_sem])
      have HW := Lib.hid hW3
      go_upto_region 7 with fail
      iterate 4 go_step
      refine wp_load_vlm rfl _ rfl b0 (o0 + j * 3) v rfl HC.out ?_
      iterate 3 go_step
      rw [← hW3]
      clear hW3 HW
      refine wp_store_vl rfl _ _ rfl wr.heap.size v rfl rfl HTH.out ?_
      obtain ⟨W4, hW4⟩ : ∃ W, W = W3.setCells wr.heap.size 0 (vlC v) := ⟨_, rfl⟩
      have hb4 : Below wr.heap.size wr W4 := by rw [hW4]; exact below_setCellsV hb3 (Nat.le_refl _) _ _
      have HV4 := Lib.hid (show VlAt W4 wr.heap.size v by rw [hW4]; exact VlAt.stored HTH.out v)
      rw [← hW4]
      clear hW4 hb3 HTH
      have HO4 := Lib.hid (HO.out.keep hb4)
      have hB4 := hb.trans (hb4.mono hz)
      have hz4 := hB4.size
      clear hb4 HC
      go_upto_region 8 with fail
      go_step
      refine wp_load_vl rfl _ rfl wr.heap.size v rfl HV4.out ?_
      go_wp2_with fail
      refine (vcheck_any _ v HVO.out.1 HVO.out.2).mono ?_
      rintro e w5 ⟨rfl, hb5⟩
      have HV5 := Lib.hid (HV4.out.keep hb5)
      have HO5 := Lib.hid (HO4.out.keep hb5)
      have hB5 := hB4.trans (hb5.mono hz4)
      have hz5 := hB5.size
      clear hb5 HV4 HO4
      obtain ⟨z, hz'⟩ : ∃ z, wrongV v = z := ⟨_, rfl⟩
      have HZ := Lib.hid hz'
      simp only [hz']
      clear hz'
      by_cases hq : z = 0
      rotate_left
      · have hqb : (z != 0) = true := by simp [hq]
        have hfw : firstW F = z := by
          have := firstW_stop (F := F) (j := j) (by rw [HL.out]; exact hlt) HF0.out (by rw [HV.out, HZ.out]; exact hq)
          rw [this, HV.out, HZ.out]
        have he : encV F = ([], z) := by
          unfold encV
          rw [if_neg (by rw [HL.out]; exact hm), hfw, if_pos hq]
        have HE := Lib.hid he
        clear he hfw hq
        go_wp2
        rw [HR.out]
        exact ⟨none, 0, 0, by rw [HE.out]; rfl, by rw [HE.out]; exact OwnB.nil _ _, hB5⟩
      subst hq
      have hw4 := wrong_len HZ.out
      have hcd := code_bd HZ.out
      go_upto_region 11 with fail
      iterate 4 go_step
      refine wp_load_vl rfl _ rfl wr.heap.size v rfl HV5.out ?_
      go_wp2_with fail
      refine (code_any _ v HVO.out.1 (by omega)).mono ?_
      rintro e w6 ⟨rfl, hb6⟩
      have HV6 := Lib.hid (HV5.out.keep hb6)
      have HO6 := Lib.hid (HO5.out.keep hb6)
      have hB6 := hB5.trans (hb6.mono hz5)
      have hz6 := hB6.size
      clear hb6 HV5 HO5
      go_wp2_with fail
      refine (vput _ (codeV v) (by omega)).mono ?_
      rintro e w7 ⟨A7, m7, c7, rfl, hown7, hb7⟩
      have HV7 := Lib.hid (HV6.out.keep hb7)
      have HO7 := Lib.hid (HO6.out.keep hb7)
      have hB7 := hB6.trans (hb7.mono hz6)
      have hz7 := hB7.size
      have HX7 := Lib.hid hown7
      have hm7 : m7 ≤ 10 := by rw [← hown7.len]; exact varL_len (by omega)
      clear hb7 HV6 HO6 hown7
      dsimp only
      go_step
      refine wp_append rfl (.tmp 28) (.tmp 31) rfl w.heap.size B n cB (varL (m : Int) ++ codesB (F.take j)) rfl HO7.out A7 m7 c7 (varL (codeV v)) rfl HX7.out.len HX7.out.rd (by omega) hz7 ?_
      intro A8 c8 w8 hown8 hgr8 hb8
      have HV8 := Lib.hid (HV7.out.grown hgr8 (fun x hx => by have := HBK.out x hx; omega))
      have HO8 := Lib.hid hown8
      have hB8 := hB7.trans hb8
      have hz8 := hB8.size
      clear hown8 hgr8 hb8 HV7 HO7
      go_upto_region 12 with fail
      iterate 4 go_step
      refine wp_load_vl rfl _ rfl wr.heap.size v rfl HV8.out ?_
      go_wp2_with fail
      refine (body_any _ v HVO.out.1 HVO.out.2).mono ?_
      rintro e w9 ⟨A9, n9, c9, rfl, g1, g2, g3, g4, hb9⟩
      have HO9 := Lib.hid (HO8.out.keep hb9)
      have hB9 := hB8.trans (hb9.mono hz8)
      have hn9 : n9 ≤ 4096 := by rw [← g1]; exact body_len HZ.out
      have HTS := Lib.hid (show (bodiesB (F.take (j + 1))).length = t + n9 by rw [bodiesB_step (by rw [HL.out]; exact hlt), List.length_append, HTT.out, HV.out, g1])
      have HCS := Lib.hid (show codesB (F.take (j + 1)) = codesB (F.take j) ++ varL (codeV v) by rw [codesB_step (by rw [HL.out]; exact hlt), HV.out])
      clear hb9 HV8 HO8 g1 g2 g3 g4
      go_wp2_with fail
      go_roundw
      case rel =>
        refine ⟨j + 1, A8, n + m7, c8, by omega, by go_num, rfl, ?_, Lib.hid (firstW_next (by rw [HL.out]; exact hlt) HF0.out (by rw [HV.out]; exact HZ.out)), ?_, hB9⟩
        · rw [HTS.out]; go_num
        · refine Lib.hid ?_
          rw [HCS.out, ← List.append_assoc]
          exact HO9.out
      case measure => simp [intOf]; omega
    · obtain rfl : j = m := by omega
      have hFt : F.take j = F := List.take_of_length_le (by rw [HL.out]; exact Nat.le_refl _)
      rw [hFt] at HF0 HALL HO hbl ⊢
      clear hFt
      have hhead : varL (j : Int) ++ codesB F = headB F := by unfold headB; rw [HL.out]
      rw [hhead] at HO
      clear hhead
      obtain ⟨t, ht⟩ : ∃ t, (bodiesB F).length = t := ⟨_, rfl⟩
      have HTT := Lib.hid ht
      rw [ht] at hbl ⊢
      clear ht
      by_cases hbig : 16384 < n + t
      · have he : encV F = ([], 3) := by
          unfold encV
          rw [if_neg (by rw [HL.out]; exact hm), if_neg (by simp [HF0.out]), if_pos (by rw [HO.out.len, HTT.out]; exact hbig)]
        have HE := Lib.hid he
        clear he
        go_wp2
        rw [HR.out]
        exact ⟨none, 0, 0, by rw [HE.out]; rfl, by rw [HE.out]; exact OwnB.nil _ _, hb⟩
      have he : encV F = (headB F ++ bodiesB F, 0) := by
        unfold encV
        rw [if_neg (by rw [HL.out]; exact hm), if_neg (by simp [HF0.out]), if_neg (by rw [HO.out.len, HTT.out]; exact hbig)]
      have HE := Lib.hid he
      clear he
      have HOX := Lib.hid (show OwnB wr w.heap.size B n cB (headB F ++ bodiesB (F.take 0)) by simpa [bodiesB] using HO.out)
      go_wp2_with fail
      go_loopw [4, 46] (fun b i wr2 => ∃ (q : Nat) (B : Option Addr) (n c : Nat), q ≤ j ∧ i = .int .i64 q ∧ b = .slice B n c ∧ Hid (OwnB wr2 w.heap.size B n c (headB F ++ bodiesB (F.take q))) ∧ Below w.heap.size w wr2) (fun _ i _ => j - (intOf i).toNat)
      case atStart => exact ⟨0, B, n, cB, Nat.zero_le _, rfl, rfl, Lib.hid HOX.out, hb⟩
      case round =>
        obtain ⟨q, B2, n2, cB2, hq, rfl, rfl, HO2, hb2⟩ := hrel
        have hALLq : ∀ v ∈ F.take q, wrongV v = 0 := fun v hv => HALL.out v (List.mem_of_mem_take hv)
        have hlen2 : n2 ≤ 300000 := by
          have h1 := HO2.out.len
          have h2 := bodiesB_len hALLq
          have h3 := HO.out.len
          rw [List.length_append] at h1
          have h4 : (F.take q).length ≤ 64 := by rw [List.length_take]; omega
          omega
        clear hALLq
        have hz2 := hb2.size
        have HBK2 := Lib.hid HO2.out.below_blk
        by_cases hlt2 : q < j
        · obtain ⟨b0, o0, hA', hcell⟩ := (HA.out.keep hb2).at (by rw [HL.out]; omega)
          have hcj := hcell q (by rw [HL.out]; exact hlt2)
          subst hA'
          clear hcell
          obtain ⟨v, hv⟩ : ∃ v, vl_ F q = v := ⟨_, rfl⟩
          have HV := Lib.hid hv
          rw [hv] at hcj
          have hvok : VOk v := by rw [← hv]; exact HOK.out _ (vl_mem (by rw [HL.out]; exact hlt2))
          have HZ := Lib.hid (show wrongV v = 0 by rw [← hv]; exact HALL.out _ (vl_mem (by rw [HL.out]; exact hlt2)))
          clear hv
          have HVO := Lib.hid hvok
          clear hvok
          have HC := Lib.hid hcj
          clear hcj
          have i0 : (0 : Int) ≤ (q : Int) := by omega
          have i1 : (q : Int) < (j : Int) := by omega
          rename_i wr2
          obtain ⟨W3, hW3⟩ : ∃ W, W = wr.alloc (.cells #[.int .i64 0, .int .i64 0, .string ⟨#[]⟩] 49) := ⟨_, rfl⟩
          have hb3 : Below wr.heap.size wr W3 := by rw [hW3]; exact (Below.refl _ _).alloc (Nat.le_refl _) _
          have HTH := Lib.hid (show W3.there wr.heap.size 0 3 by
            rw [hW3]
            intro j hj
            rcases (by omega : j = 0 ∨ j = 1 ∨ j = 2) with rfl | rfl | rfl <;> simp [go_sem])
          have HW := Lib.hid hW3
          go_upto_region 18 with fail
          iterate 4 go_step
          refine wp_load_vlm rfl _ rfl b0 (o0 + q * 3) v rfl HC.out ?_
          iterate 3 go_step
          rw [← hW3]
          clear hW3 HW
          refine wp_store_vl rfl _ _ rfl wr.heap.size v rfl rfl HTH.out ?_
          obtain ⟨W4, hW4⟩ : ∃ W, W = W3.setCells wr.heap.size 0 (vlC v) := ⟨_, rfl⟩
          have hb4 : Below wr.heap.size wr W4 := by rw [hW4]; exact below_setCellsV hb3 (Nat.le_refl _) _ _
          have HV4 := Lib.hid (show VlAt W4 wr.heap.size v by rw [hW4]; exact VlAt.stored HTH.out v)
          rw [← hW4]
          clear hW4 hb3 HTH
          have HO4 := Lib.hid (HO2.out.keep hb4)
          have hB4 := hb2.trans (hb4.mono hz2)
          have hz4 := hB4.size
          clear hb4 HC
          go_upto_region 19 with fail
          iterate 4 go_step
          refine wp_load_vl rfl _ rfl wr.heap.size v rfl HV4.out ?_
          go_wp2_with fail
          refine (body_any _ v HVO.out.1 HVO.out.2).mono ?_
          rintro e w9 ⟨A9, n9, c9, rfl, g1, g2, g3, g4, hb9⟩
          have HO9 := Lib.hid (HO4.out.keep hb9)
          have hB9 := hB4.trans (hb9.mono hz4)
          have hz9 := hB9.size
          have hn9 : n9 ≤ 4096 := by rw [← g1]; exact body_len HZ.out
          have HG1 := Lib.hid g1
          have HG4 := Lib.hid g4
          have HCS := Lib.hid (show bodiesB (F.take (q + 1)) = bodiesB (F.take q) ++ bodyV v by rw [bodiesB_step (by rw [HL.out]; exact hlt2), HV.out])
          clear hb9 HO4 g1 g2 g3 g4
          dsimp only
          go_step
          refine wp_append rfl (.tmp 50) (.tmp 52) rfl w.heap.size B2 n2 cB2 (headB F ++ bodiesB (F.take q)) rfl HO9.out A9 n9 c9 (bodyV v) rfl HG1.out HG4.out (by omega) hz9 ?_
          intro A8 c8 w8 hown8 hgr8 hb8
          have HO8 := Lib.hid hown8
          have hB8 := hB9.trans hb8
          clear hown8 hgr8 hb8 HO9
          go_wp2_with fail
          go_roundw
          case rel =>
            refine ⟨q + 1, A8, n2 + n9, c8, by omega, by go_num, rfl, ?_, hB8⟩
            refine Lib.hid ?_
            rw [HCS.out, ← List.append_assoc]
            exact HO8.out
          case measure => simp [intOf]; omega
        · obtain rfl : q = j := by omega
          have hFt : F.take q = F := List.take_of_length_le (by rw [HL.out]; exact Nat.le_refl _)
          rw [hFt] at HO2
          clear hFt
          go_wp2_with fail
          rw [HR.out]
          exact ⟨_, _, _, by rw [HE.out]; rfl, by rw [HE.out]; exact HO2.out, hb2⟩

set_option maxHeartbeats 4000000 in
theorem size_any (w : World) (A : Option Addr) (m c : Nat) (F : List Vl) (hF : F.length = m) (hmc : m ≤ c) (hcm : c ≤ maxLen) (hA : RdVl w A F) (hok : ∀ v ∈ F, VOk v) :
    Calls Try.prog 14 #[.slice A m c] w fun e w' => e = .returned (.int .i64 (((encV F).1.length : Nat) : Int)) ∧ Below w.heap.size w w' := by
  have HL := Lib.hid hF; clear hF
  have HA := Lib.hid hA; clear hA
  have HOK := Lib.hid hok; clear hok
  have HC := Lib.hid hcm
  go_enter Try.func14, Try.ntmps14
  go_wp2_with fail
  refine (enc_any _ A m c F HL.out hmc HC.out HA.out HOK.out _ rfl).mono ?_
  rintro e w1 ⟨B, n, d, rfl, hown, hb⟩
  have hn := hown.len
  have HN := Lib.hid hn.symm
  clear hn hown
  go_wp2
  go_ret
  exact ⟨ret_int (by rw [HN.out]), hb⟩
end Go.Proofs.Ytbbdglikdogmhaa
