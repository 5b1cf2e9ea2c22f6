/- Walk: tomeref05.Encode. -/
import Derived.Test.YtbbdglikdogmhaaRcF
namespace Go.Proofs.Ytbbdglikdogmhaa
open Go.RowKit
set_option maxRecDepth 100000
set_option linter.unusedVariables false
set_option linter.unusedSimpArgs false
set_option linter.unnecessarySimpa false

theorem rvput (w : World) (n : Int) (hn : -9223372036854775808 ≤ n ∧ n ≤ 9223372036854775807) :
    Calls Try.prog 28 #[.int .i64 n] w fun e w' => ∃ A m c, e = .returned (.slice A m c) ∧ OwnB w' w.heap.size A m c (varL n) ∧ Below w.heap.size w w' := by
  refine (rvarint_any w n hn).mono ?_
  rintro e w' ⟨A, m, c, rfl, h1, h2⟩
  exact ⟨A, m, c, rfl, h1, h2⟩
/-- Two rows of one's own stand apart. -/
def ApartB (A B : Option Addr) : Prop := ∀ x y, A = some x → B = some y → x.block ≠ y.block
theorem OwnB.grownO {w w' : World} {base : Nat} {A B : Option Addr} {n c m d : Nat} {l : List Int} (ho : OwnB w base A n c l) (hap : ApartB A B) (hg : w.grownBy w' (Value.ownBlock (.slice B m d))) : OwnB w' base A n c l := by
  refine ⟨ho.1, ?_⟩
  rcases ho.2 with hv | ⟨g, cap, cur, hv, hbg, hgx, rest⟩
  · exact .inl hv
  · refine .inr ⟨g, cap, cur, hv, hbg, (hg.block g (Array.getElem?_eq_some_iff.1 hgx).1 ?_).trans hgx, rest⟩
    intro e
    have hA : A = some ⟨g, 0, none⟩ := by injection hv
    cases B with
    | none => simp [Value.ownBlock] at e
    | some x =>
      simp only [Value.ownBlock, Option.some.injEq] at e
      exact hap _ x hA rfl e

theorem wp_append2 {ops : Array Oper} {rest : List Oper} {o : Oper} {a : Act} {w : World} {Q : Exit → Act → World → Prop} (hgd : o.guard = none) (s x : Operand)
    (ho : o.op = .call { callee := .builtin .append, args := #[s, x], argTypes := #[25, 25] })
    (base : Nat) (A : Option Addr) (n c : Nat) (l : List Int) (hs : a.eval s = .slice A n c) (hown : OwnB w base A n c l) (B : Option Addr) (m d : Nat) (k : List Int) (hx : a.eval x = .slice B m d) (hk : k.length = m) (hr : Rd w B k)
    (hbytes : n + m ≤ 140737488355328) (hbase : base ≤ w.heap.size)
    (h : ∀ A' c' w', OwnB w' base A' (n + m) c' (l ++ k) → w.grownBy w' (Value.ownBlock (.slice A n c)) → Below base w w' →
      (Value.ownBlock (.slice A' (n + m) c') = Value.ownBlock (.slice A n c) ∨ Value.ownBlock (.slice A' (n + m) c') = some w.heap.size) → wpList Try.prog ops Q rest (a.put o.dst (.slice A' (n + m) c')) w') : wpList Try.prog ops Q (o :: rest) a w := by
  obtain ⟨A', c', w', hrun, h2, h3, h4⟩ := run_append_bytes w base A n c l hown B m d k hk hr hbytes hbase o.type
  have hb : Below base w w' := (Below.refl _ _).grown h3 hbase (fun k hk => (World.ownsRow.lt hown k hk).1)
  refine wpList_plain hgd fun K hK => ?_
  unfold Oper.wp execOp
  simp only [ho, resolve, invoke, builtin, Sem.run_bind, Sem.run_pure, Result.andThen_ok, List.map_toArray, List.map_cons, List.map_nil, hs, hx, hrun]
  exact hK _ _ (h A' c' w' h2 h3 hb h4)
theorem ApartB.app {A A' D : Option Addr} {n c n' c' s : Nat} (hap : ApartB A D) (hnew : Value.ownBlock (.slice A' n' c') = Value.ownBlock (.slice A n c) ∨ Value.ownBlock (.slice A' n' c') = some s) (hD : ∀ y, D = some y → y.block < s) : ApartB A' D := by
  intro x y hx hy
  subst hx
  rcases hnew with h | h
  · cases A with
    | none => simp [Value.ownBlock] at h
    | some z =>
      simp only [Value.ownBlock, Option.some.injEq] at h
      rw [h]
      exact hap z y rfl hy
  · simp only [Value.ownBlock, Option.some.injEq] at h
    have := hD y hy
    omega
theorem ApartB.symm {A B : Option Addr} (h : ApartB A B) : ApartB B A := fun x y hx hy => Ne.symm (h y x hy hx)

set_option maxHeartbeats 16000000 in
theorem renc_any (w : World) (A : Option Addr) (m c : Nat) (F : List Vl) (hF : F.length = m) (hmc : m ≤ c) (hcm : c ≤ maxLen) (hA : RdVl w A F) (hok : ∀ v ∈ F, VOk v) (R : Ending → World → Prop) (hR : R = EncVB w (encV F).1 (encV F).2) :
    Calls Try.prog 12 #[.slice A m c] w R := by
  have HR := Lib.hid hR; clear hR
  have HL := Lib.hid hF; clear hF
  have HA := Lib.hid hA; clear hA
  have HOK := Lib.hid hok; clear hok
  unfold maxLen at hcm
  by_cases hm : 64 < m
  · have he : encV F = ([], 3) := if_pos (by rw [HL.out]; exact hm)
    have HE := Lib.hid he; clear he
    go_enter Try.func12, Try.ntmps12
    go_wp2
    rw [HR.out]
    exact ⟨none, 0, 0, by rw [HE.out]; rfl, by rw [HE.out]; exact OwnB.nil _ _, Below.refl _ _⟩
  go_enter Try.func12, Try.ntmps12
  go_wp2_with fail
  refine (rvput _ (m : Int) (by omega)).mono ?_
  rintro e w1 ⟨B1, n1, c1, rfl, hown1, hb1⟩
  have HO1 := Lib.hid hown1
  clear hown1
  go_wp2_with fail
  go_loopw [4, 5, 6] (fun b t i wr => ∃ (j : Nat) (B : Option Addr) (n c : Nat) (D : Option Addr) (p d : Nat), j ≤ m ∧ i = .int .i64 j ∧ b = .slice B n c ∧ t = .slice D p d ∧ Hid (firstW (F.take j) = 0) ∧ Hid (OwnB wr w.heap.size B n c (varL (m : Int) ++ codesB (F.take j))) ∧ Hid (OwnB wr w.heap.size D p d (bodiesB (F.take j))) ∧ Hid (ApartB B D) ∧ Below w.heap.size w wr) (fun _ _ i _ => m - (intOf i).toNat)
  case atStart => exact ⟨0, B1, n1, c1, none, 0, 0, Nat.zero_le _, rfl, rfl, rfl, Lib.hid rfl, Lib.hid (by simpa [codesB] using HO1.out), Lib.hid (by simpa [bodiesB] using OwnB.nil _ _), Lib.hid (fun x y _ h => by cases h), hb1⟩
  case round =>
    obtain ⟨j, B, n, cB, D, p, dD, hj, rfl, rfl, rfl, HF0, HO, HD, HAP, hb⟩ := hrel
    have HALL := Lib.hid (firstW_all HF0.out)
    have hlen : n ≤ 650 := by
      have h1 := HO.out.len
      have h2 := codesB_len HALL.out
      have h3 : (varL (m : Int)).length ≤ 10 := varL_len (by omega)
      rw [List.length_append] at h1
      have h4 : (F.take j).length ≤ 64 := by rw [List.length_take]; omega
      omega
    have hbl : p ≤ 262144 := by
      have h1 := HD.out.len
      have h2 := bodiesB_len HALL.out
      have h4 : (F.take j).length ≤ 64 := by rw [List.length_take]; omega
      omega
    have hz := hb.size
    have HBK := Lib.hid HO.out.below_blk
    have HDK := Lib.hid HD.out.below_blk
    by_cases hlt : j < m
    · obtain ⟨b0, o0, hA', hcell⟩ := (HA.out.keep hb).at (by rw [HL.out]; omega)
      have hcj := hcell j (by rw [HL.out]; exact hlt)
      have HAb := Lib.hid (show RdVl w (some ⟨b0, o0, none⟩) F by rw [← hA']; exact HA.out)
      subst hA'
      clear hcell
      obtain ⟨v, hv⟩ : ∃ v, vl_ F j = v := ⟨_, rfl⟩
      have HV := Lib.hid hv
      rw [hv] at hcj
      have hvok : VOk v := by rw [← hv]; exact HOK.out _ (vl_mem (by rw [HL.out]; exact hlt))
      clear hv
      have HVO := Lib.hid hvok
      clear hvok
      have HC := Lib.hid hcj
      clear hcj
      have HCA := Lib.hid (show ∀ W, Below w.heap.size w W → VlCell W b0 (o0 + j * 3) v from fun W hW => by
        obtain ⟨b1, o1, e1, hc1⟩ := (HAb.out.keep hW).at (by rw [HL.out]; omega)
        injection e1 with e1
        injection e1 with e1 e2
        subst e1 e2
        have := hc1 j (by rw [HL.out]; exact hlt)
        rwa [HV.out] at this)
      have i0 : (0 : Int) ≤ (j : Int) := by omega
      have i1 : (j : Int) < (m : Int) := by omega
      go_upto_region 8 with fail
      iterate 10 go_step
      refine wp_load_vlm rfl _ rfl b0 (o0 + j * 3) v rfl HC.out ?_
      go_wp2_with fail
      refine (rwrong_any _ v HVO.out.1 HVO.out.2).mono ?_
      rintro e w5 ⟨rfl, hb5⟩
      have HO5 := Lib.hid (HO.out.keep hb5)
      have HD5 := Lib.hid (HD.out.keep hb5)
      have hB5 := hb.trans (hb5.mono hz)
      have hz5 := hB5.size
      have hz5' := hb5.size
      clear hb5
      obtain ⟨z, hz'⟩ : ∃ z, wrongV v = z := ⟨_, rfl⟩
      have HZ := Lib.hid hz'
      simp only [hz']
      clear hz'
      by_cases hq : z = 0
      rotate_left
      · have hqb : (z != 0) = true := by simp [hq]
        have hfw : firstW F = z := by
          have := firstW_stop (F := F) (j := j) (by rw [HL.out]; exact hlt) HF0.out (by rw [HV.out, HZ.out]; exact hq)
          rw [this, HV.out, HZ.out]
        have he : encV F = ([], z) := by
          unfold encV
          rw [if_neg (by rw [HL.out]; exact hm), hfw, if_pos hq]
        have HE := Lib.hid he
        clear he hfw hq
        go_wp2
        rw [HR.out]
        exact ⟨none, 0, 0, by rw [HE.out]; rfl, by rw [HE.out]; exact OwnB.nil _ _, hB5⟩
      subst hq
      have hw4 := wrong_len HZ.out
      have hcd := code_bd HZ.out
      go_upto_region 11 with fail
      iterate 13 go_step
      refine wp_load_vlm rfl _ rfl b0 (o0 + j * 3) v rfl (HCA.out _ hB5) ?_
      go_wp2_with fail
      refine (rcode_any _ v HVO.out.1 (by omega)).mono ?_
      rintro e w6 ⟨rfl, hb6⟩
      have HO6 := Lib.hid (HO5.out.keep hb6)
      have HD6 := Lib.hid (HD5.out.keep hb6)
      have hB6 := hB5.trans (hb6.mono hz5)
      have hz6 := hB6.size
      have hz6' := hb6.size
      clear hb6 HO5 HD5
      go_wp2_with fail
      refine (rvput _ (codeV v) (by omega)).mono ?_
      rintro e w7 ⟨A7, m7, c7, rfl, hown7, hb7⟩
      have HO7 := Lib.hid (HO6.out.keep hb7)
      have HD7 := Lib.hid (HD6.out.keep hb7)
      have hB7 := hB6.trans (hb7.mono hz6)
      have hz7 := hB7.size
      have hz7' := hb7.size
      have HX7 := Lib.hid hown7
      have hm7 : m7 ≤ 10 := by rw [← hown7.len]; exact varL_len (by omega)
      clear hb7 HO6 HD6 hown7
      dsimp only
      go_step
      refine wp_append2 rfl (.tmp 28) (.tmp 34) rfl w.heap.size B n cB (varL (m : Int) ++ codesB (F.take j)) rfl HO7.out A7 m7 c7 (varL (codeV v)) rfl HX7.out.len HX7.out.rd (by omega) hz7 ?_
      intro A8 c8 w8 hown8 hgr8 hb8 hnew8
      have HO8 := Lib.hid hown8
      have HD8 := Lib.hid (HD7.out.grownO (fun x y h1 h2 => Ne.symm (HAP.out y x h2 h1)) hgr8)
      have hB8 := hB7.trans hb8
      have hz8 := hB8.size
      have HAP8 := Lib.hid (show ApartB A8 D from HAP.out.app hnew8 HD7.out.below_blk)
      clear hown8 hgr8 hb8 hnew8 HO7 HD7
      go_upto_region 12 with fail
      iterate 13 go_step
      refine wp_load_vlm rfl _ rfl b0 (o0 + j * 3) v rfl (HCA.out _ hB8) ?_
      go_wp2_with fail
      refine (rbody_any _ v HVO.out.1 HVO.out.2).mono ?_
      rintro e w9 ⟨A9, n9, c9, rfl, g1, g2, g3, g4, hb9⟩
      have HO9 := Lib.hid (HO8.out.keep hb9)
      have HD9 := Lib.hid (HD8.out.keep hb9)
      have hB9 := hB8.trans (hb9.mono hz8)
      have hz9 := hB9.size
      have hn9 : n9 ≤ 4096 := by rw [← g1]; exact body_len HZ.out
      have HG1 := Lib.hid g1
      have HG4 := Lib.hid g4
      have HTS := Lib.hid (show bodiesB (F.take (j + 1)) = bodiesB (F.take j) ++ bodyV v by rw [bodiesB_step (by rw [HL.out]; exact hlt), HV.out])
      have HCS := Lib.hid (show codesB (F.take (j + 1)) = codesB (F.take j) ++ varL (codeV v) by rw [codesB_step (by rw [HL.out]; exact hlt), HV.out])
      clear hb9 HO8 HD8 g1 g2 g3 g4
      dsimp only
      go_step
      refine wp_append2 rfl (.tmp 36) (.tmp 41) rfl w.heap.size D p dD (bodiesB (F.take j)) rfl HD9.out A9 n9 c9 (bodyV v) rfl HG1.out HG4.out (by omega) hz9 ?_
      intro A10 c10 w10 hown10 hgr10 hb10 hnew10
      have HD10 := Lib.hid hown10
      have HO10 := Lib.hid (HO9.out.grownO HAP8.out hgr10)
      have hB10 := hB9.trans hb10
      have HAP10 := Lib.hid (show ApartB A8 A10 from (HAP8.out.symm.app hnew10 HO9.out.below_blk).symm)
      clear hown10 hgr10 hb10 hnew10 HO9 HD9
      go_wp2_with fail
      go_roundw
      case rel =>
        refine ⟨j + 1, A8, n + m7, c8, A10, p + n9, c10, by omega, by go_num, rfl, rfl, Lib.hid (firstW_next (by rw [HL.out]; exact hlt) HF0.out (by rw [HV.out]; exact HZ.out)), ?_, ?_, HAP10, hB10⟩
        · refine Lib.hid ?_
          rw [HCS.out, ← List.append_assoc]
          exact HO10.out
        · refine Lib.hid ?_
          rw [HTS.out]
          exact HD10.out
      case measure => simp [intOf]; omega
    · obtain rfl : j = m := by omega
      have hFt : F.take j = F := List.take_of_length_le (by rw [HL.out]; exact Nat.le_refl _)
      rw [hFt] at HF0 HALL HO HD
      clear hFt
      have hhead : varL (j : Int) ++ codesB F = headB F := by unfold headB; rw [HL.out]
      rw [hhead] at HO
      clear hhead
      by_cases hbig : 16384 < n + p
      · have he : encV F = ([], 3) := by
          unfold encV
          rw [if_neg (by rw [HL.out]; exact hm), if_neg (by simp [HF0.out]), if_pos (by rw [HO.out.len, HD.out.len]; exact hbig)]
        have HE := Lib.hid he
        clear he
        go_wp2
        rw [HR.out]
        exact ⟨none, 0, 0, by rw [HE.out]; rfl, by rw [HE.out]; exact OwnB.nil _ _, hb⟩
      have he : encV F = (headB F ++ bodiesB F, 0) := by
        unfold encV
        rw [if_neg (by rw [HL.out]; exact hm), if_neg (by simp [HF0.out]), if_neg (by rw [HO.out.len, HD.out.len]; exact hbig)]
      have HE := Lib.hid he
      clear he
      go_upto_region 15 with fail
      iterate 7 go_step
      refine wp_append rfl (.tmp 49) (.tmp 50) rfl w.heap.size B n cB (headB F) rfl HO.out D p dD (bodiesB F) rfl HD.out.len HD.out.rd (by omega) hz ?_
      intro A8 c8 w8 hown8 hgr8 hb8
      have HO8 := Lib.hid hown8
      have hB8 := hb.trans hb8
      clear hown8 hgr8 hb8
      go_wp2
      rw [HR.out]
      exact ⟨_, _, _, by rw [HE.out]; rfl, by rw [HE.out]; exact HO8.out, hB8⟩
end Go.Proofs.Ytbbdglikdogmhaa
