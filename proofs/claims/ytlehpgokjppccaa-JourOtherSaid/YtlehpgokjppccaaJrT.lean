/- Walk: tomelaw11.write. -/
import Derived.Test.YtlehpgokjppccaaJrS
import Derived.Test.YtlehpgokjppccaaJrH
import Derived.Test.YtlehpgokjppccaaJrL
namespace Go.Proofs.Ytlehpgokjppccaa
open Go.RowKit
set_option maxRecDepth 100000

def WrRel (W : World) (base : Nat) (s p k : Int) (F : List Fr) (m : Nat) (b i : Value) (wr : World) : Prop :=
  ∃ (j n' c' : Nat) (A' : Option Addr), i = .int .i64 j ∧ b = .slice A' n' c' ∧ j ≤ m ∧ Ext wr base A' n' c' (jourL s p k (F.take j)) ∧ Hid (∀ q, q < j → okF s.toNat (fr_ F q)) ∧ base ≤ wr.heap.size ∧ Below W.heap.size W wr
/-- What write gives. -/
def WriteBack (w : World) (s p k : Int) (F : List Fr) (e : Ending) (w' : World) : Prop :=
  ∃ A n c r, e = .returned (.tuple #[.slice A n c, .bool r]) ∧ Below w.heap.size w w' ∧ (r = true → okStart s p ∧ (∀ f ∈ F, okF s.toNat f) ∧ (jourL s p k F).length = n ∧ n ≤ c ∧ c ≤ maxLen ∧ Rd w' A (jourL s p k F))
theorem Ext.cap {w : World} {base : Nat} {A : Option Addr} {n c : Nat} {l : List Int} (h : Ext w base A n c l) : n ≤ c ∧ c ≤ maxLen := by
  rcases h with h | ⟨h1, h2, h3, h4, h5⟩
  · exact h.cap
  · exact ⟨by omega, by omega⟩
theorem Ext.rd {w : World} {base : Nat} {A : Option Addr} {n c : Nat} {l : List Int} (h : Ext w base A n c l) : Rd w A l := by
  rcases h with h | ⟨h1, h2, h3, h4, h5⟩
  · exact h.rd
  · exact h5
theorem jourL_step (s p k : Int) {F : List Fr} {j : Nat} (h : j < F.length) : jourL s p k (F.take (j + 1)) = jourL s p k (F.take j) ++ entH k (fr_ F j).pg (fr_ F j).b := by
  rw [List.take_succ_eq_append_getElem h, jourL, jourL, entsL_append, ← fr_lt h]
  simp [entsL]

theorem jEntry_yes (w : World) (k pg cm : Int) (A : Option Addr) (n c : Nat) (l : List Int) (hk : 0 ≤ k ∧ k ≤ 18446744073709551615) (hpg : i64ok pg) (hcm' : i64ok cm) (hn : l.length = n) (hnc : n ≤ c) (hcm : c ≤ maxLen) (hA : Rd w A l) (hB : IsB l) (hok : okEnt pg cm n) :
    Calls Try.prog 26 #[.int .u64 k, .agg #[.int .i64 pg, .int .i64 cm, .slice A n c]] w (PairBack w (entH k pg l) 0) := by
  have h := jEntry_any w k pg cm A n c l hk hpg hcm' hn hnc hcm hA hB
  rwa [show entL k pg cm l = entH k pg l from if_pos (by rw [hn]; exact hok), show entE pg cm n = 0 from if_pos hok] at h
theorem jEntry_nay (w : World) (k pg cm : Int) (A : Option Addr) (n c : Nat) (l : List Int) (hk : 0 ≤ k ∧ k ≤ 18446744073709551615) (hpg : i64ok pg) (hcm' : i64ok cm) (hn : l.length = n) (hnc : n ≤ c) (hcm : c ≤ maxLen) (hA : Rd w A l) (hB : IsB l) (hno : ¬ okEnt pg cm n) :
    Calls Try.prog 26 #[.int .u64 k, .agg #[.int .i64 pg, .int .i64 cm, .slice A n c]] w (PairBack w [] 1) := by
  have h := jEntry_any w k pg cm A n c l hk hpg hcm' hn hnc hcm hA hB
  rwa [show entL k pg cm l = [] from if_neg (by rw [hn]; exact hno), show entE pg cm n = 1 from if_neg hno] at h

set_option maxHeartbeats 8000000 in
theorem write_ok (w : World) (s p k : Int) (A : Option Addr) (m c : Nat) (F : List Fr) (hs : i64ok s) (hp : i64ok p) (hk : 0 ≤ k ∧ k ≤ 18446744073709551615) (hF : F.length = m) (hm : m ≤ 50) (hA : RdFr w A F) (hok : ∀ f ∈ F, FrOk f) (hst : okStart s p) (R : Ending → World → Prop) (hR : R = WriteBack w s p k F) :
    Calls Try.prog 30 #[.agg #[.int .i64 s, .int .i64 p, .int .u64 k, .slice A m c]] w R := by
  have HR := Lib.hid hR; clear hR
  have HL := Lib.hid hF; clear hF
  have HF := Lib.hid hok; clear hok
  have HK := Lib.hid hk; clear hk
  have HST := Lib.hid hst
  obtain ⟨sn, rfl, hsn, hs0⟩ : ∃ sn : Nat, s = (sn : Int) ∧ sn ≤ 4096 ∧ 256 ≤ sn := by
    have := hst.1
    unfold isSize at this
    exact ⟨s.toNat, by omega, by omega, by omega⟩
  clear hst
  obtain ⟨W1, hW1⟩ : ∃ W, W = w.alloc (.cells #[.int .i64 (sn : Int), .int .i64 p, .int .u64 k, .slice A m c] 59) := ⟨_, rfl⟩
  have hbW : Below w.heap.size w W1 := by rw [hW1]; exact (Below.refl _ _).alloc (Nat.le_refl _) _
  have hsW : W1.heap.size = w.heap.size + 1 := by rw [hW1]; simp
  have hat : MdAt W1 w.heap.size (sn : Int) p k A m c := by
    rw [hW1]
    exact ⟨by simp [go_sem], by simp [go_sem], by simp [go_sem], by simp [go_sem]⟩
  have HT := Lib.hid hat
  obtain ⟨k0, k1, k2, k3⟩ := hat
  have HW := Lib.hid hW1
  have HA := Lib.hid (hA.keep hbW); clear hA
  go_enter Try.func30, Try.ntmps30
  go_wp2_with fail
  rw [← hW1]
  clear hW1 HW
  go_wp2_with fail
  refine (jStart_full _ (sn : Int) p k hs hp HK.out HST.out _ rfl).mono ?_
  rintro e w1 ⟨A1, rfl, hrd1, hb1⟩
  have hB1 : Below w.heap.size w w1 := hbW.trans (hb1.mono (by omega))
  have hz1 := hb1.size
  have hext : Ext w1 w1.heap.size A1 28 28 (jourL (sn : Int) p k (F.take 0)) := by
    rw [jourL, List.take_zero]
    simp only [entsL, List.append_nil]
    exact .inr ⟨rfl, by decide, by decide, startH_length _ _ _, hrd1⟩
  have HE := Lib.hid hext; clear hext hrd1 k0 k1 k2 k3
  go_wp2_with fail
  go_loopw [4, 6] (fun b i wr => WrRel W1 w1.heap.size (sn : Int) p k F m b i wr) (fun _ i _ => m - (intOf i).toNat)
  case atStart => exact ⟨0, 28, 28, A1, rfl, rfl, Nat.zero_le _, HE.out, fun q hq => absurd hq (by omega), Nat.le_refl _, hb1⟩
  case round =>
    obtain ⟨j, n', c', A', rfl, rfl, hj, hx, HG, hbs, hb⟩ := hrel
    have hB2 : Below w.heap.size w wr := hbW.trans (hb.mono (by omega))
    obtain ⟨k0, k1, k2, k3⟩ := HT.out.keep hb
    have HX := Lib.hid hx; clear hx
    by_cases hlt : j < m
    · obtain ⟨b1, o1, hA', hc1⟩ := RdFr.at (HA.out.keep hb) (by rw [HL.out]; omega)
      obtain ⟨A1', c1, p0, p1, p2, p3, p4, p5⟩ := hc1 j (by rw [HL.out]; omega)
      have hfo := HF.out (fr_ F j) (by rw [fr_lt (show j < F.length by rw [HL.out]; omega)]; exact List.getElem_mem _)
      have hstep := jourL_step (sn : Int) p k (F := F) (j := j) (by rw [HL.out]; omega)
      subst hA'
      clear hc1
      generalize hf : fr_ F j = f at p0 p1 p2 p3 p5 hfo hstep
      have HFJ := Lib.hid hf; clear hf
      obtain ⟨pg, cm, fb⟩ := f
      obtain ⟨f0, f1, f2⟩ := hfo
      simp only at p0 p1 p2 p3 p5 f0 f1 f2 hstep
      have HS := Lib.hid hstep; clear hstep
      have hnl := HX.out.len
      obtain ⟨nb, hnb⟩ : ∃ nb, fb.length = nb := ⟨_, rfl⟩
      rw [hnb] at p2 p3
      have HNB := Lib.hid hnb; clear hnb
      have H5 := Lib.hid p5; clear p5
      have H4 := Lib.hid p4; clear p4
      have F0 := Lib.hid f0; clear f0
      have F1 := Lib.hid f1; clear f1
      have F2 := Lib.hid f2; clear f2
      have i0 : (0 : Int) ≤ (j : Int) := by omega
      have i1 : (j : Int) < (m : Int) := by omega
      by_cases hok : okEnt pg cm nb
      · have HOK := Lib.hid hok
        clear hok
        by_cases hlen : nb = sn
        · subst hlen
          have hne : ((nb : Int) != (nb : Int)) = false := by simp
          have hj' : (F.take j).length = j := by rw [List.length_take, HL.out]; omega
          have hnn : n' = 28 + j * (nb + 8) := by
            rw [← hnl, jourL, List.length_append, startH_length, entsL_length (s := nb), hj']
            intro f hf
            obtain ⟨q, hq, rfl⟩ := List.mem_iff_getElem.1 hf
            have hq2 : q < j := by rw [← hj']; exact hq
            have := HG q hq2
            rw [fr_lt (by rw [HL.out]; omega), Int.toNat_natCast] at this
            simpa using this
          have hmul : j * (nb + 8) ≤ 50 * 4104 := Nat.mul_le_mul (by omega) (by omega)
          have HNN := Lib.hid hnn
          clear hnn hnl
          go_upto_region 7 with fail
          go_region_with (go_at_call 26; refine (jEntry_yes _ k pg cm A1' nb c1 fb HK.out F0.out F1.out HNB.out p3 H4.out (H5.out.keep ((Below.refl _ wr).drew)) F2.out HOK.out).mono ?_; rintro e w5 ⟨A5, n5, c5, rfl, h51, h52, h53, h54, h55⟩; (have hb5 : Below wr.heap.size wr w5 := ((Below.refl _ wr).drew).trans h55); clear h55)
          all_goals
            have hB5 : Below w.heap.size w w5 := hB2.trans (hb5.mono hB2.size)
            have hz5 := hb5.size
            have HX5 := Lib.hid (HX.out.keep hb5)
            have p2' := (hb5.cell (World.block_lt_of_cell? _ _ p2)).trans p2
            clear k0 k1 k2 k3 p0 p1 p2
            obtain ⟨k0, k1, k2, k3⟩ := (HT.out.keep hb).keep hb5
            have HE5 := Lib.hid h54
            have HL5 := Lib.hid h51
            clear h54 h51
            simp only [Act.put, List.setIfInBounds_toArray, List.set_cons_zero, List.set_cons_succ, List.getElem_toArray, List.getElem_cons_zero, List.getElem_cons_succ]
            go_upto_region 8 with fail
            go_quiet (fail)
            clear k0 k1 k2 k3 p2'
            have hnn := HNN.out
            have hn5 : n5 = 8 + nb := by rw [← HL5.out, entH_length, HNB.out]
            have hbq : Below w5.heap.size w5 (w5.drewN nq) := below_drewN (Below.refl _ _) nq
            have HRE := Lib.hid (HE5.out.keep hbq)
            go_wp2_with (at_builtin; refine wp_append_ext rfl (.tmp 53) (.tmp 54) rfl w1.heap.size A' n' c' _ rfl (HX5.out.keep hbq) A5 n5 c5 (entH k pg fb) rfl HL5.out (by omega) HRE.out (by omega) (Nat.le_trans hbs (Nat.le_trans hz5 hbq.size)) ?_; intro A6 c6 w6 hown6 hb6)
            have hzq := hbq.size
            have hB6 : Below W1.heap.size W1 w6 := (hb.trans ((hb5.trans (hbq.mono hz5)).mono hb.size)).trans (hb6.mono hz1)
            go_roundw
            case rel =>
              refine ⟨j + 1, n' + n5, c6, A6, by go_num, by first | rfl | rw [hnn, hn5], by omega, .inl (by rw [HS.out]; exact hown6), fun q hq => ?_, Nat.le_trans hbs (Nat.le_trans hz5 (Nat.le_trans hzq hb6.size)), hB6⟩
              by_cases hqj : q < j
              · exact HG q hqj
              · obtain rfl : q = j := by omega
                rw [HFJ.out]
                exact ⟨HOK.out.1, HOK.out.2.1, HOK.out.2.2.1, by rw [Int.toNat_natCast]; exact HNB.out, F2.out⟩
            case measure => simp [intOf]; omega
        · have hne : ((nb : Int) != (sn : Int)) = true := by simp; omega
          go_upto_region 7 with fail
          go_region_with (go_at_call 26; refine (jEntry_yes _ k pg cm A1' nb c1 fb HK.out F0.out F1.out HNB.out p3 H4.out (H5.out.keep ((Below.refl _ wr).drew)) F2.out HOK.out).mono ?_; rintro e w5 ⟨A5, n5, c5, rfl, h51, h52, h53, h54, h55⟩; (have hb5 : Below wr.heap.size wr w5 := ((Below.refl _ wr).drew).trans h55); clear h55)
          all_goals
            have hB5 : Below w.heap.size w w5 := hB2.trans (hb5.mono hB2.size)
            have hz5 := hb5.size
            have HX5 := Lib.hid (HX.out.keep hb5)
            have p2' := (hb5.cell (World.block_lt_of_cell? _ _ p2)).trans p2
            clear k0 k1 k2 k3 p0 p1 p2
            obtain ⟨k0, k1, k2, k3⟩ := (HT.out.keep hb).keep hb5
            have HE5 := Lib.hid h54
            have HL5 := Lib.hid h51
            clear h54 h51
            simp only [Act.put, List.setIfInBounds_toArray, List.set_cons_zero, List.set_cons_succ, List.getElem_toArray, List.getElem_cons_zero, List.getElem_cons_succ]
            go_upto_region 8 with fail
            go_quiet (fail)
            go_wp2
            rw [HR.out]
            exact ⟨none, 0, 0, false, rfl, below_drewN hB5 nq, by simp⟩
      · have HOK := Lib.hid hok
        clear hok
        go_upto_region 7 with fail
        go_region_with (go_at_call 26; refine (jEntry_nay _ k pg cm A1' nb c1 fb HK.out F0.out F1.out HNB.out p3 H4.out (H5.out.keep ((Below.refl _ wr).drew)) F2.out HOK.out).mono ?_; rintro e w5 ⟨A5, n5, c5, rfl, h51, h52, h53, h54, h55⟩; (have hb5 : Below wr.heap.size wr w5 := ((Below.refl _ wr).drew).trans h55); clear h55)
        all_goals
          have hB5 : Below w.heap.size w w5 := hB2.trans (hb5.mono hB2.size)
          have hz5 := hb5.size
          have HX5 := Lib.hid (HX.out.keep hb5)
          have p2' := (hb5.cell (World.block_lt_of_cell? _ _ p2)).trans p2
          clear k0 k1 k2 k3 p0 p1 p2
          obtain ⟨k0, k1, k2, k3⟩ := (HT.out.keep hb).keep hb5
          have HE5 := Lib.hid h54
          have HL5 := Lib.hid h51
          clear h54 h51
          simp only [Act.put, List.setIfInBounds_toArray, List.set_cons_zero, List.set_cons_succ, List.getElem_toArray, List.getElem_cons_zero, List.getElem_cons_succ]
          go_upto_region 8 with fail
          go_quiet (fail)
          go_wp2
          rw [HR.out]
          exact ⟨none, 0, 0, false, rfl, below_drewN hB5 nq, by simp⟩
    · obtain rfl : j = m := by omega
      have hxx := HX.out
      rw [List.take_of_length_le (by rw [HL.out]; omega)] at hxx
      have HXX := Lib.hid hxx
      clear hxx
      go_wp2
      rw [HR.out]
      refine ⟨A', n', c', true, rfl, hB2, fun _ => ⟨HST.out, fun f hf => ?_, HXX.out.len, HXX.out.cap.1, HXX.out.cap.2, HXX.out.rd⟩⟩
      obtain ⟨q, hq, rfl⟩ := List.mem_iff_getElem.1 hf
      rw [← fr_lt hq]
      exact HG q (by rw [← HL.out]; exact hq)
set_option maxHeartbeats 4000000 in
theorem write_no (w : World) (s p k : Int) (A : Option Addr) (m c : Nat) (F : List Fr) (hs : i64ok s) (hp : i64ok p) (hk : 0 ≤ k ∧ k ≤ 18446744073709551615) (hst : ¬ okStart s p) (R : Ending → World → Prop) (hR : R = WriteBack w s p k F) :
    Calls Try.prog 30 #[.agg #[.int .i64 s, .int .i64 p, .int .u64 k, .slice A m c]] w R := by
  have HR := Lib.hid hR; clear hR
  have HST := Lib.hid hst; clear hst
  obtain ⟨W1, hW1⟩ : ∃ W, W = w.alloc (.cells #[.int .i64 s, .int .i64 p, .int .u64 k, .slice A m c] 59) := ⟨_, rfl⟩
  have hbW : Below w.heap.size w W1 := by rw [hW1]; exact (Below.refl _ _).alloc (Nat.le_refl _) _
  have hsW : W1.heap.size = w.heap.size + 1 := by rw [hW1]; simp
  have hat : MdAt W1 w.heap.size s p k A m c := by
    rw [hW1]
    exact ⟨by simp [go_sem], by simp [go_sem], by simp [go_sem], by simp [go_sem]⟩
  obtain ⟨k0, k1, k2, k3⟩ := hat
  have HW := Lib.hid hW1
  go_enter Try.func30, Try.ntmps30
  go_wp2_with fail
  rw [← hW1]
  clear hW1 HW
  go_wp2_with fail
  refine (jStart_any _ s p k hs hp hk).mono ?_
  rintro e w1 ⟨A1, n1, c1, rfl, _, _, _, _, hb1⟩
  have hB1 : Below w.heap.size w w1 := hbW.trans (hb1.mono (by omega))
  have hse : startE s p = 1 := if_neg HST.out
  simp only [hse]
  go_wp2
  rw [HR.out]
  exact ⟨none, 0, 0, false, rfl, hB1, by simp⟩
theorem write_any (w : World) (s p k : Int) (A : Option Addr) (m c : Nat) (F : List Fr) (hs : i64ok s) (hp : i64ok p) (hk : 0 ≤ k ∧ k ≤ 18446744073709551615) (hF : F.length = m) (hm : m ≤ 50) (hA : RdFr w A F) (hok : ∀ f ∈ F, FrOk f) :
    Calls Try.prog 30 #[.agg #[.int .i64 s, .int .i64 p, .int .u64 k, .slice A m c]] w (WriteBack w s p k F) := by
  by_cases h : okStart s p
  · exact write_ok w s p k A m c F hs hp hk hF hm hA hok h _ rfl
  · exact write_no w s p k A m c F hs hp hk h _ rfl
theorem jourL_length {s p k : Int} {F : List Fr} (h : ∀ f ∈ F, okF s.toNat f) : (jourL s p k F).length = 28 + F.length * (s.toNat + 8) := by
  rw [jourL, List.length_append, startH_length, entsL_length h]
theorem jourL_isB {s p k : Int} {F : List Fr} (h : ∀ f ∈ F, okF s.toNat f) : IsB (jourL s p k F) := isB_append (startH_isB _ _ _) (entsL_isB h)

theorem size_md : (Try.prog.info? 59).map (·.size) = some 4 := by kernel_rfl
theorem wp_load_md {ops : Array Oper} {rest : List Oper} {op : Oper} {a : Act} {w : World} {Q : Exit → Act → World → Prop} (hgd : op.guard = none) (x : Operand) (ho : op.op = .load 59 x) (g : Nat) (s p k : Int) (A : Option Addr) (m c : Nat)
    (hx : a.eval x = .pointer (some ⟨g, 0, none⟩)) (hc : MdAt w g s p k A m c) (h : wpList Try.prog ops Q rest (a.put op.dst (.agg #[.int .i64 s, .int .i64 p, .int .u64 k, .slice A m c])) w) : wpList Try.prog ops Q (op :: rest) a w :=
  wpList_load_mid hgd 59 x ho g 0 hx (jnC s p k A m c) _ hc.range Try.underlying59 rfl size_md h

set_option maxHeartbeats 8000000 in
theorem frames_q (w : World) (A B : Option Addr) (m c k d : Nat) (F G : List Fr) (hF : F.length = m) (hG : G.length = k) (hm : m ≤ maxLen) (hA : RdFr w A F) (hB : RdFr w B G) :
    Calls Try.prog 24 #[.slice A m c, .slice B k d] w fun e w' => e = .returned (.bool (decide (F = G))) ∧ ∃ x, w' = w.drewN x := by
  have HL := Lib.hid hF; clear hF
  have HK := Lib.hid hG; clear hG
  have HA := Lib.hid hA; clear hA
  have HB := Lib.hid hB; clear hB
  have hmm : m ≤ 9223372036854775807 := by unfold maxLen at hm; omega
  by_cases hnm : m = k
  · subst hnm
    have hne : ((m : Int) != (m : Int)) = false := by simp
    go_enter Try.func24, Try.ntmps24
    go_wp2_with fail
    go_loopw [5] (fun i wr => ∃ j : Nat, j ≤ m ∧ i = .int .i64 j ∧ Hid (∀ q, q < j → fr_ F q = fr_ G q) ∧ ∃ x, wr = w.drewN x) (fun i _ => m - (intOf i).toNat)
    case atStart => exact ⟨0, Nat.zero_le _, rfl, fun q hq => absurd hq (by omega), 0, rfl⟩
    case round =>
      obtain ⟨j, hj, rfl, HE, x, hwr⟩ := hrel
      have hb : Below w.heap.size w wr := by rw [hwr]; exact below_drewN (Below.refl _ _) x
      have HWR := Lib.hid hwr; clear hwr
      by_cases hlt : j < m
      · obtain ⟨b1, o1, hA', hc1⟩ := RdFr.at (HA.out.keep hb) (by rw [HL.out]; omega)
        obtain ⟨b2, o2, hB', hc2⟩ := RdFr.at (HB.out.keep hb) (by rw [HK.out]; omega)
        obtain ⟨A1, c1, p0, p1, p2, p3, p4, p5⟩ := hc1 j (by rw [HL.out]; omega)
        obtain ⟨A2, c2, q0, q1, q2, q3, q4, q5⟩ := hc2 j (by rw [HK.out]; omega)
        subst hA'
        subst hB'
        clear hc1 hc2
        have HF := Lib.hid (show fr_ F j = fr_ F j from rfl)
        generalize hf : fr_ F j = f at *
        generalize hg : fr_ G j = g at *
        have HFE := Lib.hid hf; clear hf
        have HGE := Lib.hid hg; clear hg
        have i0 : (0 : Int) ≤ (j : Int) := by omega
        have i1 : (j : Int) < (m : Int) := by omega
        have R1 := Lib.hid p5; clear p5
        have R2 := Lib.hid q5; clear q5
        have P3 := Lib.hid p3; clear p3
        have P4 := Lib.hid p4; clear p4
        have Q3 := Lib.hid q3; clear q3
        have Q4 := Lib.hid q4; clear q4
        clear HF
        by_cases he0 : f.pg = g.pg
        · have e0 : (f.pg != g.pg) = false := by simp [he0]
          by_cases he1 : f.cm = g.cm
          · have e1 : (f.cm != g.cm) = false := by simp [he1]
            have HE0 := Lib.hid he0; clear he0
            have HE1 := Lib.hid he1; clear he1
            have hfl : f.b.length ≤ 9223372036854775807 := by have := P3.out; have := P4.out; unfold maxLen at this; omega
            by_cases he2 : f.b = g.b
            · have hq : beqL f.b g.b = true := by rw [he2, beqL_self]
              have HE2 := Lib.hid he2; clear he2
              go_wp2_with fail
              have HSM := Lib.hid (show ∀ n, Calls Try.prog 16 #[.slice A1 f.b.length c1, .slice A2 g.b.length c2] (wr.drewN n) fun e w' => e = .returned (.bool true) ∧ ∃ x, w' = (wr.drewN n).drewN x from fun n => by
                have := same_q (wr.drewN n) A1 A2 f.b.length c1 g.b.length c2 f.b g.b rfl rfl hfl (R1.out.keep (below_drewN (Below.refl _ _) _)) (R2.out.keep (below_drewN (Below.refl _ _) _))
                rwa [hq] at this)
              go_quiet ((go_at_call 16; exact Calls.quiet_of (HSM.out _)))
              go_wp2_with fail
              go_roundw
              case rel =>
                refine ⟨j + 1, by omega, by go_num, fun q hq => ?_, x + nq, by rw [HWR.out]; first | rfl | exact World.drewN_drewN _ _ _⟩
                by_cases hqj : q < j
                · exact HE.out q hqj
                · obtain rfl : q = j := by omega
                  rw [HFE.out, HGE.out]
                  obtain ⟨fp, fc, fb⟩ := f
                  obtain ⟨gp, gc, gb⟩ := g
                  have a0 := HE0.out
                  have a1 := HE1.out
                  have a2 := HE2.out
                  simp only at a0 a1 a2
                  rw [a0, a1, a2]
              case measure => simp [intOf]; omega
            · have hq : beqL f.b g.b = false := by rw [beqL_no]; exact he2
              have HE2 := Lib.hid he2; clear he2
              go_wp2_with fail
              have HSM := Lib.hid (show ∀ n, Calls Try.prog 16 #[.slice A1 f.b.length c1, .slice A2 g.b.length c2] (wr.drewN n) fun e w' => e = .returned (.bool false) ∧ ∃ x, w' = (wr.drewN n).drewN x from fun n => by
                have := same_q (wr.drewN n) A1 A2 f.b.length c1 g.b.length c2 f.b g.b rfl rfl hfl (R1.out.keep (below_drewN (Below.refl _ _) _)) (R2.out.keep (below_drewN (Below.refl _ _) _))
                rwa [hq] at this)
              go_quiet ((go_at_call 16; exact Calls.quiet_of (HSM.out _)))
              go_wp2
              go_ret
              refine ⟨ret_bool ?_, x + nq, by rw [HWR.out]; first | rfl | exact World.drewN_drewN _ _ _⟩
              exact (decide_eq_false (fun e => HE2.out (by rw [← HFE.out, ← HGE.out, e]))).symm
          · have e1 : (f.cm != g.cm) = true := by simp [he1]
            have HE1 := Lib.hid he1; clear he1
            go_wp2_with fail
            go_quiet (fail)
            go_wp2
            go_ret
            refine ⟨ret_bool ?_, x + nq, by rw [HWR.out]; first | rfl | exact World.drewN_drewN _ _ _⟩
            exact (decide_eq_false (fun e => HE1.out (by rw [← HFE.out, ← HGE.out, e]))).symm
        · have e0 : (f.pg != g.pg) = true := by simp [he0]
          have HE0 := Lib.hid he0; clear he0
          go_wp2_with fail
          go_quiet (fail)
          go_wp2
          go_ret
          refine ⟨ret_bool ?_, x + nq, by rw [HWR.out]; first | rfl | exact World.drewN_drewN _ _ _⟩
          exact (decide_eq_false (fun e => HE0.out (by rw [← HFE.out, ← HGE.out, e]))).symm
      · obtain rfl : j = m := by omega
        go_wp2_with fail
        go_ret
        refine ⟨ret_bool ?_, x, HWR.out⟩
        exact (decide_eq_true (eq_of_fr (by rw [HL.out, HK.out]) (by rw [HL.out]; exact HE.out))).symm
  · have hne : ((m : Int) != (k : Int)) = true := by simp; omega
    have HNM := Lib.hid hnm; clear hnm
    go_enter Try.func24, Try.ntmps24
    go_wp2
    go_ret
    refine ⟨ret_bool ?_, 0, rfl⟩
    exact (decide_eq_false (fun e => HNM.out (by rw [← HL.out, ← HK.out, e]))).symm
end Go.Proofs.Ytlehpgokjppccaa
