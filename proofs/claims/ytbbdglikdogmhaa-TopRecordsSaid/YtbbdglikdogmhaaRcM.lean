/- Walk: record.bodies. -/
import Derived.Test.YtbbdglikdogmhaaRcL
import Derived.Test.YtbbdglikdogmhaaRcJ
import Derived.Test.YtbbdglikdogmhaaSli
import Derived.WalkMore
namespace Go.Proofs.Ytbbdglikdogmhaa
open Go.RowKit
set_option maxRecDepth 100000
set_option linter.unusedVariables false
set_option linter.unusedSimpArgs false
set_option linter.unnecessarySimpa false

def GoodC (cs : List Int) : Prop := ∀ c ∈ cs, ¬ badC c ∧ c ≤ 8209
def glueV (acc : List Vl) (r : List Vl × Int × Int) : List Vl × Int × Int := if r.2.2 ≠ 0 then ([], 0, r.2.2) else (acc ++ r.1, r.2.1, 0)
theorem glueV_nil (l : List Int) (cs : List Int) (a : Int) : glueV [] (valsV l cs a) = valsV l cs a := by
  unfold glueV
  by_cases h : (valsV l cs a).2.2 = 0
  · rw [if_neg (by simp [h])]
    generalize valsV l cs a = r at h ⊢
    obtain ⟨x, y, z⟩ := r
    simp only at h
    subst h
    rfl
  · rw [if_pos h]
    cases cs with
    | nil => exact absurd rfl h
    | cons c cs =>
      unfold valsV at h ⊢
      split
      · rfl
      · split
        · rfl
        · split
          · rfl
          · rename_i h1 h2 h3
            rw [if_neg h1, if_neg h2, if_neg h3] at h
            exact absurd rfl h
theorem vals_short (l : List Int) (c : Int) (cs : List Int) (a : Int) (h : (l.length : Int) - a < longI c) : valsV l (c :: cs) a = ([], 0, 6) := if_pos h
theorem vals_bad (l : List Int) (c : Int) (cs : List Int) (a : Int) (h : ¬ (l.length : Int) - a < longI c) (hr : (readV c ((l.drop a.toNat).take (longI c).toNat)).2 ≠ 0) : valsV l (c :: cs) a = ([], 0, 8) := by
  unfold valsV
  rw [if_neg h, if_pos hr]
  rcases read_err c ((l.drop a.toNat).take (longI c).toNat) with h | h
  · exact absurd h hr
  · rw [h]
theorem vals_ok (l : List Int) (c : Int) (cs : List Int) (a : Int) (h : ¬ (l.length : Int) - a < longI c) (hr : (readV c ((l.drop a.toNat).take (longI c).toNat)).2 = 0) : valsV l (c :: cs) a = glueV [takeV c ((l.drop a.toNat).take (longI c).toNat)] (valsV l cs (a + longI c)) := by
  rw [← take_read _ _ hr]
  show (if _ then _ else _) = _
  rw [if_neg h, if_neg (by simp [hr])]
  rfl
theorem glueV_glue (acc : List Vl) (v : Vl) (r : List Vl × Int × Int) : glueV acc (glueV [v] r) = glueV (acc ++ [v]) r := by
  unfold glueV
  by_cases h : r.2.2 = 0
  · simp [h]
  · simp [h]
theorem glueV_err (acc : List Vl) (z : Int) (hz : z ≠ 0) : glueV acc ([], 0, z) = ([], 0, z) := if_pos hz
theorem glueV_end (acc : List Vl) (a : Int) : glueV acc ([], a, 0) = (acc, a, 0) := by unfold glueV; rw [if_neg (by simp)]; simp
theorem good_bd {c : Int} (h : ¬ badC c ∧ c ≤ 8209) : 0 ≤ longI c ∧ longI c ≤ 4096 ∧ i64K c := by
  obtain ⟨h1, h2⟩ := h
  unfold badC at h1
  unfold longI i64K
  split <;> omega
def BodiesBack (w : World) (r : List Vl × Int × Int) (e : Ending) (w' : World) : Prop :=
  ∃ A m c, e = .returned (.tuple #[.slice A m c, .int .i64 r.2.1, .int .i64 r.2.2]) ∧ OwnV w' w.heap.size A m c r.1 ∧ Below w.heap.size w w'

set_option maxHeartbeats 16000000 in
theorem bodies_any (w : World) (A : Option Addr) (n c : Nat) (l : List Int) (hn : l.length = n) (hnc : n ≤ c) (hcm : c ≤ maxLen) (hA : Rd w A l) (hB : IsB l) (E : Option Addr) (m d : Nat) (cs : List Int) (hm : cs.length = m) (hm64 : m ≤ 64) (hE : RdI w E cs) (hG : GoodC cs) (p N : Nat) (hp : p ≤ n) (hN : N ≤ m) (R : Ending → World → Prop) (hR : R = BodiesBack w (valsV l (cs.take N) p)) :
    Calls Try.prog 34 #[.slice A n c, .slice E m d, .int .i64 p, .int .i64 N] w R := by
  have HR := Lib.hid hR; clear hR
  have HL := Lib.hid hn; clear hn
  have HB := Lib.hid hB; clear hB
  have HA := Lib.hid hA; clear hA
  have HE := Lib.hid hE; clear hE
  have HG := Lib.hid hG; clear hG
  have HM := Lib.hid hm; clear hm
  have HC := Lib.hid hcm
  unfold maxLen at hcm
  have HS := Lib.hid (glueV_nil l (cs.take N) p).symm
  have hfin : ∀ W z, valsV l (cs.take N) p = ([], 0, z) → Below w.heap.size w W → R (.returned (.tuple #[.slice none 0 0, .int .i64 0, .int .i64 z])) W := fun W z h1 h2 => by
    rw [HR.out]
    exact ⟨none, 0, 0, by rw [h1], by rw [h1]; exact OwnV.nil _ _, h2⟩
  have HFIN := Lib.hid hfin; clear hfin
  go_enter Try.func34, Try.ntmps34
  go_wp2
  go_step3
  go_wp2
  go_step3
  go_wp2
  go_loopw [2, 11, 20] (fun a L i wr => ∃ (j q : Nat) (B : Option Addr) (cB : Nat) (acc : List Vl), j ≤ N ∧ i = .int .i64 j ∧ a = .int .i64 q ∧ q ≤ n ∧ L = .slice B j cB ∧ Hid (OwnV wr w.heap.size B j cB acc) ∧ Hid (valsV l (cs.take N) p = glueV acc (valsV l ((cs.take N).drop j) q)) ∧ Below w.heap.size w wr) (fun _ _ i _ => m - (intOf i).toNat)
  case atStart => exact ⟨0, p, none, 0, [], Nat.zero_le _, rfl, rfl, hp, rfl, Lib.hid (OwnV.nil _ _), HS, Below.refl _ _⟩
  case round =>
    obtain ⟨j, q, B, cB, acc, hj, rfl, rfl, hq, rfl, HO, HV, hb⟩ := hrel
    have hz0 := hb.size
    by_cases hlt : j < m
    · obtain ⟨b0, o0, hA', hcell⟩ := (HE.out.keep hb).at (by rw [HM.out]; omega)
      have hcj := hcell j (by rw [HM.out]; exact hlt)
      subst hA'
      clear hcell
      obtain ⟨k, hk⟩ : ∃ k, cs.getD j 0 = k := ⟨_, rfl⟩
      rw [hk] at hcj
      have HK := Lib.hid hk
      clear hk
      have i0 : (0 : Int) ≤ (j : Int) := by omega
      have i1 : (j : Int) < (m : Int) := by omega
      by_cases hjN : j = N
      · subst hjN
        have HF := Lib.hid (show valsV l (cs.take j) p = (acc, (q : Int), 0) by
          rw [HV.out, List.drop_of_length_le (by rw [List.length_take]; omega)]; exact glueV_end acc q)
        have hbq : ((j : Int) == (j : Int)) = true := by simp
        go_wp2_with fail
        rw [HR.out]
        exact ⟨_, _, _, by rw [HF.out] <;> rfl, by rw [HF.out]; exact HO.out, hb⟩
      have hbq : ((j : Int) == (N : Int)) = false := by simp; omega
      have hdrop : (cs.take N).drop j = k :: (cs.take N).drop (j + 1) := by
        have hlt2 : j < (cs.take N).length := by rw [List.length_take, HM.out]; omega
        rw [List.drop_eq_getElem_cons hlt2]
        congr 1
        rw [← HK.out]
        have : j < cs.length := by rw [HM.out]; exact hlt
        simp [this]
      have HV' := Lib.hid (show valsV l (cs.take N) p = glueV acc (valsV l (k :: (cs.take N).drop (j + 1)) q) by rw [← hdrop]; exact HV.out)
      have hgk : ¬ badC k ∧ k ≤ 8209 := by
        have : j < cs.length := by rw [HM.out]; exact hlt
        refine HG.out k ?_
        rw [← HK.out]
        simp [this]
      obtain ⟨g0, g1, g2⟩ := good_bd hgk
      have HGK := Lib.hid hgk
      clear hdrop HV hgk
      obtain ⟨T, hT⟩ : ∃ T : Nat, longI k = T := ⟨(longI k).toNat, by omega⟩
      have hlv : longV k = (T : Int) := (if_neg HGK.out.1).trans hT
      have HT := Lib.hid hT
      rw [hT] at g0 g1
      clear hT
      go_wp2_with fail
      refine (long_any _ k g2).mono ?_
      rintro e w1 ⟨rfl, rfl⟩
      simp only [hlv, decide_eq_false HGK.out.1]
      clear hlv g0
      by_cases hsh : (n : Int) - (q : Int) < (T : Int)
      · have HF := Lib.hid (show valsV l (cs.take N) p = ([], 0, 6) by rw [HV'.out, vals_short l k _ _ (by rw [HL.out, HT.out]; exact hsh), glueV_err _ _ (by decide)])
        go_wp2
        exact HFIN.out _ _ HF.out hb
      obtain ⟨Z, hZ⟩ : ∃ Z, Z = (l.drop q).take T := ⟨_, rfl⟩
      have hzl : Z.length = T := by rw [hZ]; simp only [List.length_take, List.length_drop, HL.out]; omega
      have HZL := Lib.hid hzl; clear hzl
      have hcut := run_cut A n c q T (by omega)
      have HZ := Lib.hid hZ; clear hZ
      have HZR := Lib.hid (show Rd wr (cutA A c q) Z by rw [HZ.out]; exact cutA_rd (HA.out.keep hb) c q T (by rw [HL.out]; exact hnc))
      have HZB := Lib.hid (show IsB Z by rw [HZ.out]; exact fun x hx => HB.out x (List.mem_of_mem_drop (List.mem_of_mem_take hx)))
      go_wp2_with fail
      refine (take_any _ (cutA A c q) T (c - q) k Z HZL.out HGK.out.1 HGK.out.2 (by rw [HT.out]) (by omega) (by unfold maxLen; omega) HZR.out HZB.out).mono ?_
      rintro e w2 ⟨rfl, hb2⟩
      have HO2 := Lib.hid (HO.out.keep hb2)
      have hB2 := hb.trans (hb2.mono hz0)
      have hz2 := hB2.size
      clear hb2 HO
      obtain ⟨v, hv⟩ : ∃ v, takeV k Z = v := ⟨_, rfl⟩
      have HTV := Lib.hid hv
      rw [hv]
      clear hv
      obtain ⟨ok, hok⟩ : ∃ ok, decide ((readV k Z).2 = 0) = ok := ⟨_, rfl⟩
      have HOK := Lib.hid hok
      simp only [hok]
      clear hok
      obtain ⟨W3, hW3⟩ : ∃ W, W = w2.alloc (.cells #[.int .i64 0, .int .i64 0, .string ⟨#[]⟩] 49) := ⟨_, rfl⟩
      have hb3 : Below w2.heap.size w2 W3 := by rw [hW3]; exact (Below.refl _ _).alloc (Nat.le_refl _) _
      have HTH := Lib.hid (show W3.there w2.heap.size 0 3 by
        rw [hW3]
        intro j hj
        rcases (by omega : j = 0 ∨ j = 1 ∨ j = 2) with rfl | rfl | rfl <;> simp [go_sem])
      have HW := Lib.hid hW3
      iterate 13 go_step
      rw [← hW3]
      clear hW3 HW
      refine wp_store_vl rfl _ _ rfl w2.heap.size v rfl rfl HTH.out ?_
      obtain ⟨W4, hW4⟩ : ∃ W, W = W3.setCells w2.heap.size 0 (vlC v) := ⟨_, rfl⟩
      have hb4 : Below w2.heap.size w2 W4 := by rw [hW4]; exact below_setCellsV hb3 (Nat.le_refl _) _ _
      have HV4 := Lib.hid (show VlAt W4 w2.heap.size v by rw [hW4]; exact VlAt.stored HTH.out v)
      rw [← hW4]
      clear hW4 hb3 HTH
      have HO4 := Lib.hid (HO2.out.keep hb4)
      have hB4 := hB2.trans (hb4.mono hz2)
      have hz4 := hB4.size
      clear hb4 HO2
      have hgl : (l.drop (q : Int).toNat).take (longI k).toNat = Z := by rw [HT.out, Int.toNat_natCast, Int.toNat_natCast, HZ.out]
      by_cases hokk : ok = true
      rotate_left
      · have hok2 : ok = false := by simpa using hokk
        subst hok2
        have HF := Lib.hid (show valsV l (cs.take N) p = ([], 0, 8) by
          rw [HV'.out, vals_bad l k _ _ (by rw [HL.out, HT.out]; omega) (by rw [hgl]; exact of_decide_eq_false HOK.out), glueV_err _ _ (by decide)])
        clear hgl
        go_wp2
        exact HFIN.out _ _ HF.out hB4
      subst hokk
      have HF := Lib.hid (show valsV l (cs.take N) p = glueV (acc ++ [v]) (valsV l ((cs.take N).drop (j + 1)) ((q : Int) + (T : Int))) by
        rw [HV'.out, vals_ok l k _ _ (by rw [HL.out, HT.out]; omega) (by rw [hgl]; exact of_decide_eq_true HOK.out), hgl, HTV.out, glueV_glue, HT.out])
      clear hgl
      obtain ⟨vk, vn, vs⟩ := v
      go_upto_region 13 with fail
      iterate 4 go_step
      refine wp_load_vl rfl _ rfl w2.heap.size ⟨vk, vn, vs⟩ rfl HV4.out ?_
      unfold Vl.val
      iterate 3 go_step
      refine wp_append_v rfl (.tmp 55) (.tmp 57) rfl w.heap.size B j cB acc rfl (HO4.out.keep ((Below.refl _ _).alloc (Nat.le_refl _) _)) _ _ ⟨vk, vn, vs⟩ rfl ⟨by simp [go_sem], by simp [go_sem], by simp [go_sem]⟩ (by omega) (by simp; omega) ?_
      intro A' c' w' hown hb'
      have HO' := Lib.hid hown
      have hB' : Below w.heap.size w w' := (hB4.alloc hz4 _).trans hb'
      clear hown hb'
      go_wp2_with fail
      go_roundw
      case rel => exact ⟨j + 1, q + T, A', c', acc ++ [⟨vk, vn, vs⟩], by omega, by go_num, by go_num, by omega, rfl, HO', HF, hB'⟩
      case measure => simp [intOf]; omega
    · have hjm : j = m := by omega
      have hNm : N = m := by omega
      subst hjm
      subst hNm
      have HF := Lib.hid (show valsV l (cs.take N) p = (acc, (q : Int), 0) by
        rw [HV.out, List.drop_of_length_le (by rw [List.length_take]; omega)]; exact glueV_end acc q)
      go_wp2_with fail
      rw [HR.out]
      exact ⟨_, _, _, by rw [HF.out] <;> rfl, by rw [HF.out]; exact HO.out, hb⟩
end Go.Proofs.Ytbbdglikdogmhaa
