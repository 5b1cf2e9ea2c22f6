/- The walk of the law JourOther. -/
import Derived.Test.YtlehpgokjppccaaJrT
import Derived.Test.YtlehpgokjppccaaJrU
import Derived.Test.YtlehpgokjppccaaSumD
import Derived.Deep.RegionHeld3
namespace Go.Proofs.Ytlehpgokjppccaa
open Go.RowKit
set_option maxRecDepth 100000
set_option linter.unusedSimpArgs false

set_option maxHeartbeats 8000000 in
theorem jother_walk (w : World) (s p k : Int) (A : Option Addr) (m c : Nat) (F : List Fr) (a b : Int) (hs : i64ok s) (hp : i64ok p) (hk : 0 ≤ k ∧ k ≤ 18446744073709551615) (hF : F.length = m) (hmc : m ≤ c) (hcm : c ≤ maxLen) (hA : RdFr w A F) (hok : ∀ f ∈ F, FrOk f) (_ha : -9223372036854775808 ≤ a ∧ a ≤ 9223372036854775807) (hb : 0 ≤ b ∧ b ≤ 4294967295) :
    Calls Try.prog 10 #[.agg #[.int .i64 s, .int .i64 p, .int .u64 k, .slice A m c], .int .i64 a, .int .u32 b] w (JYes w) := by
  have HS := Lib.hid hs; clear hs
  have HP := Lib.hid hp; clear hp
  have HK := Lib.hid hk; clear hk
  have HL := Lib.hid hF; clear hF
  have HOK := Lib.hid hok; clear hok
  have HC := Lib.hid hcm; clear hcm
  obtain ⟨W1, hW1⟩ : ∃ W, W = w.alloc (.cells #[.int .i64 s, .int .i64 p, .int .u64 k, .slice A m c] 59) := ⟨_, rfl⟩
  have hbW : Below w.heap.size w W1 := by rw [hW1]; exact (Below.refl _ _).alloc (Nat.le_refl _) _
  have hsW : W1.heap.size = w.heap.size + 1 := by rw [hW1]; simp
  have hat : MdAt W1 w.heap.size s p k A m c := by
    rw [hW1]
    exact ⟨by simp [go_sem], by simp [go_sem], by simp [go_sem], by simp [go_sem]⟩
  have HT := Lib.hid hat; clear hat
  have HA := Lib.hid (hA.keep hbW); clear hA
  have HW := Lib.hid hW1
  go_enter Try.func10, Try.ntmps10
  go_wp2_with fail
  rw [← hW1]
  clear hW1 HW
  refine (jawake_any _).mono ?_
  rintro e w1 ⟨rfl, hb1⟩
  have hB1 : Below w.heap.size w w1 := hbW.trans (hb1.mono (by omega))
  have hz1 := hb1.size
  have HT1 := Lib.hid (HT.out.keep hb1); clear HT
  have HA1 := Lib.hid (HA.out.keep hb1); clear HA hb1
  obtain ⟨k0, k1, k2, k3⟩ := HT1.out
  go_wp2_with fail
  refine (great_any _ A m c F HL.out (by have := HC.out; omega) HA1.out _ rfl).mono ?_
  rintro e w2 ⟨r, rfl, hr, rfl⟩
  cases r with
  | true =>
    clear hr
    go_wp2_with fail
    refine (jawake_any _).mono ?_
    rintro e w2 ⟨rfl, hb2⟩
    have hB2 := hB1.trans (hb2.mono hB1.size)
    go_wp2
    go_ret
    exact ⟨rfl, hB2⟩
  | false =>
    have hm50 := hr rfl
    clear hr
    by_cases hm0 : m = 0
    · subst hm0
      go_wp2_with fail
      refine (jawake_any _).mono ?_
      rintro e w2 ⟨rfl, hb2⟩
      have hB2 := hB1.trans (hb2.mono hB1.size)
      go_wp2
      go_ret
      exact ⟨rfl, hB2⟩
    have hme : ((m : Int) == 0) = false := by simp; omega
    obtain ⟨bA, oA, rfl, _⟩ := HA1.out.at (by rw [HL.out]; omega)
    go_upto_region 3 with fail
    clear k0 k1 k2 k3
    go_step
    refine wp_load_md rfl _ rfl w.heap.size s p k (some ⟨bA, oA, none⟩) m c rfl HT1.out ?_
    go_wp2_with fail
    refine (write_any _ s p k (some ⟨bA, oA, none⟩) m c F HS.out HP.out HK.out HL.out hm50 HA1.out HOK.out).mono ?_
    rintro e w3 ⟨A3, n3, c3, r, rfl, hb3, hr3⟩
    have hB3 := hB1.trans (hb3.mono hB1.size)
    have hz3 := hb3.size
    cases r with
    | false =>
      clear hr3
      go_wp2
      go_ret
      exact ⟨rfl, hB3⟩
    | true =>
      obtain ⟨ho, hf, hlen, hnc3, hcm3, hrd⟩ := hr3 rfl
      clear hr3
      obtain ⟨sn, rfl, hs0, hs4⟩ : ∃ sn : Nat, s = (sn : Int) ∧ 256 ≤ sn ∧ sn ≤ 4096 := by
        have := ho.1
        unfold isSize at this
        exact ⟨s.toNat, by omega, by omega, by omega⟩
      have hn3 : n3 = 28 + m * (sn + 8) := by rw [← hlen, jourL_length hf, HL.out, Int.toNat_natCast]
      have hmul : m * (sn + 8) ≤ 50 * 4104 := Nat.mul_le_mul hm50 (by omega)
      have HT3 := Lib.hid (HT1.out.keep hb3)
      have HA3 := Lib.hid (HA1.out.keep hb3)
      obtain ⟨b3, o3, rfl, _, hcells⟩ := hrd.at (by rw [hlen, hn3]; omega)
      clear hcells
      have HRD := Lib.hid hrd
      have HLEN := Lib.hid hlen
      have HFF := Lib.hid hf
      have HO := Lib.hid ho
      clear hrd hlen hf ho hb3 HT1 HA1
      obtain ⟨m0, m1⟩ := u64_wrap_bd a
      have hb28 : 28 ≤ n3 := by omega
      have hbn : n3 ≤ 205228 := by omega
      have hb29 : 28 < n3 := by
        have : 0 < m * (sn + 8) := Nat.mul_pos (by omega) (by omega)
        omega
      have HN3 := Lib.hid hn3
      clear hn3 hmul
      obtain ⟨i, hi, hrem⟩ := rem_nat (IntKind.u64.wrap a) 8 (by decide)
      have hrem' : IntKind.u64.wrap a % 8 = (i : Int) := hrem
      clear hrem
      have hi8 : i ≤ 7 := by omega
      have yi : -9223372036854775808 ≤ (i : Int) ∧ (i : Int) ≤ 9223372036854775807 := by omega
      have e7 : wrap64 ((IntKind.u64.wrap a).tmod 8) = (i : Int) := by
        rw [Int.tmod_eq_emod_of_nonneg m0, hrem']
        exact IntWalk.wrap64_in _ yi
      have HE7 := Lib.hid e7
      clear e7 hrem' m0 m1 yi
      obtain ⟨O, hO⟩ : ∃ O, O = (turnN i (fxL k 8) b 4).1 := ⟨_, rfl⟩
      have hOB : IsB O := by rw [hO]; exact turnN_isB (fxL_isB _ _) _ _ _
      have hOl : O.length = 8 := by rw [hO, turnN_length, fxL_length]
      have hkb := beI_lt hOB 8 (by omega)
      rw [pow8] at hkb
      have hfx : fxL (beI O) 8 = O := fx_be hOB hOl
      have hrd8 : readL O 0 8 = (beI O, 0) := read_at O 0 8 (beI O) (by omega) (by decide) (by decide) (by rw [List.drop_zero, List.take_of_length_le (by omega)])
      have htk : (fxL (beI O) 8).take i = (fxL k 8).take i := by rw [hfx, hO, turnN_take]
      have hdr : (fxL (beI O) 8).drop (i + 4) = (fxL k 8).drop (i + 4) := by rw [hfx, hO, turnN_drop]
      have HOB := Lib.hid hOB
      have HOL := Lib.hid hOl
      have HRD8 := Lib.hid hrd8
      have HOE := Lib.hid hO
      generalize hkk : beI O = k' at hkb htk hdr HRD8
      have hoth : k' ≠ k → frsL k' sn (entsL k F) = [] := fun hne => by
        have h1 := HFF.out
        rw [Int.toNat_natCast] at h1
        exact ents_other h1 htk hdr HK.out (by omega) hne
      have hall : frsL k sn (entsL k F) = F := by
        have h1 := HFF.out
        rw [Int.toNat_natCast] at h1
        exact frs_all k h1
      have hscan := scan_jour HO.out (show 0 ≤ k' ∧ k' ≤ 18446744073709551615 by omega) (entsL k F)
      rw [Int.toNat_natCast] at hscan
      have HOTH := Lib.hid hoth
      have HALL := Lib.hid hall
      have HSCAN := Lib.hid hscan
      have hk0 : 0 ≤ k' ∧ k' ≤ 18446744073709551615 := by omega
      have HK0 := Lib.hid hk0
      clear hoth hall hscan htk hdr hfx hrd8 hOB hOl hO hkk hkb hk0
      obtain ⟨k0, k1, k2, k3⟩ := HT3.out
      go_wp2_with fail
      refine (rfixed_put _ k 8 HK.out.1 HK.out.2 (by decide) (by decide)).mono ?_
      rintro e w4 ⟨A4, c4, rfl, hown4, hb4⟩
      have HO4 := Lib.hid hown4
      have HT4 := Lib.hid (HT3.out.keep hb4)
      have HA4 := Lib.hid (HA3.out.keep hb4)
      have HRD4 := Lib.hid (HRD.out.keep hb4)
      have hB4 := hB3.trans (hb4.mono hB3.size)
      have hz4 := hb4.size
      clear hown4 hb4 k0 k1 k2 k3
      go_wp2_with fail
      rw [HE7.out]
      refine (turned_any _ A4 8 c4 (fxL k 8) i b (fxL_length _ _) (by decide) (by omega) hb.1 hb.2 HO4.out.rd).mono ?_
      rintro e w5 ⟨A5, n5, c5, rfl, hown5, hb5⟩
      rw [← HOE.out] at hown5
      have hn5 : 8 = n5 := by rw [← hown5.len, HOL.out]
      subst hn5
      have HO5 := Lib.hid hown5
      have HT5 := Lib.hid (HT4.out.keep hb5)
      have HA5 := Lib.hid (HA4.out.keep hb5)
      have HRD5 := Lib.hid (HRD4.out.keep hb5)
      have hB5 := hB4.trans (hb5.mono hB4.size)
      have hz5 := hb5.size
      clear hown5 hb5
      go_wp2_with fail
      refine (rread_any _ A5 8 c5 O 0 8 HOL.out HO5.out.cap.1 HO5.out.cap.2 HO5.out.rd HOB.out (by omega)).mono ?_
      rintro e w6 ⟨rfl, rfl⟩
      simp only [show readL O 0 8 = (k', 0) from HRD8.out]
      obtain ⟨k0, k1, k2, k3⟩ := HT5.out
      go_wp2_with fail
      refine (jStart_full _ (sn : Int) p k' HS.out HP.out HK0.out HO.out _ rfl).mono ?_
      rintro e w6 ⟨A6, rfl, hrd6, hb6⟩
      have HR6 := Lib.hid hrd6
      have HT6 := Lib.hid (HT5.out.keep hb6)
      have HA6 := Lib.hid (HA5.out.keep hb6)
      have HRD6 := Lib.hid (HRD5.out.keep hb6)
      have hB6 := hB5.trans (hb6.mono hB5.size)
      have hz6 := hb6.size
      clear hrd6 hb6 k0 k1 k2 k3
      have hdrop : (jourL (sn : Int) p k F).drop 28 = entsL k F := by rw [jourL, List.drop_left' (startH_length _ _ _)]
      have HRE := Lib.hid (show Rd w6 (some ⟨b3, o3 + 28, none⟩) (entsL k F) by rw [← hdrop]; exact rd_off HRD6.out 28)
      have HEL := Lib.hid (show (entsL k F).length = n3 - 28 by rw [← hdrop, List.length_drop, HLEN.out])
      have HEB := Lib.hid (entsL_isB (k := k) HFF.out)
      clear hdrop
      have hba : Below w6.heap.size w6 ((w6.alloc (.cells #[] 5)).drew) := ((Below.refl _ _).alloc (Nat.le_refl _) _).drew
      have f1 : ¬ c3 = 28 := by omega
      have hsum : 28 + (n3 - 28) = n3 := by omega
      have f2 : (28 : Int) ≤ (n3 : Int) := by omega
      go_upto_region 8 with fail
      refine wp_region_held_drew (S := (fun W => Below w6.heap.size w6 W)) (by kernel_rfl) ?_ (fun hHeld => ?_)
      · exact (Below.refl _ w6).drew
      refine' wpAnyH_take (i := 1) (oi := _) (v := _) rfl (by kernel_rfl) (by kernel_rfl) (by kernel_rfl) (fun _ _ _ h => h) (Or.inl ⟨by rfl, ?hy1⟩) (by assumption) ?rest1
      case hy1 => (intro w' hSw; (try dsimp only at hSw); go_simp; try with_reducible rfl)
      try simp only [Act.put, List.setIfInBounds_toArray, List.set_cons_zero, List.set_cons_succ, List.getElem_toArray, List.getElem_cons_zero, List.getElem_cons_succ]
      refine' wpAnyH_take (i := 3) (oi := _) (v := _) rfl (by kernel_rfl) (by kernel_rfl) (by kernel_rfl) (fun _ _ _ h => h) (Or.inl ⟨by rfl, ?hy3⟩) (by assumption) ?rest3
      case hy3 => (intro w' hSw; (try dsimp only at hSw); go_simp; try with_reducible rfl)
      try simp only [Act.put, List.setIfInBounds_toArray, List.set_cons_zero, List.set_cons_succ, List.getElem_toArray, List.getElem_cons_zero, List.getElem_cons_succ]
      refine' wpAnyH_take (i := 4) (oi := _) (v := _) rfl (by kernel_rfl) (by kernel_rfl) (by kernel_rfl) (fun _ _ _ h => h) (Or.inl ⟨by rfl, ?hy4⟩) (by assumption) ?rest4
      case hy4 => (intro w' hSw; (try dsimp only at hSw); go_simp; try with_reducible rfl)
      try simp only [Act.put, List.setIfInBounds_toArray, List.set_cons_zero, List.set_cons_succ, List.getElem_toArray, List.getElem_cons_zero, List.getElem_cons_succ]
      refine wpAnyH_ready (rs := [0]) (by kernel_rfl) (by simp) ?_
      refine AllReadyH.cons (o := _) rfl (fun K hK => ?_) AllReadyH.nil
      go_simp
      refine hK.out _ _ ?_ (fun hHeld => ?_)
      · exact hba
      clear hK K
      try simp only [Act.put, List.setIfInBounds_toArray, List.set_cons_zero, List.set_cons_succ, List.getElem_toArray, List.getElem_cons_zero, List.getElem_cons_succ]
      refine wpAnyH_ready (rs := [2]) (by kernel_rfl) (by simp) ?_
      refine AllReadyH.cons (o := _) rfl (fun K hK => ?_) AllReadyH.nil
      refine step_append rfl (.tmp 62) (.tmp 63) rfl w6.heap.size _ _ _ [] rfl ((OwnB.lit w6 #[] [] _ 0 rfl rfl (Nat.le_refl _) (by decide)).keep ((Below.refl _ _).drew)) A6 28 28 (startH (sn : Int) p k') rfl (startH_length _ _ _) (HR6.out.keep hba) (by omega) (by simp) ?_
      intro A7 c7 w7 hown7 _ hb7
      have hb7' : Below w6.heap.size w6 w7 := hba.trans hb7
      clear hb7
      simp only [List.nil_append, Nat.zero_add] at hown7 ⊢
      have HO7 := Lib.hid hown7
      clear hown7
      have hz7 := hb7'.size
      refine hK.out _ _ ?_ (fun hHeld => ?_)
      · exact hb7'
      clear hK K
      try simp only [Act.put, List.setIfInBounds_toArray, List.set_cons_zero, List.set_cons_succ, List.getElem_toArray, List.getElem_cons_zero, List.getElem_cons_succ]
      refine wpAnyH_ready (rs := [5]) (by kernel_rfl) (by simp) ?_
      refine AllReadyH.cons (o := _) rfl (fun K hK => ?_) AllReadyH.nil
      refine step_append rfl (.tmp 64) (.tmp 66) rfl w6.heap.size A7 28 c7 _ rfl HO7.out (some ⟨b3, o3 + 28, none⟩) (n3 - 28) (c3 - 28) (entsL k F) rfl HEL.out (HRE.out.keep hb7') (by omega) hz7 ?_
      intro A8 c8 w8 hown8 _ hb8
      rw [hsum] at hown8 ⊢
      have hb8' : Below w6.heap.size w6 w8 := hb7'.trans hb8
      clear hb8
      have HO8 := Lib.hid hown8
      clear hown8
      refine hK.out _ _ ?_ (fun hHeld => ?_)
      · exact hb8'
      clear hK K
      try simp only [Act.put, List.setIfInBounds_toArray, List.set_cons_zero, List.set_cons_succ, List.getElem_toArray, List.getElem_cons_zero, List.getElem_cons_succ]
      refine wpAnyH_ready (rs := [6]) (by kernel_rfl) (by simp) ?_
      refine AllReadyH.cons (o := _) rfl (fun K hK => ?_) AllReadyH.nil
      go_simp
      go_at_call 22
      refine (scan_any _ A8 n3 c8 (startH (sn : Int) p k' ++ entsL k F) HO8.out.len HO8.out.cap.1 HO8.out.cap.2 HO8.out.rd (isB_append (startH_isB _ _ _) HEB.out) (by omega)).mono ?_
      rintro e w9 ⟨A9, m9, c9, rfl, h91, h92, h93, hb9⟩
      simp only [HSCAN.out] at h91 h93 ⊢
      have hb9' : Below w6.heap.size w6 w9 := hb8'.trans (hb9.mono hb8'.size)
      clear hb9
      refine hK.out _ _ ?_ (fun hHeld => ?_)
      · exact hb9'
      clear hK K
      try simp only [Act.put, List.setIfInBounds_toArray, List.set_cons_zero, List.set_cons_succ, List.getElem_toArray, List.getElem_cons_zero, List.getElem_cons_succ]
      refine' wpAnyH_take (i := 7) (oi := _) (v := _) rfl (by kernel_rfl) (by kernel_rfl) (by kernel_rfl) (fun _ _ _ h => h) (Or.inl ⟨by rfl, ?hy7⟩) (by assumption) ?rest7
      case hy7 => (intro w' hSw; (try dsimp only at hSw); go_simp; try with_reducible rfl)
      try simp only [Act.put, List.setIfInBounds_toArray, List.set_cons_zero, List.set_cons_succ, List.getElem_toArray, List.getElem_cons_zero, List.getElem_cons_succ]
      refine' wpAnyH_take (i := 8) (oi := _) (v := _) rfl (by kernel_rfl) (by kernel_rfl) (by kernel_rfl) (fun _ _ _ h => h) (Or.inl ⟨by rfl, ?hy8⟩) (by assumption) ?rest8
      case hy8 => (intro w' hSw; (try dsimp only at hSw); go_simp; try with_reducible rfl)
      try simp only [Act.put, List.setIfInBounds_toArray, List.set_cons_zero, List.set_cons_succ, List.getElem_toArray, List.getElem_cons_zero, List.getElem_cons_succ]
      refine' wpAnyH_take (i := 9) (oi := _) (v := _) rfl (by kernel_rfl) (by kernel_rfl) (by kernel_rfl) (fun _ _ _ h => h) (Or.inl ⟨by rfl, ?hy9⟩) (by assumption) ?rest9
      case hy9 => (intro w' hSw; (try dsimp only at hSw); go_simp; try with_reducible rfl)
      try simp only [Act.put, List.setIfInBounds_toArray, List.set_cons_zero, List.set_cons_succ, List.getElem_toArray, List.getElem_cons_zero, List.getElem_cons_succ]
      refine' wpAnyH_take (i := 10) (oi := _) (v := _) rfl (by kernel_rfl) (by kernel_rfl) (by kernel_rfl) (fun _ _ _ h => h) (Or.inl ⟨by rfl, ?hy10⟩) (by assumption) ?rest10
      case hy10 => (intro w' hSw; (try dsimp only at hSw); go_simp; try with_reducible rfl)
      try simp only [Act.put, List.setIfInBounds_toArray, List.set_cons_zero, List.set_cons_succ, List.getElem_toArray, List.getElem_cons_zero, List.getElem_cons_succ]
      refine' wpAnyH_take (i := 11) (oi := _) (v := _) rfl (by kernel_rfl) (by kernel_rfl) (by kernel_rfl) (fun _ _ _ h => h) (Or.inl ⟨by rfl, ?hy11⟩) (by assumption) ?rest11
      case hy11 => (intro w' hSw; (try dsimp only at hSw); go_simp; try with_reducible rfl)
      try simp only [Act.put, List.setIfInBounds_toArray, List.set_cons_zero, List.set_cons_succ, List.getElem_toArray, List.getElem_cons_zero, List.getElem_cons_succ]
      refine' wpAnyH_take (i := 12) (oi := _) (v := _) rfl (by kernel_rfl) (by kernel_rfl) (by kernel_rfl) (fun _ _ _ h => h) (Or.inl ⟨by rfl, ?hy12⟩) (by assumption) ?rest12
      case hy12 => (intro w' hSw; (try dsimp only at hSw); go_simp; try with_reducible rfl)
      try simp only [Act.put, List.setIfInBounds_toArray, List.set_cons_zero, List.set_cons_succ, List.getElem_toArray, List.getElem_cons_zero, List.getElem_cons_succ]
      refine' wpAnyH_take (i := 13) (oi := _) (v := _) rfl (by kernel_rfl) (by kernel_rfl) (by kernel_rfl) (fun _ _ _ h => h) (Or.inl ⟨by rfl, ?hy13⟩) (by assumption) ?rest13
      case hy13 => (intro w' hSw; (try dsimp only at hSw); go_simp; try with_reducible rfl)
      try simp only [Act.put, List.setIfInBounds_toArray, List.set_cons_zero, List.set_cons_succ, List.getElem_toArray, List.getElem_cons_zero, List.getElem_cons_succ]
      refine' wpAnyH_take (i := 14) (oi := _) (v := _) rfl (by kernel_rfl) (by kernel_rfl) (by kernel_rfl) (fun _ _ _ h => h) (Or.inl ⟨by rfl, ?hy14⟩) (by assumption) ?rest14
      case hy14 => (intro w' hSw; (try dsimp only at hSw); go_simp; try with_reducible rfl)
      try simp only [Act.put, List.setIfInBounds_toArray, List.set_cons_zero, List.set_cons_succ, List.getElem_toArray, List.getElem_cons_zero, List.getElem_cons_succ]
      refine' wpAnyH_take (i := 15) (oi := _) (v := _) rfl (by kernel_rfl) (by kernel_rfl) (by kernel_rfl) (fun _ _ _ h => h) (Or.inl ⟨by rfl, ?hy15⟩) (by assumption) ?rest15
      case hy15 => (intro w' hSw; (try dsimp only at hSw); go_simp; try with_reducible rfl)
      try simp only [Act.put, List.setIfInBounds_toArray, List.set_cons_zero, List.set_cons_succ, List.getElem_toArray, List.getElem_cons_zero, List.getElem_cons_succ]
      refine wpAnyH_done (by kernel_rfl) ?_ _
      have hB9 := hB6.trans (hb9'.mono hB6.size)
      have hz9 := hb9'.size
      have HT9 := Lib.hid (HT6.out.keep hb9')
      have HA9 := Lib.hid (HA6.out.keep hb9')
      have HF9 := Lib.hid h93
      have HL9 := Lib.hid h91
      clear h93 h91 hb7' hb8' hb9' hba
      obtain ⟨k0, k1, k2, k3⟩ := HT9.out
      by_cases hkk : k' = k
      · have hkq : (k' == k) = true := by simp [hkk]
        have hF9 := HF9.out
        have hL9 := HL9.out
        rw [hkk, HALL.out] at hF9 hL9
        have HF10 := Lib.hid hF9
        have HL10 := Lib.hid hL9
        clear hF9 hL9
        have z0 : (0 : Int) ≤ (m : Int) := by omega
        have z1 : (m : Int) ≤ (c : Int) := by omega
        go_wp2_with fail
        refine (frames_any _ A9 (some ⟨bA, oA, none⟩) m9 c9 m c F F HL10.out HL.out h92 HF10.out HA9.out).mono ?_
        rintro e w10 ⟨rfl, hb10⟩
        simp only [decide_true]
        have hB10 := hB9.trans (hb10.mono hB9.size)
        clear hb10
        go_wp2
        go_ret
        exact ⟨rfl, hB10⟩
      · have hkq : (k' == k) = false := by simp [hkk]
        have hF9 := HF9.out
        have hL9 := HL9.out
        rw [HOTH.out hkk] at hF9 hL9
        have HF10 := Lib.hid hF9
        have HL10 := Lib.hid hL9
        clear hF9 hL9
        have z1 : (0 : Int) ≤ (c : Int) := by omega
        go_wp2_with fail
        refine (frames_any _ A9 (some ⟨bA, oA, none⟩) m9 c9 0 c [] [] HL10.out rfl h92 HF10.out (.inl rfl)).mono ?_
        rintro e w10 ⟨rfl, hb10⟩
        simp only [decide_true]
        have hB10 := hB9.trans (hb10.mono hB9.size)
        clear hb10
        go_wp2
        go_ret
        exact ⟨rfl, hB10⟩
end Go.Proofs.Ytlehpgokjppccaa
