/- Several texts of this proof as one: JrJ. Laid by merge.py. -/
import Derived.Test.YtlehpgokjppccaaTfA
import Derived.Test.YtlehpgokjppccaaTfB
import Derived.Test.YtlehpgokjppccaaTfC
import Derived.Test.YtlehpgokjppccaaTfD
import Derived.Test.YtlehpgokjppccaaTfF
import Derived.ArgAppend
import Derived.BigQuiet
import Derived.ChangeKeysEq
import Derived.Deep.DeepCutAuto
import Derived.Deep.MidRow
import Derived.Deep.QuietTactic
import Derived.Deep.RegionHeld3
import Derived.Deep.RegionLaw
import Derived.Handy
import Derived.Laws.Externs
import Derived.Laws.ResultCell
import Derived.Lib.AppendStr
import Derived.Lib.Hide
import Derived.Lib.MakeNoZero
import Derived.Lib.SlBuf
import Derived.Lib.SmallJoins
import Derived.Maps.AppendAt
import Derived.Test.YtlehpgokjppccaaProg
import Derived.WalkKit
import Derived.WalkMore
import Derived.WalkSpells
namespace Go.Proofs.Ytlehpgokjppccaa
section
open Go.RowKit
set_option maxRecDepth 100000
set_option linter.unusedSimpArgs false
theorem rd_off {w : World} {g off : Nat} {l : List Int} (h : Rd w (some ⟨g, off, none⟩) l) (k : Nat) : Rd w (some ⟨g, off + k, none⟩) (l.drop k) := by
  rcases h with rfl | ⟨b, o, he, hc⟩
  · exact .inl (by simp)
  · cases he
    refine .inr ⟨_, _, rfl, fun i hi => ?_⟩
    simp at hi
    have := hc (k + i) (by omega)
    rw [show off + k + i = off + (k + i) by omega, this, bt_drop]
def ScRel (w : World) (base : Nat) (k : Int) (s : Nat) (l : List Int) (n : Nat) (v z : Value) (wr : World) : Prop :=
  ∃ (at_ m c : Nat) (A : Option Addr) (F : List Fr), z = .int .i64 at_ ∧ v = .slice A m c ∧ 28 ≤ at_ ∧ at_ ≤ n ∧ m ≤ at_ ∧ OwnF wr base A m c F ∧ Hid (F ++ frsL k s (l.drop at_) = frsL k s (l.drop 28)) ∧ base ≤ wr.heap.size ∧ Below w.heap.size w wr

set_option maxHeartbeats 8000000 in
theorem scan_good (w : World) (A : Option Addr) (n c : Nat) (l : List Int) (hn : l.length = n) (hnc : n ≤ c) (hcm : c ≤ maxLen) (hA : Rd w A l) (hB : IsB l) (h28 : 28 ≤ n) (hs : l.take 8 = jsign) (hok : hdOk l) (hbig : n ≤ 900000000000) (R : Ending → World → Prop) (hR : R = ScanBack w l) :
    Calls Try.prog 22 #[.slice A n c] w R := by
  have HR := Lib.hid hR; clear hR
  have hsc : scanL l = ⟨fourI l 8, fourI l 12, eightI l 16, frsL (eightI l 16) (fourI l 8).toNat (l.drop 28), 0⟩ := by
    rw [scanL, if_neg (by omega), if_neg (by simp [hs]), if_pos hok]
  have HSC := Lib.hid hsc; clear hsc
  have hs1 := run_str w A 8 c (l.take 8) (by rw [List.length_take, hn]; omega) (rd_take hA 8)
  rw [hs] at hs1
  have hcmp : ((strOfNums jsign).toList == ([116, 111, 109, 101, 32, 106, 110, 108] : List UInt8)) = true := by
    rw [jsign_const]; rfl
  obtain ⟨b, off, rfl, _, hcells⟩ := hA.at (by rw [hn]; omega)
  clear hcells hs
  have hc8 : 8 ≤ c := by omega
  have hc28 : 28 ≤ c := by omega
  have HN := Lib.hid hn; clear hn
  have HA := Lib.hid hA; clear hA
  have HB := Lib.hid hB; clear hB
  have HC := Lib.hid hcm
  obtain ⟨ho, he⟩ := hok
  obtain ⟨p0, p1⟩ := four_bd HB.out 12
  obtain ⟨k0, k1⟩ := eight_bd HB.out 16
  obtain ⟨s, hsz, hs4, hs256⟩ : ∃ s : Nat, fourI l 8 = (s : Int) ∧ s ≤ 4096 ∧ 256 ≤ s := by
    have := ho.1
    unfold isSize at this
    exact ⟨(fourI l 8).toNat, by omega, by omega, by omega⟩
  have r1 := read_at l 8 4 (fourI l 8) (by rw [HN.out]; omega) (by decide) (by decide) rfl
  have r2 := read_at l 12 4 (fourI l 12) (by rw [HN.out]; omega) (by decide) (by decide) rfl
  have r3 := read_at l 16 8 (eightI l 16) (by rw [HN.out]; omega) (by decide) (by decide) rfl
  rw [hsz] at r1 ho he
  have HR1 := Lib.hid r1; clear r1
  have HR2 := Lib.hid r2; clear r2
  have HR3 := Lib.hid r3; clear r3
  have HSZ := Lib.hid hsz; clear hsz
  have hst : startL (s : Int) (fourI l 12) (eightI l 16) = l.take 28 := by rw [← he]; exact if_pos ho
  have hse : startE (s : Int) (fourI l 12) = 0 := if_pos ho
  have HST := Lib.hid hst; clear hst he ho
  have HSE := Lib.hid hse; clear hse
  have hws : IntKind.i64.wrap (s : Int) = (s : Int) := IntWalk.i64_in _ (by omega)
  have hwp : IntKind.i64.wrap (fourI l 12) = fourI l 12 := IntWalk.i64_in _ (by omega)
  have hw4 : IntKind.i64.wrap (4 + (s : Int)) = 4 + (s : Int) := IntWalk.i64_in _ (by omega)
  have hw8 : IntKind.i64.wrap (4 + (s : Int) + 4) = 4 + (s : Int) + 4 := IntWalk.i64_in _ (by omega)
  go_enter Try.func22, Try.ntmps22
  go_wp2_with fail
  go_step3
  go_wp2_with fail
  refine (read_any _ _ n c l 8 4 HN.out hnc hcm HA.out HB.out (by omega)).mono ?_
  rintro e w1 ⟨rfl, rfl⟩
  simp only [show readL l 8 4 = ((s : Int), 0) from HR1.out]
  go_wp2_with fail
  refine (read_any _ _ n c l 12 4 HN.out hnc HC.out HA.out HB.out (by omega)).mono ?_
  rintro e w1 ⟨rfl, rfl⟩
  simp only [show readL l 12 4 = (fourI l 12, 0) from HR2.out]
  go_wp2_with fail
  refine (read_any _ _ n c l 16 8 HN.out hnc HC.out HA.out HB.out (by omega)).mono ?_
  rintro e w1 ⟨rfl, rfl⟩
  simp only [show readL l 16 8 = (eightI l 16, 0) from HR3.out]
  go_wp2_with fail
  refine (jStart_any _ (s : Int) (fourI l 12) (eightI l 16) (by unfold i64ok; omega) (by unfold i64ok; omega) (by omega)).mono ?_
  rintro e w2 ⟨A2, n2, c2, rfl, h1, h2, h3, h4, h5⟩
  clear hs1 hcmp
  rw [HST.out] at h1 h4
  simp only [HSE.out]
  have hs2 := fun k => run_str (w2.drewN k) A2 n2 c2 (l.take 28) h1 (h4.keep (below_drewN (Below.refl _ _) k))
  have hs3 := fun k => run_str (w2.drewN k) (some ⟨b, off, none⟩) 28 c (l.take 28) (by rw [List.length_take, HN.out]; omega) (rd_take ((HA.out.keep h5).keep (below_drewN (Below.refl _ _) k)) 28)
  have HB2 := Lib.hid h5; clear h5 h4 h1
  go_upto_region 9 with fail
  go_quiet (fail)
  clear hs2 hs3
  go_wp2_with fail
  go_step3
  go_wp2_with fail
  have hB3 : Below w.heap.size w (w2.drewN nq) := below_drewN HB2.out nq
  generalize w2.drewN nq = w3 at hB3 ⊢
  clear HB2
  have hz3 := hB3.size
  generalize hk : eightI l 16 = k at *
  generalize hp : fourI l 12 = p at *
  have HK := Lib.hid hk; clear hk
  have HP := Lib.hid hp; clear hp
  go_loopw [4, 15] (fun v z wr => ScRel w w3.heap.size k s l n v z wr) (fun _ z _ => n - (intOf z).toNat)
  case atStart => exact ⟨28, 0, 0, none, [], rfl, rfl, Nat.le_refl _, h28, by omega, OwnF.nil _ _, by simp [Hid], Nat.le_refl _, hB3⟩
  case round =>
    obtain ⟨at_, m, cf, Af, F, rfl, rfl, q28, qn, qm, hown, HF, hbs, hb⟩ := hrel
    have hsub : IntKind.i64.wrap ((n : Int) - (at_ : Int)) = (n : Int) - (at_ : Int) := IntWalk.i64_in _ (by omega)
    have HO := Lib.hid hown; clear hown
    have hend : ∀ W : World, Below wr.heap.size wr W → frsL k s (l.drop at_) = [] → R (.returned (.tuple #[.int .i64 (s : Int), .int .i64 p, .slice Af m cf, .int .i64 0])) W := by
      intro W hW h0
      have h1 := HF.out
      rw [h0, List.append_nil] at h1
      have hz : (fourI l 8).toNat = s := by rw [HSZ.out]; omega
      rw [HR.out]
      refine ⟨Af, m, cf, ?_, ?_, Nat.le_trans HO.out.cap.1 HO.out.cap.2, ?_, hb.trans (hW.mono hb.size)⟩
      · simp only [HSC.out, HSZ.out]
      · rw [HSC.out]; simp only; rw [hz, ← h1]; exact HO.out.1
      · rw [HSC.out]; simp only; rw [hz, ← h1]; exact (HO.out.keep hW).rd
    have HEND := Lib.hid hend; clear hend
    by_cases hlt : n - at_ < s + 8
    · have hx : (n : Int) - (at_ : Int) < 4 + (s : Int) + 4 := by omega
      go_wp2
      rw [Exit.noGoto_ret]
      refine bodyPost_ret (results_tmp4 rfl _ _ _) rfl ?_
      exact HEND.out _ (Below.refl _ _) (frs_end (by rw [List.length_drop, HN.out]; exact hlt))
    · have hx : ¬ (n : Int) - (at_ : Int) < 4 + (s : Int) + 4 := by omega
      have e2 : IntKind.i64.wrap ((at_ : Int) + 4) = (at_ : Int) + 4 := IntWalk.i64_in _ (by omega)
      have e3 : IntKind.i64.wrap ((at_ : Int) + 4 + (s : Int)) = (at_ : Int) + 4 + (s : Int) := IntWalk.i64_in _ (by omega)
      have r4 := read_at l at_ 4 (fourI l at_) (by rw [HN.out]; omega) (by decide) (by decide) rfl
      have HR4 := Lib.hid r4; clear r4
      have b0 : (0 : Int) ≤ (at_ : Int) := by omega
      have b1 : (at_ : Int) ≤ (at_ : Int) + 4 + (s : Int) := by omega
      have b2 : (at_ : Int) + 4 + (s : Int) ≤ (c : Int) := by omega
      have hA4 := HA.out.keep hb
      have HA4 := Lib.hid hA4; clear hA4
      obtain ⟨g0, g1⟩ := four_bd HB.out at_
      go_wp2_with fail
      refine (read_any _ _ n c l at_ 4 HN.out hnc HC.out HA4.out HB.out (by omega)).mono ?_
      rintro e w4 ⟨rfl, rfl⟩
      simp only [show readL l (at_ : Int) 4 = (fourI l at_, 0) from HR4.out]
      go_upto_region 17 with fail
      rw [show at_ + 4 + s - at_ = 4 + s by omega]
      have ht0 : fourI (l.drop at_) 0 = fourI l at_ := by simp [fourI]
      have HT0 := Lib.hid ht0; clear ht0
      by_cases c1 : fourI l at_ < 1
      · have HC1 := Lib.hid c1
        go_quiet (fail)
        go_wp2
        rw [Exit.noGoto_ret]
        refine bodyPost_ret (results_tmp4 rfl _ _ _) rfl ?_
        exact HEND.out _ (below_drewN (Below.refl _ _) nq) (frs_stop (fun h => by have h1 := h.1; have h2 := HT0.out; have h3 := HC1.out; omega))
      · by_cases c2 : 1048576 < fourI l at_
        · have HC2 := Lib.hid c2
          go_quiet (fail)
          go_wp2
          try rw [Exit.noGoto_ret]
          refine bodyPost_ret (results_tmp4 rfl _ _ _) rfl ?_
          exact HEND.out _ (below_drewN (Below.refl _ _) nq) (frs_stop (fun h => by have h1 := h.2.1; have h2 := HT0.out; have h3 := HC2.out; omega))
        · have e4 : IntKind.i64.wrap ((at_ : Int) + (4 + (s : Int) + 4)) = (at_ : Int) + (4 + (s : Int) + 4) := IntWalk.i64_in _ (by omega)
          have b4 : (0 : Int) ≤ (at_ : Int) + 4 + (s : Int) := by omega
          have b5 : (at_ : Int) + 4 + (s : Int) ≤ (at_ : Int) + (4 + (s : Int) + 4) := by omega
          have b6 : (at_ : Int) + (4 + (s : Int) + 4) ≤ (c : Int) := by omega
          have d1 : decide (fourI l at_ < 1) = false := decide_eq_false c1
          have d2 : decide (1048576 < fourI l at_) = false := decide_eq_false c2
          obtain ⟨X, hX⟩ : ∃ X, X = fxL (sumI (fxL k 8 ++ (l.drop at_).take (4 + s))) 4 := ⟨_, rfl⟩
          have HX := Lib.hid hX; clear hX
          have t1 : ((at_ : Int) + 4 + (s : Int)).toNat = at_ + 4 + s := by omega
          have t2 : ((at_ : Int) + (4 + (s : Int) + 4)).toNat = at_ + (4 + s + 4) := by omega
          have hcne : ¬ c = at_ + 4 + s := by omega
          obtain ⟨Y, hYe⟩ : ∃ Y, Y = ((l.drop at_).drop (4 + s)).take 4 := ⟨_, rfl⟩
          have HYE := Lib.hid hYe; clear hYe
          have hY : ∀ W : World, Below wr.heap.size wr W → (convert 24 9 (.slice (some ⟨b, off + (at_ + 4 + s), none⟩) (at_ + (4 + s + 4) - (at_ + 4 + s)) (c - (at_ + 4 + s)))).run Try.prog W = .ok (.string (strOfNums Y)) W := by
            intro W hW
            rw [HYE.out]
            have hr := rd_take (rd_off (rd_off (HA4.out.keep hW) at_) (4 + s)) 4
            rw [show off + at_ + (4 + s) = off + (at_ + 4 + s) by omega] at hr
            exact run_str W _ _ _ _ (by simp only [List.length_take, List.length_drop, HN.out]; omega) hr
          have HKB := Lib.hid (show 0 ≤ k ∧ k ≤ 18446744073709551615 by omega)
          have HRB := Lib.hid (rd_take (rd_off HA4.out at_) (4 + s))
          have HIB := Lib.hid (isB_take (IsB.drop HB.out at_) (4 + s))
          have HLB := Lib.hid (show ((l.drop at_).take (4 + s)).length = 4 + s by rw [List.length_take, List.length_drop, HN.out]; omega)
          have HCC := Lib.hid (show c - at_ ≤ maxLen by have := HC.out; omega)
          have hcc : 4 + s ≤ c - at_ := by omega
          by_cases hXY : X = Y
          · have hq : ((strOfNums X).toList == (strOfNums Y).toList) = true := by rw [hXY]; simp
            refine wp_region_held_drew (S := (fun W => Below wr.heap.size wr W)) (by kernel_rfl) ?_ (fun hHeld => ?_)
            · exact (Below.refl _ wr).drew
            refine' wpAnyH_take (i := 0) (oi := _) (v := _) rfl (by kernel_rfl) (by kernel_rfl) (by kernel_rfl) (fun _ _ _ h => h) (Or.inl ⟨by rfl, ?hy0⟩) (by assumption) ?rest0
            case hy0 => (intro w' hSw; (try dsimp only at hSw); go_simp; try with_reducible rfl)
            try simp only [Act.put, List.setIfInBounds_toArray, List.set_cons_zero, List.set_cons_succ, List.getElem_toArray, List.getElem_cons_zero, List.getElem_cons_succ]
            refine' wpAnyH_take (i := 1) (oi := _) (v := _) rfl (by kernel_rfl) (by kernel_rfl) (by kernel_rfl) (fun _ _ _ h => h) (Or.inl ⟨by rfl, ?hy1⟩) (by assumption) ?rest1
            case hy1 => (intro w' hSw; (try dsimp only at hSw); go_simp; try with_reducible rfl)
            try simp only [Act.put, List.setIfInBounds_toArray, List.set_cons_zero, List.set_cons_succ, List.getElem_toArray, List.getElem_cons_zero, List.getElem_cons_succ]
            refine' wpAnyH_take (i := 2) (oi := _) (v := _) rfl (by kernel_rfl) (by kernel_rfl) (by kernel_rfl) (fun _ _ _ h => h) (Or.inl ⟨by rfl, ?hy2⟩) (by assumption) ?rest2
            case hy2 => (intro w' hSw; (try dsimp only at hSw); go_simp; try with_reducible rfl)
            try simp only [Act.put, List.setIfInBounds_toArray, List.set_cons_zero, List.set_cons_succ, List.getElem_toArray, List.getElem_cons_zero, List.getElem_cons_succ]
            refine' wpAnyH_take (i := 3) (oi := _) (v := _) rfl (by kernel_rfl) (by kernel_rfl) (by kernel_rfl) (fun _ _ _ h => h) (Or.inl ⟨by rfl, ?hy3⟩) (by assumption) ?rest3
            case hy3 => (intro w' hSw; (try dsimp only at hSw); go_simp; try with_reducible rfl)
            try simp only [Act.put, List.setIfInBounds_toArray, List.set_cons_zero, List.set_cons_succ, List.getElem_toArray, List.getElem_cons_zero, List.getElem_cons_succ]
            refine' wpAnyH_take (i := 4) (oi := _) (v := _) rfl (by kernel_rfl) (by kernel_rfl) (by kernel_rfl) (fun _ _ _ h => h) (Or.inl ⟨by rfl, ?hy4⟩) (by assumption) ?rest4
            case hy4 => (intro w' hSw; (try dsimp only at hSw); go_simp; try with_reducible rfl)
            try simp only [Act.put, List.setIfInBounds_toArray, List.set_cons_zero, List.set_cons_succ, List.getElem_toArray, List.getElem_cons_zero, List.getElem_cons_succ]
            refine' wpAnyH_take (i := 5) (oi := _) (v := _) rfl (by kernel_rfl) (by kernel_rfl) (by kernel_rfl) (fun _ _ _ h => h) (Or.inl ⟨by rfl, ?hy5⟩) (by assumption) ?rest5
            case hy5 => (intro w' hSw; (try dsimp only at hSw); go_simp; try with_reducible rfl)
            try simp only [Act.put, List.setIfInBounds_toArray, List.set_cons_zero, List.set_cons_succ, List.getElem_toArray, List.getElem_cons_zero, List.getElem_cons_succ]
            refine' wpAnyH_take (i := 6) (oi := _) (v := _) rfl (by kernel_rfl) (by kernel_rfl) (by kernel_rfl) (fun _ _ _ h => h) (Or.inl ⟨by rfl, ?hy6⟩) (by assumption) ?rest6
            case hy6 => (intro w' hSw; (try dsimp only at hSw); go_simp; try with_reducible rfl)
            try simp only [Act.put, List.setIfInBounds_toArray, List.set_cons_zero, List.set_cons_succ, List.getElem_toArray, List.getElem_cons_zero, List.getElem_cons_succ]
            refine' wpAnyH_take (i := 7) (oi := _) (v := _) rfl (by kernel_rfl) (by kernel_rfl) (by kernel_rfl) (fun _ _ _ h => h) (Or.inl ⟨by rfl, ?hy7⟩) (by assumption) ?rest7
            case hy7 => (intro w' hSw; (try dsimp only at hSw); go_simp; try with_reducible rfl)
            try simp only [Act.put, List.setIfInBounds_toArray, List.set_cons_zero, List.set_cons_succ, List.getElem_toArray, List.getElem_cons_zero, List.getElem_cons_succ]
            refine' wpAnyH_take (i := 8) (oi := _) (v := _) rfl (by kernel_rfl) (by kernel_rfl) (by kernel_rfl) (fun _ _ _ h => h) (Or.inl ⟨by rfl, ?hy8⟩) (by assumption) ?rest8
            case hy8 => (intro w' hSw; (try dsimp only at hSw); go_simp; try with_reducible rfl)
            try simp only [Act.put, List.setIfInBounds_toArray, List.set_cons_zero, List.set_cons_succ, List.getElem_toArray, List.getElem_cons_zero, List.getElem_cons_succ]
            refine' wpAnyH_take (i := 11) (oi := _) (v := _) rfl (by kernel_rfl) (by kernel_rfl) (by kernel_rfl) (fun _ _ _ h => h) (Or.inl ⟨by rfl, ?hy11⟩) (by assumption) ?rest11
            case hy11 => (intro w' hSw; (try dsimp only at hSw); go_simp; try with_reducible rfl)
            try simp only [Act.put, List.setIfInBounds_toArray, List.set_cons_zero, List.set_cons_succ, List.getElem_toArray, List.getElem_cons_zero, List.getElem_cons_succ]
            refine' wpAnyH_take (i := 12) (oi := _) (v := _) rfl (by kernel_rfl) (by kernel_rfl) (by kernel_rfl) (fun _ _ _ h => h) (Or.inl ⟨by rfl, ?hy12⟩) (by assumption) ?rest12
            case hy12 => (intro w' hSw; (try dsimp only at hSw); go_simp; try with_reducible rfl)
            try simp only [Act.put, List.setIfInBounds_toArray, List.set_cons_zero, List.set_cons_succ, List.getElem_toArray, List.getElem_cons_zero, List.getElem_cons_succ]
            refine' wpAnyH_take (i := 13) (oi := _) (v := _) rfl (by kernel_rfl) (by kernel_rfl) (by kernel_rfl) (fun _ _ _ h => h) (Or.inl ⟨by rfl, ?hy13⟩) (by assumption) ?rest13
            case hy13 => (intro w' hSw; (try dsimp only at hSw); go_simp; try with_reducible rfl)
            try simp only [Act.put, List.setIfInBounds_toArray, List.set_cons_zero, List.set_cons_succ, List.getElem_toArray, List.getElem_cons_zero, List.getElem_cons_succ]
            refine' wpAnyH_take (i := 14) (oi := _) (v := _) rfl (by kernel_rfl) (by kernel_rfl) (by kernel_rfl) (fun _ _ _ h => h) (Or.inl ⟨by rfl, ?hy14⟩) (by assumption) ?rest14
            case hy14 => (intro w' hSw; (try dsimp only at hSw); go_simp; try with_reducible rfl)
            try simp only [Act.put, List.setIfInBounds_toArray, List.set_cons_zero, List.set_cons_succ, List.getElem_toArray, List.getElem_cons_zero, List.getElem_cons_succ]
            refine' wpAnyH_take (i := 15) (oi := _) (v := _) rfl (by kernel_rfl) (by kernel_rfl) (by kernel_rfl) (fun _ _ _ h => h) (Or.inl ⟨by rfl, ?hy15⟩) (by assumption) ?rest15
            case hy15 => (intro w' hSw; (try dsimp only at hSw); go_simp; try with_reducible rfl)
            try simp only [Act.put, List.setIfInBounds_toArray, List.set_cons_zero, List.set_cons_succ, List.getElem_toArray, List.getElem_cons_zero, List.getElem_cons_succ]
            refine' wpAnyH_take (i := 16) (oi := _) (v := _) rfl (by kernel_rfl) (by kernel_rfl) (by kernel_rfl) (fun _ _ _ h => h) (Or.inl ⟨by rfl, ?hy16⟩) (by assumption) ?rest16
            case hy16 => (intro w' hSw; (try dsimp only at hSw); go_simp; try with_reducible rfl)
            try simp only [Act.put, List.setIfInBounds_toArray, List.set_cons_zero, List.set_cons_succ, List.getElem_toArray, List.getElem_cons_zero, List.getElem_cons_succ]
            refine' wpAnyH_take (i := 17) (oi := _) (v := _) rfl (by kernel_rfl) (by kernel_rfl) (by kernel_rfl) (fun _ _ _ h => h) (Or.inl ⟨by rfl, ?hy17⟩) (by assumption) ?rest17
            case hy17 => (intro w' hSw; (try dsimp only at hSw); go_simp; try with_reducible rfl)
            try simp only [Act.put, List.setIfInBounds_toArray, List.set_cons_zero, List.set_cons_succ, List.getElem_toArray, List.getElem_cons_zero, List.getElem_cons_succ]
            refine' wpAnyH_take (i := 18) (oi := _) (v := _) rfl (by kernel_rfl) (by kernel_rfl) (by kernel_rfl) (fun _ _ _ h => h) (Or.inl ⟨by rfl, ?hy18⟩) (by assumption) ?rest18
            case hy18 => (intro w' hSw; (try dsimp only at hSw); go_simp; try with_reducible rfl)
            try simp only [Act.put, List.setIfInBounds_toArray, List.set_cons_zero, List.set_cons_succ, List.getElem_toArray, List.getElem_cons_zero, List.getElem_cons_succ]
            refine' wpAnyH_take (i := 19) (oi := _) (v := _) rfl (by kernel_rfl) (by kernel_rfl) (by kernel_rfl) (fun _ _ _ h => h) (Or.inl ⟨by rfl, ?hy19⟩) (by assumption) ?rest19
            case hy19 => (intro w' hSw; (try dsimp only at hSw); go_simp; try with_reducible rfl)
            try simp only [Act.put, List.setIfInBounds_toArray, List.set_cons_zero, List.set_cons_succ, List.getElem_toArray, List.getElem_cons_zero, List.getElem_cons_succ]
            refine' wpAnyH_take (i := 20) (oi := _) (v := _) rfl (by kernel_rfl) (by kernel_rfl) (by kernel_rfl) (fun _ _ _ h => h) (Or.inl ⟨by rfl, ?hy20⟩) (by assumption) ?rest20
            case hy20 => (intro w' hSw; (try dsimp only at hSw); go_simp; try with_reducible rfl)
            try simp only [Act.put, List.setIfInBounds_toArray, List.set_cons_zero, List.set_cons_succ, List.getElem_toArray, List.getElem_cons_zero, List.getElem_cons_succ]
            refine' wpAnyH_take (i := 21) (oi := _) (v := _) rfl (by kernel_rfl) (by kernel_rfl) (by kernel_rfl) (fun _ _ _ h => h) (Or.inl ⟨by rfl, ?hy21⟩) (by assumption) ?rest21
            case hy21 => (intro w' hSw; (try dsimp only at hSw); go_simp; try with_reducible rfl)
            try simp only [Act.put, List.setIfInBounds_toArray, List.set_cons_zero, List.set_cons_succ, List.getElem_toArray, List.getElem_cons_zero, List.getElem_cons_succ]
            refine wpAnyH_ready (rs := [9]) (by kernel_rfl) (by simp) ?_
            refine AllReadyH.cons (o := _) rfl (fun K hK => ?_) AllReadyH.nil
            go_simp
            go_at_call 46
            refine (jfoot_any _ k _ (4 + s) (c - at_) _ HKB.out HLB.out hcc HCC.out (HRB.out.keep ((Below.refl _ wr).drew)) HIB.out _ rfl).mono ?_
            rintro e w5 ⟨A5, c5, rfl, hown5, hb5⟩
            have hb6 : Below wr.heap.size wr w5 := ((Below.refl _ wr).drew).trans hb5
            clear hb5
            rw [← HX.out] at hown5
            have hs4 := run_str w5 A5 4 c5 X hown5.len hown5.rd
            clear hown5
            refine hK.out _ _ ?_ (fun hHeld => ?_)
            · exact hb6
            clear hK K
            try simp only [Act.put, List.setIfInBounds_toArray, List.set_cons_zero, List.set_cons_succ]
            refine wpAnyH_ready (rs := [10]) (by kernel_rfl) (by simp) ?_
            refine AllReadyH.cons (o := _) rfl (fun K hK => ?_) AllReadyH.nil
            go_simp
            refine hK.out _ _ ?_ (fun hHeld => ?_)
            · exact hb6
            clear hK K
            try simp only [Act.put, List.setIfInBounds_toArray, List.set_cons_zero, List.set_cons_succ]
            refine' wpAnyH_take (i := 22) (oi := _) (v := _) rfl (by kernel_rfl) (by kernel_rfl) (by kernel_rfl) (fun _ _ _ h => h) (Or.inl ⟨by rfl, ?hy22⟩) (by assumption) ?rest22
            case hy22 => (intro w' hSw; (try dsimp only at hSw); go_simp; try with_reducible rfl)
            try simp only [Act.put, List.setIfInBounds_toArray, List.set_cons_zero, List.set_cons_succ, List.getElem_toArray, List.getElem_cons_zero, List.getElem_cons_succ]
            refine' wpAnyH_take (i := 23) (oi := _) (v := _) rfl (by kernel_rfl) (by kernel_rfl) (by kernel_rfl) (fun _ _ _ h => h) (Or.inl ⟨by rfl, ?hy23⟩) (by assumption) ?rest23
            case hy23 => (intro w' hSw; (try dsimp only at hSw); go_simp; try with_reducible rfl)
            try simp only [Act.put, List.setIfInBounds_toArray, List.set_cons_zero, List.set_cons_succ, List.getElem_toArray, List.getElem_cons_zero, List.getElem_cons_succ]
            refine wpAnyH_done (by kernel_rfl) ?_ _
            clear hs4 hY hq t1 t2 hcne b4 b5 b6 d1 d2
            have hz5 := hb6.size
            have hB5 : Below w.heap.size w w5 := hb.trans (hb6.mono hb.size)
            have HF5 := Lib.hid (HO.out.keep hb6)
            have hs0 : ¬ s = 0 := by omega
            have x1 : ¬ c - at_ = 4 := by omega
            have x2 : (4 : Int) ≤ 4 + (s : Int) := by omega
            have wpg : IntKind.i64.wrap (fourI l at_) = fourI l at_ := IntWalk.i64_in _ (by omega)
            obtain ⟨Z, hZ⟩ : ∃ Z, Z = ((l.drop at_).drop 4).take s := ⟨_, rfl⟩
            have HBD := Lib.hid (show Rd w5 (some ⟨b, off + at_ + 4, none⟩) Z by rw [hZ]; exact rd_take (rd_off (rd_off (HA4.out.keep hb6) at_) 4) s)
            have HBL := Lib.hid (show Z.length = s by rw [hZ]; simp only [List.length_take, List.length_drop, HN.out]; omega)
            have HZ := Lib.hid hZ; clear hZ
            have hba : Below w5.heap.size w5 (w5.alloc (.cells #[] 5)) := (Below.refl _ _).alloc (Nat.le_refl _) _
            have hwb : w3.heap.size ≤ w5.heap.size := by omega
            go_upto_region 18 with fail
            go_wp2_with (at_builtin; first
              | (refine wp_append rfl (.tmp 114) (.tmp 116) rfl w5.heap.size _ _ _ [] rfl (OwnB.lit w5 #[] [] _ 0 rfl rfl (Nat.le_refl _) (by decide)) (some ⟨b, off + at_ + 4, none⟩) s (c - at_ - 4) Z rfl HBL.out (HBD.out.keep hba) (by omega) (by simp) ?_; intro A6 c6 w6 hown6 _ hb7; (have hb7' : Below w5.heap.size w5 w6 := hba.trans hb7); clear hb7; simp only [List.nil_append, Nat.zero_add] at hown6 ⊢; (have HO6 := Lib.hid hown6); clear hown6; (have hz6 := hb7'.size))
              | (refine wp_append_fr rfl (.tmp 111) (.tmp 119) rfl w3.heap.size Af m cf F rfl ((HF5.out.keep hb7').keep ((Below.refl _ _).alloc (Nat.le_refl _) _)) w6.heap.size _ ⟨fourI l at_, 0, Z⟩ A6 c6 rfl (by simp [go_sem]) (by simp [go_sem]) (by simp [go_sem, HBL.out]) (by simp only [HBL.out]; exact (HO6.out.alloc _).mono hwb) (by omega) (by simp; omega) ?_; intro A7 c7 w7 hown7 hb8 _; (have HO7 := Lib.hid hown7); clear hown7))
            have hB7 : Below w.heap.size w w7 := ((hB5.trans (hb7'.mono hB5.size)).alloc (by omega) _).trans (hb8.mono hz3)
            have hz8 := hb8.size
            have hfr : frsL k s (l.drop at_) = ⟨fourI l at_, 0, Z⟩ :: frsL k s (l.drop (at_ + (s + 8))) := by
              have h2 := HT0.out
              rw [frs_step (by rw [List.length_drop, HN.out]; exact hlt) ⟨by omega, by omega, by rw [← HX.out, ← HYE.out]; exact hXY⟩, h2, ← HZ.out, List.drop_drop]
            have HFR := Lib.hid hfr; clear hfr
            go_roundw
            case rel =>
              refine ⟨at_ + (s + 8), m + 1, c7, A7, F ++ [⟨fourI l at_, 0, Z⟩], by go_num, rfl, by omega, by omega, by omega, HO7.out, ?_, by simp at hz8; omega, hB7⟩
              have := HF.out
              rw [HFR.out] at this
              rw [← this]
              simp [Hid]
            case measure => simp [intOf]; omega
          · have hq : ((strOfNums X).toList == (strOfNums Y).toList) = false := by
              rw [str_beq (by rw [HX.out]; exact fxL_isB _ _) (by rw [HYE.out]; exact isB_take (IsB.drop (IsB.drop HB.out at_) (4 + s)) 4), beqL_no]
              exact hXY
            have HXY := Lib.hid hXY; clear hXY
            refine wp_region_held_drew (S := (fun W => Below wr.heap.size wr W)) (by kernel_rfl) ?_ (fun hHeld => ?_)
            · exact (Below.refl _ wr).drew
            refine' wpAnyH_take (i := 0) (oi := _) (v := _) rfl (by kernel_rfl) (by kernel_rfl) (by kernel_rfl) (fun _ _ _ h => h) (Or.inl ⟨by rfl, ?hu0⟩) (by assumption) ?rst0
            case hu0 => (intro w' hSw; (try dsimp only at hSw); go_simp; try with_reducible rfl)
            try simp only [Act.put, List.setIfInBounds_toArray, List.set_cons_zero, List.set_cons_succ, List.getElem_toArray, List.getElem_cons_zero, List.getElem_cons_succ]
            refine' wpAnyH_take (i := 1) (oi := _) (v := _) rfl (by kernel_rfl) (by kernel_rfl) (by kernel_rfl) (fun _ _ _ h => h) (Or.inl ⟨by rfl, ?hu1⟩) (by assumption) ?rst1
            case hu1 => (intro w' hSw; (try dsimp only at hSw); go_simp; try with_reducible rfl)
            try simp only [Act.put, List.setIfInBounds_toArray, List.set_cons_zero, List.set_cons_succ, List.getElem_toArray, List.getElem_cons_zero, List.getElem_cons_succ]
            refine' wpAnyH_take (i := 2) (oi := _) (v := _) rfl (by kernel_rfl) (by kernel_rfl) (by kernel_rfl) (fun _ _ _ h => h) (Or.inl ⟨by rfl, ?hu2⟩) (by assumption) ?rst2
            case hu2 => (intro w' hSw; (try dsimp only at hSw); go_simp; try with_reducible rfl)
            try simp only [Act.put, List.setIfInBounds_toArray, List.set_cons_zero, List.set_cons_succ, List.getElem_toArray, List.getElem_cons_zero, List.getElem_cons_succ]
            refine' wpAnyH_take (i := 3) (oi := _) (v := _) rfl (by kernel_rfl) (by kernel_rfl) (by kernel_rfl) (fun _ _ _ h => h) (Or.inl ⟨by rfl, ?hu3⟩) (by assumption) ?rst3
            case hu3 => (intro w' hSw; (try dsimp only at hSw); go_simp; try with_reducible rfl)
            try simp only [Act.put, List.setIfInBounds_toArray, List.set_cons_zero, List.set_cons_succ, List.getElem_toArray, List.getElem_cons_zero, List.getElem_cons_succ]
            refine' wpAnyH_take (i := 4) (oi := _) (v := _) rfl (by kernel_rfl) (by kernel_rfl) (by kernel_rfl) (fun _ _ _ h => h) (Or.inl ⟨by rfl, ?hu4⟩) (by assumption) ?rst4
            case hu4 => (intro w' hSw; (try dsimp only at hSw); go_simp; try with_reducible rfl)
            try simp only [Act.put, List.setIfInBounds_toArray, List.set_cons_zero, List.set_cons_succ, List.getElem_toArray, List.getElem_cons_zero, List.getElem_cons_succ]
            refine' wpAnyH_take (i := 5) (oi := _) (v := _) rfl (by kernel_rfl) (by kernel_rfl) (by kernel_rfl) (fun _ _ _ h => h) (Or.inl ⟨by rfl, ?hu5⟩) (by assumption) ?rst5
            case hu5 => (intro w' hSw; (try dsimp only at hSw); go_simp; try with_reducible rfl)
            try simp only [Act.put, List.setIfInBounds_toArray, List.set_cons_zero, List.set_cons_succ, List.getElem_toArray, List.getElem_cons_zero, List.getElem_cons_succ]
            refine' wpAnyH_take (i := 6) (oi := _) (v := _) rfl (by kernel_rfl) (by kernel_rfl) (by kernel_rfl) (fun _ _ _ h => h) (Or.inl ⟨by rfl, ?hu6⟩) (by assumption) ?rst6
            case hu6 => (intro w' hSw; (try dsimp only at hSw); go_simp; try with_reducible rfl)
            try simp only [Act.put, List.setIfInBounds_toArray, List.set_cons_zero, List.set_cons_succ, List.getElem_toArray, List.getElem_cons_zero, List.getElem_cons_succ]
            refine' wpAnyH_take (i := 7) (oi := _) (v := _) rfl (by kernel_rfl) (by kernel_rfl) (by kernel_rfl) (fun _ _ _ h => h) (Or.inl ⟨by rfl, ?hu7⟩) (by assumption) ?rst7
            case hu7 => (intro w' hSw; (try dsimp only at hSw); go_simp; try with_reducible rfl)
            try simp only [Act.put, List.setIfInBounds_toArray, List.set_cons_zero, List.set_cons_succ, List.getElem_toArray, List.getElem_cons_zero, List.getElem_cons_succ]
            refine' wpAnyH_take (i := 8) (oi := _) (v := _) rfl (by kernel_rfl) (by kernel_rfl) (by kernel_rfl) (fun _ _ _ h => h) (Or.inl ⟨by rfl, ?hu8⟩) (by assumption) ?rst8
            case hu8 => (intro w' hSw; (try dsimp only at hSw); go_simp; try with_reducible rfl)
            try simp only [Act.put, List.setIfInBounds_toArray, List.set_cons_zero, List.set_cons_succ, List.getElem_toArray, List.getElem_cons_zero, List.getElem_cons_succ]
            refine' wpAnyH_take (i := 11) (oi := _) (v := _) rfl (by kernel_rfl) (by kernel_rfl) (by kernel_rfl) (fun _ _ _ h => h) (Or.inl ⟨by rfl, ?hu11⟩) (by assumption) ?rst11
            case hu11 => (intro w' hSw; (try dsimp only at hSw); go_simp; try with_reducible rfl)
            try simp only [Act.put, List.setIfInBounds_toArray, List.set_cons_zero, List.set_cons_succ, List.getElem_toArray, List.getElem_cons_zero, List.getElem_cons_succ]
            refine' wpAnyH_take (i := 12) (oi := _) (v := _) rfl (by kernel_rfl) (by kernel_rfl) (by kernel_rfl) (fun _ _ _ h => h) (Or.inl ⟨by rfl, ?hu12⟩) (by assumption) ?rst12
            case hu12 => (intro w' hSw; (try dsimp only at hSw); go_simp; try with_reducible rfl)
            try simp only [Act.put, List.setIfInBounds_toArray, List.set_cons_zero, List.set_cons_succ, List.getElem_toArray, List.getElem_cons_zero, List.getElem_cons_succ]
            refine' wpAnyH_take (i := 13) (oi := _) (v := _) rfl (by kernel_rfl) (by kernel_rfl) (by kernel_rfl) (fun _ _ _ h => h) (Or.inl ⟨by rfl, ?hu13⟩) (by assumption) ?rst13
            case hu13 => (intro w' hSw; (try dsimp only at hSw); go_simp; try with_reducible rfl)
            try simp only [Act.put, List.setIfInBounds_toArray, List.set_cons_zero, List.set_cons_succ, List.getElem_toArray, List.getElem_cons_zero, List.getElem_cons_succ]
            refine' wpAnyH_take (i := 14) (oi := _) (v := _) rfl (by kernel_rfl) (by kernel_rfl) (by kernel_rfl) (fun _ _ _ h => h) (Or.inl ⟨by rfl, ?hu14⟩) (by assumption) ?rst14
            case hu14 => (intro w' hSw; (try dsimp only at hSw); go_simp; try with_reducible rfl)
            try simp only [Act.put, List.setIfInBounds_toArray, List.set_cons_zero, List.set_cons_succ, List.getElem_toArray, List.getElem_cons_zero, List.getElem_cons_succ]
            refine' wpAnyH_take (i := 15) (oi := _) (v := _) rfl (by kernel_rfl) (by kernel_rfl) (by kernel_rfl) (fun _ _ _ h => h) (Or.inl ⟨by rfl, ?hu15⟩) (by assumption) ?rst15
            case hu15 => (intro w' hSw; (try dsimp only at hSw); go_simp; try with_reducible rfl)
            try simp only [Act.put, List.setIfInBounds_toArray, List.set_cons_zero, List.set_cons_succ, List.getElem_toArray, List.getElem_cons_zero, List.getElem_cons_succ]
            refine' wpAnyH_take (i := 16) (oi := _) (v := _) rfl (by kernel_rfl) (by kernel_rfl) (by kernel_rfl) (fun _ _ _ h => h) (Or.inl ⟨by rfl, ?hu16⟩) (by assumption) ?rst16
            case hu16 => (intro w' hSw; (try dsimp only at hSw); go_simp; try with_reducible rfl)
            try simp only [Act.put, List.setIfInBounds_toArray, List.set_cons_zero, List.set_cons_succ, List.getElem_toArray, List.getElem_cons_zero, List.getElem_cons_succ]
            refine' wpAnyH_take (i := 17) (oi := _) (v := _) rfl (by kernel_rfl) (by kernel_rfl) (by kernel_rfl) (fun _ _ _ h => h) (Or.inl ⟨by rfl, ?hu17⟩) (by assumption) ?rst17
            case hu17 => (intro w' hSw; (try dsimp only at hSw); go_simp; try with_reducible rfl)
            try simp only [Act.put, List.setIfInBounds_toArray, List.set_cons_zero, List.set_cons_succ, List.getElem_toArray, List.getElem_cons_zero, List.getElem_cons_succ]
            refine' wpAnyH_take (i := 18) (oi := _) (v := _) rfl (by kernel_rfl) (by kernel_rfl) (by kernel_rfl) (fun _ _ _ h => h) (Or.inl ⟨by rfl, ?hu18⟩) (by assumption) ?rst18
            case hu18 => (intro w' hSw; (try dsimp only at hSw); go_simp; try with_reducible rfl)
            try simp only [Act.put, List.setIfInBounds_toArray, List.set_cons_zero, List.set_cons_succ, List.getElem_toArray, List.getElem_cons_zero, List.getElem_cons_succ]
            refine' wpAnyH_take (i := 19) (oi := _) (v := _) rfl (by kernel_rfl) (by kernel_rfl) (by kernel_rfl) (fun _ _ _ h => h) (Or.inl ⟨by rfl, ?hu19⟩) (by assumption) ?rst19
            case hu19 => (intro w' hSw; (try dsimp only at hSw); go_simp; try with_reducible rfl)
            try simp only [Act.put, List.setIfInBounds_toArray, List.set_cons_zero, List.set_cons_succ, List.getElem_toArray, List.getElem_cons_zero, List.getElem_cons_succ]
            refine' wpAnyH_take (i := 20) (oi := _) (v := _) rfl (by kernel_rfl) (by kernel_rfl) (by kernel_rfl) (fun _ _ _ h => h) (Or.inl ⟨by rfl, ?hu20⟩) (by assumption) ?rst20
            case hu20 => (intro w' hSw; (try dsimp only at hSw); go_simp; try with_reducible rfl)
            try simp only [Act.put, List.setIfInBounds_toArray, List.set_cons_zero, List.set_cons_succ, List.getElem_toArray, List.getElem_cons_zero, List.getElem_cons_succ]
            refine' wpAnyH_take (i := 21) (oi := _) (v := _) rfl (by kernel_rfl) (by kernel_rfl) (by kernel_rfl) (fun _ _ _ h => h) (Or.inl ⟨by rfl, ?hu21⟩) (by assumption) ?rst21
            case hu21 => (intro w' hSw; (try dsimp only at hSw); go_simp; try with_reducible rfl)
            try simp only [Act.put, List.setIfInBounds_toArray, List.set_cons_zero, List.set_cons_succ, List.getElem_toArray, List.getElem_cons_zero, List.getElem_cons_succ]
            refine wpAnyH_ready (rs := [9]) (by kernel_rfl) (by simp) ?_
            refine AllReadyH.cons (o := _) rfl (fun K hK => ?_) AllReadyH.nil
            go_simp
            go_at_call 46
            refine (jfoot_any _ k _ (4 + s) (c - at_) _ HKB.out HLB.out hcc HCC.out (HRB.out.keep ((Below.refl _ wr).drew)) HIB.out _ rfl).mono ?_
            rintro e w5 ⟨A5, c5, rfl, hown5, hb5⟩
            have hb6 : Below wr.heap.size wr w5 := ((Below.refl _ wr).drew).trans hb5
            clear hb5
            rw [← HX.out] at hown5
            have hs4 := run_str w5 A5 4 c5 X hown5.len hown5.rd
            clear hown5
            refine hK.out _ _ ?_ (fun hHeld => ?_)
            · exact hb6
            clear hK K
            try simp only [Act.put, List.setIfInBounds_toArray, List.set_cons_zero, List.set_cons_succ]
            refine wpAnyH_ready (rs := [10]) (by kernel_rfl) (by simp) ?_
            refine AllReadyH.cons (o := _) rfl (fun K hK => ?_) AllReadyH.nil
            go_simp
            refine hK.out _ _ ?_ (fun hHeld => ?_)
            · exact hb6
            clear hK K
            try simp only [Act.put, List.setIfInBounds_toArray, List.set_cons_zero, List.set_cons_succ]
            refine' wpAnyH_take (i := 22) (oi := _) (v := _) rfl (by kernel_rfl) (by kernel_rfl) (by kernel_rfl) (fun _ _ _ h => h) (Or.inl ⟨by rfl, ?hu22⟩) (by assumption) ?rst22
            case hu22 => (intro w' hSw; (try dsimp only at hSw); go_simp; try with_reducible rfl)
            try simp only [Act.put, List.setIfInBounds_toArray, List.set_cons_zero, List.set_cons_succ, List.getElem_toArray, List.getElem_cons_zero, List.getElem_cons_succ]
            refine' wpAnyH_take (i := 23) (oi := _) (v := _) rfl (by kernel_rfl) (by kernel_rfl) (by kernel_rfl) (fun _ _ _ h => h) (Or.inl ⟨by rfl, ?hu23⟩) (by assumption) ?rst23
            case hu23 => (intro w' hSw; (try dsimp only at hSw); go_simp; try with_reducible rfl)
            try simp only [Act.put, List.setIfInBounds_toArray, List.set_cons_zero, List.set_cons_succ, List.getElem_toArray, List.getElem_cons_zero, List.getElem_cons_succ]
            refine wpAnyH_done (by kernel_rfl) ?_ _
            clear hs4 hY hq t1 t2 hcne b4 b5 b6 e4 d1 d2
            go_wp2
            try rw [Exit.noGoto_ret]
            refine bodyPost_ret (results_tmp4 rfl _ _ _) rfl ?_
            exact HEND.out _ hb6 (frs_stop (fun h => HXY.out (by rw [HX.out, HYE.out]; exact h.2.2)))
theorem scan_any (w : World) (A : Option Addr) (n c : Nat) (l : List Int) (hn : l.length = n) (hnc : n ≤ c) (hcm : c ≤ maxLen) (hA : Rd w A l) (hB : IsB l) (hbig : n ≤ 900000000000) :
    Calls Try.prog 22 #[.slice A n c] w (ScanBack w l) := by
  have hzero : ∀ z, scanL l = jr0 z → ∀ e w', e = .returned (.tuple #[.int .i64 0, .int .i64 0, .slice none 0 0, .int .i64 z]) → Below w.heap.size w w' → ScanBack w l e w' := by
    intro z hz e w' he hb
    subst he
    exact ⟨none, 0, 0, by rw [hz]; rfl, by rw [hz]; rfl, by decide, by rw [hz]; exact .inl rfl, hb⟩
  by_cases h28 : n < 28
  · refine (scan_short w A n c h28).mono ?_
    rintro e w' ⟨he, rfl⟩
    exact hzero 6 (by rw [scanL, if_pos (by omega)]) _ _ he (Below.refl _ _)
  · by_cases hs : l.take 8 = jsign
    · by_cases hok : hdOk l
      · exact scan_good w A n c l hn hnc hcm hA hB (by omega) hs hok hbig _ rfl
      · refine (scan_bad w A n c l hn hnc hcm hA hB (by omega) hs hok _ rfl).mono ?_
        rintro e w' ⟨he, hb⟩
        exact hzero 14 (by rw [scanL, if_neg (by omega), if_neg (by simp [hs]), if_neg hok]) _ _ he hb
    · refine (scan_sign w A n c l hn hnc hA hB (by omega) hs).mono ?_
      rintro e w' ⟨he, rfl⟩
      exact hzero 8 (by rw [scanL, if_neg (by omega), if_pos hs]) _ _ he (Below.refl _ _)
end
end Go.Proofs.Ytlehpgokjppccaa
