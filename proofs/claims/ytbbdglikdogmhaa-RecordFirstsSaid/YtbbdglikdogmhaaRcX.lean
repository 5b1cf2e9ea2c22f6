/- Walk: tomeref05.values. Printed by genRx.py. -/
import Derived.Test.YtbbdglikdogmhaaRcW
import Derived.Test.YtbbdglikdogmhaaRcN
import Derived.Deep.RegionHeld3
namespace Go.Proofs.Ytbbdglikdogmhaa
open Go.RowKit
set_option maxRecDepth 100000
set_option linter.unusedVariables false
set_option linter.unusedSimpArgs false
set_option linter.unnecessarySimpa false

theorem shared_restV {F : Nat → World → Prop} {G : Prop} (act : Nat → Act) (K : Act → World → Prop) (h : ∀ gO W, F gO W → K (act gO) W)
    (g : (∀ gO W, F gO W → K (act gO) W) → G) : G := g h
theorem VlAt.keepB {w w' : World} {B g : Nat} {v : Vl} (h : VlAt w g v) (hb : Below B w w') (hg : g < B) : VlAt w' g v :=
  ⟨(hb.cell hg).trans h.1, (hb.cell hg).trans h.2.1, (hb.cell hg).trans h.2.2⟩
def VFact (wr : World) (v : Vl) (gO : Nat) (W : World) : Prop := VlAt W gO v ∧ Below wr.heap.size wr W ∧ wr.heap.size ≤ gO
def VRel (w : World) (g0 : Nat) (n N : Nat) (E : Option Addr) (m d : Nat) (l cs : List Int) (p : Nat) (o a i : Value) (wr : World) : Prop :=
  ∃ (j q : Nat) (B : Option Addr) (cB : Nat) (acc : List Vl), j ≤ N ∧ i = .int .i64 j ∧ a = .int .i64 q ∧ q ≤ n ∧ o = .slice B j cB ∧ PtAt wr g0 E m d p ∧ OwnV wr (g0 + 1) B j cB acc ∧ Hid (valsV l (cs.take N) p = glueV acc (valsV l ((cs.take N).drop j) q)) ∧ g0 + 1 ≤ wr.heap.size ∧ Below w.heap.size w wr

set_option maxHeartbeats 16000000 in
theorem values_any (w : World) (A : Option Addr) (n c : Nat) (l : List Int) (hn : l.length = n) (hnc : n ≤ c) (hcm : c ≤ maxLen) (hA : Rd w A l) (hB : IsB l) (E : Option Addr) (m d : Nat) (cs : List Int) (hm : cs.length = m) (hm64 : m ≤ 64) (hE : RdI w E cs) (hG : GoodC cs) (p N : Nat) (hp : p ≤ n) (hN : N ≤ m) (R : Ending → World → Prop) (hR : R = BodiesBack w (valsV l (cs.take N) p)) :
    Calls Try.prog 36 #[.slice A n c, ptV E m d p, .int .i64 N] w R := by
  have HR := Lib.hid hR; clear hR
  have HL := Lib.hid hn; clear hn
  have HB := Lib.hid hB; clear hB
  have HA := Lib.hid hA; clear hA
  have HE := Lib.hid hE; clear hE
  have HG := Lib.hid hG; clear hG
  have HM := Lib.hid hm; clear hm
  have HC := Lib.hid hcm
  unfold maxLen at hcm
  have HS := Lib.hid (glueV_nil l (cs.take N) p).symm
  have hfin : ∀ W z, valsV l (cs.take N) p = ([], 0, z) → Below w.heap.size w W → R (.returned (.tuple #[.slice none 0 0, .int .i64 0, .int .i64 z])) W := fun W z h1 h2 => by
    rw [HR.out]
    exact ⟨none, 0, 0, by rw [h1], by rw [h1]; exact OwnV.nil _ _, h2⟩
  have HFIN := Lib.hid hfin; clear hfin
  obtain ⟨W0, hW0⟩ : ∃ W, W = w.alloc (.cells #[.slice E m d, .int .i64 p] 68) := ⟨_, rfl⟩
  have hB0 : Below w.heap.size w W0 := by rw [hW0]; exact (Below.refl _ _).alloc (Nat.le_refl _) _
  have hs0 : W0.heap.size = w.heap.size + 1 := by rw [hW0]; simp
  have HP0 := Lib.hid (show PtAt W0 w.heap.size E m d p by rw [hW0]; exact ⟨by simp [go_sem], by simp [go_sem]⟩)
  have HW := Lib.hid hW0
  unfold ptV
  go_enter Try.func36, Try.ntmps36
  go_upto_region 1 with fail
  rw [← hW0]
  clear hW0 HW
  obtain ⟨m0, m1⟩ := HP0.out
  go_wp2_with fail
  clear m0 m1
  go_loopw [9, 10, 11] (VRel w w.heap.size n N E m d l cs p) (fun _ _ i _ => N - (intOf i).toNat)
  case atStart => exact ⟨0, p, none, 0, [], Nat.zero_le _, rfl, rfl, hp, rfl, HP0.out, OwnV.nil _ _, HS, by omega, hB0⟩
  case round =>
    obtain ⟨j, q, B, cB, acc, hj, rfl, rfl, hq, rfl, hpt, hown, HV, hz0, hb⟩ := hrel
    have HO := Lib.hid hown
    have HP := Lib.hid hpt
    clear hown hpt
    by_cases hlt : j < N
    · have hjm : j < m := by omega
      obtain ⟨b0, o0, hA', hcell⟩ := (HE.out.keep hb).at (by rw [HM.out]; omega)
      have hcj := hcell j (by rw [HM.out]; exact hjm)
      subst hA'
      obtain ⟨k, hk⟩ : ∃ k, cs.getD j 0 = k := ⟨_, rfl⟩
      rw [hk] at hcj
      have HK := Lib.hid hk
      clear hk hcell
      have i0 : (0 : Int) ≤ (j : Int) := by omega
      have i1 : (j : Int) < (m : Int) := by omega
      have hlt' : (j : Int) < (N : Int) := by omega
      have hdrop : (cs.take N).drop j = k :: (cs.take N).drop (j + 1) := by
        have hlt2 : j < (cs.take N).length := by rw [List.length_take, HM.out]; omega
        rw [List.drop_eq_getElem_cons hlt2]
        congr 1
        rw [← HK.out]
        have : j < cs.length := by rw [HM.out]; exact hjm
        simp [this]
      have HV' := Lib.hid (show valsV l (cs.take N) p = glueV acc (valsV l (k :: (cs.take N).drop (j + 1)) q) by rw [← hdrop]; exact HV.out)
      have hgk : ¬ badC k ∧ k ≤ 8209 := by
        have : j < cs.length := by rw [HM.out]; exact hjm
        refine HG.out k ?_
        rw [← HK.out]
        simp [this]
      obtain ⟨g0, g1, g2⟩ := good_bd hgk
      have HGK := Lib.hid hgk
      clear hdrop HV hgk
      obtain ⟨T, hT⟩ : ∃ T : Nat, longI k = T := ⟨(longI k).toNat, by omega⟩
      have HT := Lib.hid hT
      rw [hT] at g0 g1
      clear g0
      obtain ⟨m0, m1⟩ := HP.out
      have K0 : ∀ W : World, Below wr.heap.size wr W → W.cell? ⟨w.heap.size, 0, none⟩ = some (.slice (some ⟨b0, o0, none⟩) m d) := fun W hW => (hW.cell (World.block_lt_of_cell? _ _ m0)).trans m0
      have K1 : ∀ W : World, Below wr.heap.size wr W → W.cell? ⟨b0, o0 + j, none⟩ = some (.int .i64 k) := fun W hW => (hW.cell (World.block_lt_of_cell? _ _ hcj)).trans hcj
      have KK0 := Lib.hid K0
      have KK1 := Lib.hid K1
      clear K0 K1
      go_wp2_with fail
      refine (rlong_any _ k HGK.out.1 g2).mono ?_
      rintro e w1 ⟨rfl, rfl⟩
      rw [hT]
      clear hT
      by_cases hsh : (n : Int) - (q : Int) < (T : Int)
      · have HF := Lib.hid (show valsV l (cs.take N) p = ([], 0, 6) by rw [HV'.out, vals_short l k _ _ (by rw [HL.out, HT.out]; exact hsh), glueV_err _ _ (by decide)])
        go_wp2
        exact HFIN.out _ _ HF.out hb
      obtain ⟨Z, hZ⟩ : ∃ Z, Z = (l.drop q).take T := ⟨_, rfl⟩
      have hzl : Z.length = T := by rw [hZ]; simp only [List.length_take, List.length_drop, HL.out]; omega
      have HZL := Lib.hid hzl; clear hzl
      have hcut := run_cut A n c q T (by omega)
      have HZ := Lib.hid hZ; clear hZ
      have HZR := Lib.hid (show Rd wr (cutA A c q) Z by rw [HZ.out]; exact cutA_rd (HA.out.keep hb) c q T (by rw [HL.out]; exact hnc))
      have HZB := Lib.hid (show IsB Z by rw [HZ.out]; exact fun x hx => HB.out x (List.mem_of_mem_drop (List.mem_of_mem_take hx)))
      obtain ⟨v, hv⟩ : ∃ v, (readV k Z).1 = v := ⟨_, rfl⟩
      have HTV := Lib.hid hv
      clear hv
      obtain ⟨x, hx⟩ : ∃ x, (readV k Z).2 = x := ⟨_, rfl⟩
      have HOK := Lib.hid hx
      clear hx
      have hgl : (l.drop (q : Int).toNat).take (longI k).toNat = Z := by rw [HT.out, Int.toNat_natCast, Int.toNat_natCast, HZ.out]
      have HGL := Lib.hid hgl
      clear hgl
      have hTc : T ≤ c - q := by omega
      obtain ⟨vk, vn, vs⟩ := v
      clear m0 m1 hcj
      go_upto_region 9 with fail
      have K0 := KK0.out
      have K1 := KK1.out
      have hsum : IntKind.i64.wrap ((q : Int) + (T : Int)) = (q : Int) + (T : Int) := IntWalk.i64_in _ (by omega)
      refine shared_restV (F := VFact wr ⟨vk, vn, vs⟩) ?act ?K ?rest (fun hrest => ?main)
      case main =>
        refine wp_region_held_drew (S := (fun W => Below wr.heap.size wr W)) (by kernel_rfl) ?_ (fun hHeld => ?_)
        · exact (Below.refl _ wr).drew
        refine' wpAnyH_take (i := 0) (oi := _) (v := _) rfl (by kernel_rfl) (by kernel_rfl) (by kernel_rfl) (fun _ _ _ h => h) (Or.inl ⟨by rfl, ?hz1⟩) (by assumption) ?rezt1
        case hz1 => (intro w' hSw; (try dsimp only at hSw); go_simp; try with_reducible rfl)
        try simp only [Act.put, List.setIfInBounds_toArray, List.set_cons_zero, List.set_cons_succ, List.getElem_toArray, List.getElem_cons_zero, List.getElem_cons_succ]
        refine' wpAnyH_take (i := 1) (oi := _) (v := _) rfl (by kernel_rfl) (by kernel_rfl) (by kernel_rfl) (fun _ _ _ h => h) (Or.inl ⟨by rfl, ?hz2⟩) (by assumption) ?rezt2
        case hz2 => (intro w' hSw; (try dsimp only at hSw); go_simp; try with_reducible rfl)
        try simp only [Act.put, List.setIfInBounds_toArray, List.set_cons_zero, List.set_cons_succ, List.getElem_toArray, List.getElem_cons_zero, List.getElem_cons_succ]
        refine' wpAnyH_take (i := 2) (oi := _) (v := _) rfl (by kernel_rfl) (by kernel_rfl) (by kernel_rfl) (fun _ _ _ h => h) (Or.inl ⟨by rfl, ?hz3⟩) (by assumption) ?rezt3
        case hz3 => (intro w' hSw; (try dsimp only at hSw); go_simp; try with_reducible rfl)
        try simp only [Act.put, List.setIfInBounds_toArray, List.set_cons_zero, List.set_cons_succ, List.getElem_toArray, List.getElem_cons_zero, List.getElem_cons_succ]
        refine' wpAnyH_take (i := 3) (oi := _) (v := _) rfl (by kernel_rfl) (by kernel_rfl) (by kernel_rfl) (fun _ _ _ h => h) (Or.inl ⟨by rfl, ?hz4⟩) (by assumption) ?rezt4
        case hz4 => (intro w' hSw; (try dsimp only at hSw); go_simp; try with_reducible rfl)
        try simp only [Act.put, List.setIfInBounds_toArray, List.set_cons_zero, List.set_cons_succ, List.getElem_toArray, List.getElem_cons_zero, List.getElem_cons_succ]
        refine' wpAnyH_take (i := 4) (oi := _) (v := _) rfl (by kernel_rfl) (by kernel_rfl) (by kernel_rfl) (fun _ _ _ h => h) (Or.inl ⟨by rfl, ?hz5⟩) (by assumption) ?rezt5
        case hz5 => (intro w' hSw; (try dsimp only at hSw); go_simp; try with_reducible rfl)
        try simp only [Act.put, List.setIfInBounds_toArray, List.set_cons_zero, List.set_cons_succ, List.getElem_toArray, List.getElem_cons_zero, List.getElem_cons_succ]
        refine' wpAnyH_take (i := 5) (oi := _) (v := _) rfl (by kernel_rfl) (by kernel_rfl) (by kernel_rfl) (fun _ _ _ h => h) (Or.inl ⟨by rfl, ?hz6⟩) (by assumption) ?rezt6
        case hz6 => (intro w' hSw; (try dsimp only at hSw); go_simp; try with_reducible rfl)
        try simp only [Act.put, List.setIfInBounds_toArray, List.set_cons_zero, List.set_cons_succ, List.getElem_toArray, List.getElem_cons_zero, List.getElem_cons_succ]
        refine' wpAnyH_take (i := 6) (oi := _) (v := _) rfl (by kernel_rfl) (by kernel_rfl) (by kernel_rfl) (fun _ _ _ h => h) (Or.inl ⟨by rfl, ?hz7⟩) (by assumption) ?rezt7
        case hz7 => (intro w' hSw; (try dsimp only at hSw); go_simp; try with_reducible rfl)
        try simp only [Act.put, List.setIfInBounds_toArray, List.set_cons_zero, List.set_cons_succ, List.getElem_toArray, List.getElem_cons_zero, List.getElem_cons_succ]
        refine' wpAnyH_take (i := 7) (oi := _) (v := _) rfl (by kernel_rfl) (by kernel_rfl) (by kernel_rfl) (fun _ _ _ h => h) (Or.inl ⟨by rfl, ?hz8⟩) (by assumption) ?rezt8
        case hz8 => (intro w' hSw; (try dsimp only at hSw); go_simp; try with_reducible rfl)
        try simp only [Act.put, List.setIfInBounds_toArray, List.set_cons_zero, List.set_cons_succ, List.getElem_toArray, List.getElem_cons_zero, List.getElem_cons_succ]
        refine' wpAnyH_take (i := 8) (oi := _) (v := _) rfl (by kernel_rfl) (by kernel_rfl) (by kernel_rfl) (fun _ _ _ h => h) (Or.inl ⟨by rfl, ?hz9⟩) (by assumption) ?rezt9
        case hz9 => (intro w' hSw; (try dsimp only at hSw); go_simp; try with_reducible rfl)
        try simp only [Act.put, List.setIfInBounds_toArray, List.set_cons_zero, List.set_cons_succ, List.getElem_toArray, List.getElem_cons_zero, List.getElem_cons_succ]
        refine' wpAnyH_take (i := 9) (oi := _) (v := _) rfl (by kernel_rfl) (by kernel_rfl) (by kernel_rfl) (fun _ _ _ h => h) (Or.inl ⟨by rfl, ?hz10⟩) (by assumption) ?rezt10
        case hz10 => (intro w' hSw; (try dsimp only at hSw); go_simp; try with_reducible rfl)
        try simp only [Act.put, List.setIfInBounds_toArray, List.set_cons_zero, List.set_cons_succ, List.getElem_toArray, List.getElem_cons_zero, List.getElem_cons_succ]
        refine' wpAnyH_take (i := 10) (oi := _) (v := _) rfl (by kernel_rfl) (by kernel_rfl) (by kernel_rfl) (fun _ _ _ h => h) (Or.inl ⟨by rfl, ?hz11⟩) (by assumption) ?rezt11
        case hz11 => (intro w' hSw; (try dsimp only at hSw); go_simp; try with_reducible rfl)
        try simp only [Act.put, List.setIfInBounds_toArray, List.set_cons_zero, List.set_cons_succ, List.getElem_toArray, List.getElem_cons_zero, List.getElem_cons_succ]
        refine wpAnyH_ready (rs := [11, 15]) (by kernel_rfl) (by simp) ?_
        refine AllReadyH.cons (o := _) rfl (fun K hK => ?_) (AllReadyH.cons (o := _) rfl (fun K hK => ?_) (AllReadyH.nil))
        · go_simp
          have hbd : Below wr.heap.size wr wr.drew := (Below.refl _ wr).drew
          go_at_call 58
          refine (vread_any _ (cutA A c q) T (c - q) k Z HZL.out HGK.out.1 HGK.out.2 (by rw [HT.out]) hTc (by unfold maxLen; omega) (HZR.out.keep hbd) HZB.out).mono ?_
          rintro e w2 ⟨rfl, hbq⟩
          simp only [HTV.out, HOK.out, Vl.val]
          have hb2 : Below wr.heap.size wr w2 := hbd.trans (hbq.mono hbd.size)
          refine hK.out _ _ ?_ (fun hHeld => ?_)
          · exact hb2
          clear hK K
          try simp only [Act.put, List.setIfInBounds_toArray, List.set_cons_zero, List.set_cons_succ, List.getElem_toArray, List.getElem_cons_zero, List.getElem_cons_succ]
          clear hbq
          have hz2 := hb2.size
          refine' wpAnyH_take (i := 12) (oi := _) (v := _) rfl (by kernel_rfl) (by kernel_rfl) (by kernel_rfl) (fun _ _ _ h => h) (Or.inl ⟨by rfl, ?hz12⟩) (by assumption) ?rezt12
          case hz12 => (intro w' hSw; (try dsimp only at hSw); go_simp; try with_reducible rfl)
          try simp only [Act.put, List.setIfInBounds_toArray, List.set_cons_zero, List.set_cons_succ, List.getElem_toArray, List.getElem_cons_zero, List.getElem_cons_succ]
          refine' wpAnyH_take (i := 13) (oi := _) (v := _) rfl (by kernel_rfl) (by kernel_rfl) (by kernel_rfl) (fun _ _ _ h => h) (Or.inl ⟨by rfl, ?hz13⟩) (by assumption) ?rezt13
          case hz13 => (intro w' hSw; (try dsimp only at hSw); go_simp; try with_reducible rfl)
          try simp only [Act.put, List.setIfInBounds_toArray, List.set_cons_zero, List.set_cons_succ, List.getElem_toArray, List.getElem_cons_zero, List.getElem_cons_succ]
          refine' wpAnyH_take (i := 14) (oi := _) (v := _) rfl (by kernel_rfl) (by kernel_rfl) (by kernel_rfl) (fun _ _ _ h => h) (Or.inl ⟨by rfl, ?hz14⟩) (by assumption) ?rezt14
          case hz14 => (intro w' hSw; (try dsimp only at hSw); go_simp; try with_reducible rfl)
          try simp only [Act.put, List.setIfInBounds_toArray, List.set_cons_zero, List.set_cons_succ, List.getElem_toArray, List.getElem_cons_zero, List.getElem_cons_succ]
          refine wpAnyH_ready (rs := [15]) (by kernel_rfl) (by simp) ?_
          refine AllReadyH.cons (o := _) rfl (fun K hK => ?_) AllReadyH.nil
          go_simp
          refine hK.out _ _ ?_ (fun hHeld => ?_)
          · exact hb2.alloc hz2 _
          clear hK K
          try simp only [Act.put, List.setIfInBounds_toArray, List.set_cons_zero, List.set_cons_succ, List.getElem_toArray, List.getElem_cons_zero, List.getElem_cons_succ]
          obtain ⟨W3, hW3⟩ : ∃ W, W = w2.alloc (.cells #[.int .i64 0, .int .i64 0, .string ⟨#[]⟩] 49) := ⟨_, rfl⟩
          have hb3 : Below wr.heap.size wr W3 := by rw [hW3]; exact hb2.alloc hz2 _
          have HTH := Lib.hid (show W3.there w2.heap.size 0 3 by
            rw [hW3]
            intro j hj
            rcases (by omega : j = 0 ∨ j = 1 ∨ j = 2) with rfl | rfl | rfl <;> simp [go_sem, World.drew])
          rw [← hW3]
          clear hW3
          refine wpAnyH_ready (rs := [16]) (by kernel_rfl) (by simp) ?_
          refine AllReadyH.cons (o := _) rfl (fun K hK => ?_) AllReadyH.nil
          rw [if_pos (by kernel_rfl)]
          refine wp_store_mid 49 _ _ rfl w2.heap.size 0 (vlC ⟨vk, vn, vs⟩).toArray rfl rfl HTH.out size_vl (one_vl _) ?_
          refine hK.out _ _ ?_ (fun hHeld => ?_)
          · exact below_setCellsV hb3 (by omega) _ _
          clear hK K
          try simp only [Act.put, List.setIfInBounds_toArray, List.set_cons_zero, List.set_cons_succ, List.getElem_toArray, List.getElem_cons_zero, List.getElem_cons_succ]
          refine' wpAnyH_take (i := 17) (oi := _) (v := _) rfl (by kernel_rfl) (by kernel_rfl) (by kernel_rfl) (fun _ _ _ h => h) (Or.inl ⟨by rfl, ?hz15⟩) (by assumption) ?rezt15
          case hz15 => (intro w' hSw; (try dsimp only at hSw); go_simp; try with_reducible rfl)
          try simp only [Act.put, List.setIfInBounds_toArray, List.set_cons_zero, List.set_cons_succ, List.getElem_toArray, List.getElem_cons_zero, List.getElem_cons_succ]
          refine wpAnyH_done (by kernel_rfl) ?_ _
          obtain ⟨W7, hW7⟩ : ∃ W, W = W3.setCells w2.heap.size 0 (vlC ⟨vk, vn, vs⟩) := ⟨_, rfl⟩
          have hF : VFact wr ⟨vk, vn, vs⟩ (w2.heap.size) W7 := by rw [hW7]; exact ⟨VlAt.stored HTH.out _, below_setCellsV hb3 (by omega) _ _, by omega⟩
          first | rw [← hW7] | (rw [show (vlC ⟨vk, vn, vs⟩).toArray.toList = vlC ⟨vk, vn, vs⟩ from rfl, ← hW7])
          clear hW7
          obtain ⟨gO, hgO⟩ : ∃ g, g = w2.heap.size := ⟨_, rfl⟩
          rw [← hgO] at hF ⊢
          have HF := Lib.hid hF
          exact hrest gO W7 HF.out
        · go_simp
          refine hK.out _ _ ?_ (fun hHeld => ?_)
          · exact ((Below.refl _ wr).alloc (Nat.le_refl _) _).drew
          clear hK K
          try simp only [Act.put, List.setIfInBounds_toArray, List.set_cons_zero, List.set_cons_succ, List.getElem_toArray, List.getElem_cons_zero, List.getElem_cons_succ]
          obtain ⟨W3, hW3⟩ : ∃ W, W = (wr.alloc (.cells #[.int .i64 0, .int .i64 0, .string ⟨#[]⟩] 49)).drew := ⟨_, rfl⟩
          have hb3 : Below wr.heap.size wr W3 := by rw [hW3]; exact ((Below.refl _ wr).alloc (Nat.le_refl _) _).drew
          have hX : (wr.alloc (.cells #[.int .i64 0, .int .i64 0, .string ⟨#[]⟩] 49)).there wr.heap.size 0 3 := by
            intro j hj
            rcases (by omega : j = 0 ∨ j = 1 ∨ j = 2) with rfl | rfl | rfl <;> simp [go_sem]
          have HTH := Lib.hid (show W3.there wr.heap.size 0 3 by rw [hW3]; exact hX)
          have hs3 : wr.heap.size < W3.heap.size := by rw [hW3]; simp [World.drew]
          clear hX
          rw [← hW3]
          clear hW3
          refine wpAnyH_ready (rs := [11]) (by kernel_rfl) (by simp) ?_
          refine AllReadyH.cons (o := _) rfl (fun K hK => ?_) AllReadyH.nil
          go_simp
          go_at_call 58
          refine (vread_any _ (cutA A c q) T (c - q) k Z HZL.out HGK.out.1 HGK.out.2 (by rw [HT.out]) hTc (by unfold maxLen; omega) (HZR.out.keep hb3) HZB.out).mono ?_
          rintro e w4 ⟨rfl, hbq⟩
          simp only [HTV.out, HOK.out, Vl.val]
          have hb4 : Below wr.heap.size wr w4 := hb3.trans (hbq.mono hb3.size)
          have HTH4 := Lib.hid (there_keepV HTH.out hbq hs3)
          clear hbq
          refine hK.out _ _ ?_ (fun hHeld => ?_)
          · exact hb4
          clear hK K
          try simp only [Act.put, List.setIfInBounds_toArray, List.set_cons_zero, List.set_cons_succ, List.getElem_toArray, List.getElem_cons_zero, List.getElem_cons_succ]
          refine' wpAnyH_take (i := 12) (oi := _) (v := _) rfl (by kernel_rfl) (by kernel_rfl) (by kernel_rfl) (fun _ _ _ h => h) (Or.inl ⟨by rfl, ?hz16⟩) (by assumption) ?rezt16
          case hz16 => (intro w' hSw; (try dsimp only at hSw); go_simp; try with_reducible rfl)
          try simp only [Act.put, List.setIfInBounds_toArray, List.set_cons_zero, List.set_cons_succ, List.getElem_toArray, List.getElem_cons_zero, List.getElem_cons_succ]
          refine' wpAnyH_take (i := 13) (oi := _) (v := _) rfl (by kernel_rfl) (by kernel_rfl) (by kernel_rfl) (fun _ _ _ h => h) (Or.inl ⟨by rfl, ?hz17⟩) (by assumption) ?rezt17
          case hz17 => (intro w' hSw; (try dsimp only at hSw); go_simp; try with_reducible rfl)
          try simp only [Act.put, List.setIfInBounds_toArray, List.set_cons_zero, List.set_cons_succ, List.getElem_toArray, List.getElem_cons_zero, List.getElem_cons_succ]
          refine' wpAnyH_take (i := 14) (oi := _) (v := _) rfl (by kernel_rfl) (by kernel_rfl) (by kernel_rfl) (fun _ _ _ h => h) (Or.inl ⟨by rfl, ?hz18⟩) (by assumption) ?rezt18
          case hz18 => (intro w' hSw; (try dsimp only at hSw); go_simp; try with_reducible rfl)
          try simp only [Act.put, List.setIfInBounds_toArray, List.set_cons_zero, List.set_cons_succ, List.getElem_toArray, List.getElem_cons_zero, List.getElem_cons_succ]
          refine wpAnyH_ready (rs := [16]) (by kernel_rfl) (by simp) ?_
          refine AllReadyH.cons (o := _) rfl (fun K hK => ?_) AllReadyH.nil
          rw [if_pos (by kernel_rfl)]
          refine wp_store_mid 49 _ _ rfl wr.heap.size 0 (vlC ⟨vk, vn, vs⟩).toArray rfl rfl HTH4.out size_vl (one_vl _) ?_
          refine hK.out _ _ ?_ (fun hHeld => ?_)
          · exact below_setCellsV hb4 (by omega) _ _
          clear hK K
          try simp only [Act.put, List.setIfInBounds_toArray, List.set_cons_zero, List.set_cons_succ, List.getElem_toArray, List.getElem_cons_zero, List.getElem_cons_succ]
          refine' wpAnyH_take (i := 17) (oi := _) (v := _) rfl (by kernel_rfl) (by kernel_rfl) (by kernel_rfl) (fun _ _ _ h => h) (Or.inl ⟨by rfl, ?hz19⟩) (by assumption) ?rezt19
          case hz19 => (intro w' hSw; (try dsimp only at hSw); go_simp; try with_reducible rfl)
          try simp only [Act.put, List.setIfInBounds_toArray, List.set_cons_zero, List.set_cons_succ, List.getElem_toArray, List.getElem_cons_zero, List.getElem_cons_succ]
          refine wpAnyH_done (by kernel_rfl) ?_ _
          obtain ⟨W7, hW7⟩ : ∃ W, W = w4.setCells wr.heap.size 0 (vlC ⟨vk, vn, vs⟩) := ⟨_, rfl⟩
          have hF : VFact wr ⟨vk, vn, vs⟩ (wr.heap.size) W7 := by rw [hW7]; exact ⟨VlAt.stored HTH4.out _, below_setCellsV hb4 (by omega) _ _, by omega⟩
          first | rw [← hW7] | (rw [show (vlC ⟨vk, vn, vs⟩).toArray.toList = vlC ⟨vk, vn, vs⟩ from rfl, ← hW7])
          clear hW7
          obtain ⟨gO, hgO⟩ : ∃ g, g = wr.heap.size := ⟨_, rfl⟩
          rw [← hgO] at hF ⊢
          have HF := Lib.hid hF
          exact hrest gO W7 HF.out
      case rest =>
        intro gO W hF
        obtain ⟨f1, f2, f3⟩ := hF
        clear hsum
        have HV4 := Lib.hid f1
        have hgO : gO < W.heap.size := World.block_lt_of_cell? _ _ f1.1
        have hBW : Below w.heap.size w W := hb.trans (f2.mono hb.size)
        have HOW := Lib.hid (HO.out.keep f2)
        have HPW := Lib.hid (HP.out.keepB f2 (by omega))
        have hzW := f2.size
        clear f1 f2 HO HP K0 K1 KK0 KK1
        by_cases hx0 : x = 0
        rotate_left
        · have hxb : (x != 0) = true := by simp [hx0]
          have HF := Lib.hid (show valsV l (cs.take N) p = ([], 0, 8) by
            rw [HV'.out, vals_bad l k _ _ (by rw [HL.out, HT.out]; omega) (by rw [HGL.out, HOK.out]; exact hx0), glueV_err _ _ (by decide)])
          have hx8 : x = 8 := by
            rcases read_err k Z with h | h
            · exact absurd (HOK.out.symm.trans h) hx0
            · rw [← HOK.out, h]
          subst hx8
          go_wp2_with fail
          exact HFIN.out _ _ HF.out hBW
        subst hx0
        have hv : takeV k Z = ⟨vk, vn, vs⟩ := by rw [← take_read _ _ HOK.out, HTV.out]
        have HF := Lib.hid (show valsV l (cs.take N) p = glueV (acc ++ [⟨vk, vn, vs⟩]) (valsV l ((cs.take N).drop (j + 1)) ((q : Int) + (T : Int))) by
          rw [HV'.out, vals_ok l k _ _ (by rw [HL.out, HT.out]; omega) (by rw [HGL.out, HOK.out]), HGL.out, hv, glueV_glue, HT.out])
        clear hv
        go_upto_region 12 with fail
        iterate 4 go_step
        refine wp_load_vl rfl _ rfl gO ⟨vk, vn, vs⟩ rfl HV4.out ?_
        unfold Vl.val
        iterate 3 go_step
        refine wp_append_v rfl (.tmp 52) (.tmp 54) rfl (w.heap.size + 1) B j cB acc rfl (HOW.out.keep ((Below.refl _ _).alloc (Nat.le_refl _) _)) _ _ ⟨vk, vn, vs⟩ rfl ⟨by simp [go_sem], by simp [go_sem], by simp [go_sem]⟩ (by omega) (by simp; omega) ?_
        intro A' c' w' hown hb'
        have HO' := Lib.hid hown
        have hbX : Below (w.heap.size + 1) W w' := ((Below.refl _ _).alloc (by omega) _).trans hb'
        have hB' : Below w.heap.size w w' := hBW.trans (hbX.mono (by omega))
        have HP' := Lib.hid (HPW.out.keepB hbX (by omega))
        have hz' := hbX.size
        clear hown hb'
        go_wp2_with fail
        go_roundw
        case rel =>
            exact ⟨j + 1, q + T, A', c', acc ++ [⟨vk, vn, vs⟩], by omega, by go_num, by go_num, by omega, rfl, HP'.out, HO'.out, Lib.hid (by rw [Int.natCast_add]; exact HF.out), by omega, hB'⟩
        case measure => simp [intOf]; omega
    · obtain rfl : j = N := by omega
      have HF := Lib.hid (show valsV l (cs.take j) p = (acc, (q : Int), 0) by
        rw [HV.out, List.drop_of_length_le (by rw [List.length_take]; omega)]; exact glueV_end acc q)
      go_wp2_with fail
      rw [HR.out]
      exact ⟨_, _, _, by rw [HF.out] <;> rfl, by rw [HF.out]; exact HO.out.mono (by omega), hb⟩
end Go.Proofs.Ytbbdglikdogmhaa
