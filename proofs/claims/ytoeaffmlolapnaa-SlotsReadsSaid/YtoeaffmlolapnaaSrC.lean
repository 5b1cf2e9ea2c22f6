/- Walk: the document's page: Bytes. Printed by genRsC.py. -/
import Derived.Test.YtoeaffmlolapnaaSrP
import Derived.Test.YtoeaffmlolapnaaSlZ
import Derived.Test.YtoeaffmlolapnaaOrz
namespace Go.Proofs.Ytoeaffmlolapnaa
open Go.RowKit
set_option maxRecDepth 100000
set_option linter.unusedVariables false
set_option linter.unusedSimpArgs false
set_option linter.unnecessarySimpa false

theorem rfixed2 (w : World) (v : Int) (h0 : 0 ≤ v) (h1 : v ≤ 65535) :
    Calls Try.prog 91 #[.int .u64 v, .int .i64 2] w (BytesBack w (fxL v 2)) := by
  have h := rfixed_any w v 2 h0 (by omega)
  have e := fixed_nat v 2 (by omega) (by omega)
  rw [show ((2 : Nat) : Int) = 2 from rfl] at e
  rwa [e] at h
def B1Rel (W0 : World) (M : Mdl) (o i : Value) (wr : World) : Prop :=
  ∃ (j : Nat) (A : Option Addr) (n c : Nat), j ≤ M.k ∧ i = .int .i64 j ∧ o = .slice A n c ∧ n = M.h + 2 + 2 * j ∧ OwnB wr W0.heap.size A n c (M.F ++ fxL (M.k : Int) 2 ++ slotB (M.P.take j)) ∧ Below W0.heap.size W0 wr
def B2Rel (W0 : World) (M : Mdl) (o : Value) (wr : World) : Prop :=
  ∃ (t : Nat) (A : Option Addr) (n c : Nat), M.used M.k + t ≤ M.n ∧ o = .slice A n c ∧ n = M.used M.k + t ∧ OwnB wr W0.heap.size A n c (frontL M ++ List.replicate t 0) ∧ Below W0.heap.size W0 wr
def B3Rel (W0 : World) (M : Mdl) (ob c : Nat) (i : Value) (wr : World) : Prop :=
  ∃ (j : Nat) (L : List Int), j ≤ M.k ∧ i = .int .i64 j ∧ BsS L M j ∧ OwnB wr W0.heap.size (some ⟨ob, 0, none⟩) M.n c L ∧ Below W0.heap.size W0 wr
def B4Rel (W0 w1 : World) (M : Mdl) (ob c : Nat) (L : List Int) (q : Nat) (cs : List Int) (kv : Value) (wr : World) : Prop :=
  ∃ k : Nat, k ≤ cs.length ∧ kv = .int .i64 k ∧ OwnB wr W0.heap.size (some ⟨ob, 0, none⟩) M.n c (splice L q (cs.take k)) ∧ (∀ i, i ≠ ob → i < w1.heap.size → wr.heap[i]? = w1.heap[i]?) ∧ w1.heap.size ≤ wr.heap.size ∧ Below W0.heap.size W0 wr

set_option maxHeartbeats 32000000 in
theorem rBytes_any (w : World) (bad : List Nat) (M : Mdl) (r : RV) (hr : RefV w bad M r) (hg : Good M) (R : Ending → World → Prop) (hR : R = fun e w' => ∃ L, IsP L M ∧ BytesBack w L e w') :
    Calls Try.prog 60 #[r.val M] w R := by
  have HRR := Lib.hid hR; clear hR
  have HG := Lib.hid hg
  have hk := hg.kle
  have hn := hg.n1
  have hh := hg.h1
  have hfit := hg.fit
  have hus : M.used M.k = M.h + 2 + 2 * M.k := rfl
  rw [hus] at hfit
  have HSM := Lib.hid hg.same
  obtain ⟨W0, hW0⟩ : ∃ W, W = w.alloc (.cells #[.int .i64 (M.n : Int), .slice r.FA M.h r.fc, .slice r.CA M.k r.cc, .slice r.PA M.P.length r.pc] 33) := ⟨_, rfl⟩
  have hB0 : Below w.heap.size w W0 := by rw [hW0]; exact (Below.refl _ _).alloc (Nat.le_refl _) _
  have hs0 : w.heap.size ≤ W0.heap.size := hB0.size
  have HR0 := Lib.hid (show RpAt W0 w.heap.size r M by rw [hW0]; exact RpAt.made w r M _)
  have HV0 := Lib.hid (hr.keep hB0)
  have HW := Lib.hid hW0
  clear hW0 hr hg hus
  have hcap := HV0.out.fcap
  have HFL := Lib.hid (show M.F.length = M.h from rfl)
  unfold RV.val
  go_enter Try.func60, Try.ntmps60
  go_upto_region 1 with fail
  rw [← HW.out]
  clear HW
  have hba : Below W0.heap.size W0 (W0.alloc (.cells #[] 5)) := (Below.refl _ _).alloc (Nat.le_refl _) _
  have m1 := HR0.out.all.2.1
  have m1' := (HR0.out.keep hba).all.2.1
  iterate 10 go_step
  clear m1 m1'
  refine wp_append rfl (.tmp 8) (.tmp 10) rfl W0.heap.size _ _ _ [] rfl (OwnB.lit W0 #[] [] _ 0 rfl rfl (Nat.le_refl _) (by decide)) r.FA M.h r.fc M.F rfl HFL.out (HV0.out.front.keep hba).rd (by omega) (by simp) ?_
  intro A1 c1 w1 hown1 _ hb1
  simp only [List.nil_append, Nat.zero_add] at hown1 ⊢
  have hb01 : Below W0.heap.size W0 w1 := hba.trans hb1
  have HO1 := Lib.hid hown1
  have hz1 := hb01.size
  clear hown1 hb1 hba
  have m2 := (HR0.out.keep hb01).all.2.2.1
  have hw : IntKind.u64.wrap (M.k : Int) = (M.k : Int) := by rw [IntKind.wrap_u64]; omega
  go_wp2_with fail
  refine (rfixed2 _ (M.k : Int) (by omega) (by omega)).mono ?_
  rintro e w2 ⟨B2, n2, d2, rfl, hown2, hb2⟩
  have hn2 : 2 = n2 := (fxL_length (M.k : Int) 2).symm.trans hown2.len
  subst hn2
  have HX2 := Lib.hid hown2
  have HO2 := Lib.hid (HO1.out.keep hb2)
  have hb02 : Below W0.heap.size W0 w2 := hb01.trans (hb2.mono hz1)
  have hz2 := hb02.size
  clear hown2 hb2 m2 hw HO1
  simp only []
  iterate 1 go_step
  refine wp_append rfl (.tmp 12) (.tmp 17) rfl W0.heap.size A1 M.h c1 M.F rfl HO2.out B2 2 d2 _ rfl (fxL_length _ _) HX2.out.rd (by omega) hz2 ?_
  intro A3 c3 w3 hown3 _ hb3
  have hb03 : Below W0.heap.size W0 w3 := hb02.trans hb3
  have HO3 := Lib.hid hown3
  clear hown3 hb3 HO2 HX2 hb02 hb01 hz1 hz2
  go_wp2_with fail
  go_loopw [3, 4] (B1Rel W0 M) (fun _ i _ => M.k - (intOf i).toNat)
  case atStart => exact ⟨0, A3, M.h + 2, c3, Nat.zero_le _, rfl, rfl, rfl, by simpa [slotB] using HO3.out, hb03⟩
  case round =>
    obtain ⟨j, A, n, c, hj, rfl, rfl, hnn, hown, hb⟩ := hrel
    have HO := Lib.hid hown
    clear hown
    have m3 := (HR0.out.keep hb).all.2.2.2
    rw [HSM.out] at m3
    by_cases hlt : j < M.k
    · have hjP : j < M.P.length := by rw [HSM.out]; exact hlt
      obtain ⟨b, off, hA, hcell⟩ := (HV0.out.keep hb).places.at (by rw [show (natC M.P).length = M.P.length by simp [natC]]; omega)
      have hc := hcell j _ (natC_get hjP)
      have hq1 := HG.out.plen (M.P.getD j 0) (by simp [hjP])
      have hst := slotB_take hjP
      obtain ⟨q, hq⟩ : ∃ q, M.P.getD j 0 = q := ⟨_, rfl⟩
      rw [hq] at hc hq1 hst
      rw [hA] at m3
      have hq2 : q ≤ 4096 := by omega
      have HST := Lib.hid hst
      have hlt' : (j : Int) < (M.k : Int) := by omega
      have i0 : (0 : Int) ≤ (j : Int) := by omega
      have hw : IntKind.u64.wrap (q : Int) = (q : Int) := by rw [IntKind.wrap_u64]; omega
      have hbz := hb.size
      clear hcell hA hq hq1 hst hjP
      go_wp2_with fail
      refine (rfixed2 _ (q : Int) (by omega) (by omega)).mono ?_
      rintro e w4 ⟨B4, n4, d4, rfl, hown4, hb4⟩
      have hn4 : 2 = n4 := (fxL_length (q : Int) 2).symm.trans hown4.len
      subst hn4
      have HX4 := Lib.hid hown4
      have HO4 := Lib.hid (HO.out.keep hb4)
      have hb04 : Below W0.heap.size W0 w4 := hb.trans (hb4.mono hbz)
      have hz4 := hb04.size
      clear hown4 hb4 HO m3 hc hw
      simp only []
      iterate 1 go_step
      refine wp_append rfl (.tmp 26) (.tmp 33) rfl W0.heap.size A n c _ rfl HO4.out B4 2 d4 _ rfl (fxL_length _ _) HX4.out.rd (by omega) hz4 ?_
      intro A5 c5 w5 hown5 _ hb5
      have hb05 : Below W0.heap.size W0 w5 := hb04.trans hb5
      rw [List.append_assoc, ← HST.out] at hown5
      have HO5 := Lib.hid hown5
      clear hown5 hb5 HO4 HX4 hb04
      go_wp2_with fail
      go_roundw
      case rel => exact ⟨j + 1, A5, n + 2, c5, by omega, by go_num, by rw [hnn], by omega, HO5.out, hb05⟩
      case measure => simp [intOf]; omega
    · obtain rfl : j = M.k := by omega
      have HO' := Lib.hid (show OwnB wr W0.heap.size A n c (frontL M ++ List.replicate 0 0) by
        have := HO.out
        rw [← HSM.out, List.take_length, HSM.out] at this
        simpa [frontL] using this)
      clear HO
      have hnn' : n = M.used M.k + 0 := hnn
      go_wp2_with fail
      clear m3
      go_loopw [3] (B2Rel W0 M) (fun o _ => match o with | .slice _ n _ => M.n - n | _ => 0)
      case atStart => exact ⟨0, A, n, c, by show M.h + 2 + 2 * M.k + 0 ≤ M.n; omega, rfl, hnn', HO'.out, hb⟩
      case round =>
        obtain ⟨t, A, n, c, ht, rfl, hnt, hown, hb⟩ := hrel
        have HO := Lib.hid hown
        clear hown HO' hnn hnn'
        have m0 := (HR0.out.keep hb).all.1
        have hbz := hb.size
        by_cases hlt : n < M.n
        · have hlt' : (n : Int) < (M.n : Int) := by omega
          go_upto_region 8 with fail
          clear m0
          have hba : Below wr.heap.size wr (wr.alloc (.cells #[.int .u8 0] 5)) := (Below.refl _ _).alloc (Nat.le_refl _) _
          iterate 7 go_step
          refine wp_append rfl (.tmp 40) (.tmp 41) rfl W0.heap.size A n c _ rfl (HO.out.keep hba) _ 1 1 [0] rfl rfl (.inr ⟨_, 0, rfl, fun i hi => by
            have hi1 : i < 1 := hi
            obtain rfl : i = 0 := by omega
            rw [heap_cell (heap_alloc_new wr _)]
            rfl⟩) (by omega) (by simp; omega) ?_
          intro A6 c6 w6 hown6 _ hb6
          have hb06 : Below W0.heap.size W0 w6 := (hb.trans (hba.mono hbz)).trans hb6
          rw [List.append_assoc, show List.replicate t (0 : Int) ++ [0] = List.replicate (t + 1) 0 from (List.replicate_succ' ).symm] at hown6
          have HO6 := Lib.hid hown6
          clear hown6 hb6 HO hba
          go_wp2_with fail
          go_roundw
          case rel => exact ⟨t + 1, A6, n + 1, c6, by omega, by rw [hnt], by omega, HO6.out, hb06⟩
          case measure => simp; omega
        · have hnM : n = M.n := by omega
          subst hnM
          have HB := Lib.hid (show BsS (frontL M ++ List.replicate t 0) M 0 by
            have := BsS.start HG.out
            unfold baseL at this
            rwa [show M.n - M.used M.k = t by omega] at this)
          have hn0 := HG.out.n0
          obtain ⟨ob, hA, hob, hobl⟩ := HO.out.at (by omega)
          subst hA
          go_wp2_with fail
          clear m0
          go_loopw [5] (B3Rel W0 M ob c) (fun i _ => M.k - (intOf i).toNat)
          case atStart => exact ⟨0, _, Nat.zero_le _, rfl, HB.out, HO.out, hb⟩
          case round =>
            obtain ⟨j, L, hj, rfl, hbs, hown, hb⟩ := hrel
            have HBS := Lib.hid hbs
            have HOL := Lib.hid hown
            clear HB HO hown hbs hobl ht hnt
            have hbz := hb.size
            have m2 := (HR0.out.keep hb).all.2.2.1
            by_cases hlt : j < M.k
            · have HVj := Lib.hid (HV0.out.keep hb)
              obtain ⟨s, hs1, hs2⟩ := HVj.out.rows.get hlt
              obtain ⟨b, off, hA, hcell⟩ := HVj.out.cells.at (by rw [show (rowC r.S).length = r.S.length by simp [rowC], HVj.out.rows.len]; exact Nat.lt_of_le_of_lt (Nat.zero_le _) hlt)
              have hc0 := hcell j _ (rowC_get hs1)
              obtain ⟨hsn, hsc, hsm, hsr⟩ := hs2
              obtain ⟨sA, sn, sc⟩ := s
              simp only at hc0 hsn hsc hsm hsr
              have hclj : M.C.getD j [] = M.cl j := rfl
              rw [hclj] at hsn hsr
              have hlo := HG.out.lo j hlt
              have hhi := HG.out.hi j hlt
              rw [← hsn] at hhi
              have hjP : j < M.P.length := by rw [HSM.out]; exact hlt
              have HSR := Lib.hid hsr
              have HSN := Lib.hid hsn
              have hlt' : (j : Int) < (M.k : Int) := by omega
              have i0 : (0 : Int) ≤ (j : Int) := by omega
              have hw : IntKind.u64.wrap (sn : Int) = (sn : Int) := by rw [IntKind.wrap_u64]; omega
              rw [hA] at m2
              have K2 : ∀ W : World, Below wr.heap.size wr W → W.cell? ⟨w.heap.size, 2, none⟩ = some (.slice (some ⟨b, off, none⟩) M.k r.cc) := fun W hW => by
                rw [← hA]; exact ((HR0.out.keep hb).keep hW).all.2.2.1
              have hlb : b < wr.heap.size := World.block_lt_of_cell? wr ⟨b, off + j, none⟩ hc0
              have K4 : ∀ W : World, Below wr.heap.size wr W → W.cell? ⟨b, off + j, none⟩ = some (.slice sA sn sc) := fun W hW => (hW.cell (p := ⟨b, off + j, none⟩) hlb).trans hc0
              have HC0 := Lib.hid hc0
              clear hcell hs1 hsr hsn hclj hlb hA
              go_upto_region 12 with fail
              clear m2 hc0
              refine wp_region_held_drew (S := (fun W => Below wr.heap.size wr W)) (by kernel_rfl) ?_ (fun hHeld => ?_)
              · exact (Below.refl _ wr).drew
              refine' wpAnyH_take (i := 0) (oi := _) (v := _) rfl (by kernel_rfl) (by kernel_rfl) (by kernel_rfl) (fun _ _ _ h => h) (Or.inl ⟨by rfl, ?hz1⟩) (by assumption) ?rezt1
              case hz1 => (intro w' hSw; (try dsimp only at hSw); go_simp; try with_reducible rfl)
              try simp only [Act.put, List.setIfInBounds_toArray, List.set_cons_zero, List.set_cons_succ, List.getElem_toArray, List.getElem_cons_zero, List.getElem_cons_succ]
              refine' wpAnyH_take (i := 1) (oi := _) (v := _) rfl (by kernel_rfl) (by kernel_rfl) (by kernel_rfl) (fun _ _ _ h => h) (Or.inl ⟨by rfl, ?hz2⟩) (by assumption) ?rezt2
              case hz2 => (intro w' hSw; (try dsimp only at hSw); go_simp; try with_reducible rfl)
              try simp only [Act.put, List.setIfInBounds_toArray, List.set_cons_zero, List.set_cons_succ, List.getElem_toArray, List.getElem_cons_zero, List.getElem_cons_succ]
              refine' wpAnyH_take (i := 2) (oi := _) (v := _) rfl (by kernel_rfl) (by kernel_rfl) (by kernel_rfl) (fun _ _ _ h => h) (Or.inl ⟨by rfl, ?hz3⟩) (by assumption) ?rezt3
              case hz3 => (intro w' hSw; (try dsimp only at hSw); go_simp; try with_reducible rfl)
              try simp only [Act.put, List.setIfInBounds_toArray, List.set_cons_zero, List.set_cons_succ, List.getElem_toArray, List.getElem_cons_zero, List.getElem_cons_succ]
              refine' wpAnyH_take (i := 3) (oi := _) (v := _) rfl (by kernel_rfl) (by kernel_rfl) (by kernel_rfl) (fun _ _ _ h => h) (Or.inl ⟨by rfl, ?hz4⟩) (by assumption) ?rezt4
              case hz4 => (intro w' hSw; (try dsimp only at hSw); go_simp; try with_reducible rfl)
              try simp only [Act.put, List.setIfInBounds_toArray, List.set_cons_zero, List.set_cons_succ, List.getElem_toArray, List.getElem_cons_zero, List.getElem_cons_succ]
              refine' wpAnyH_take (i := 4) (oi := _) (v := _) rfl (by kernel_rfl) (by kernel_rfl) (by kernel_rfl) (fun _ _ _ h => h) (Or.inl ⟨by rfl, ?hz5⟩) (by assumption) ?rezt5
              case hz5 => (intro w' hSw; (try dsimp only at hSw); go_simp; try with_reducible rfl)
              try simp only [Act.put, List.setIfInBounds_toArray, List.set_cons_zero, List.set_cons_succ, List.getElem_toArray, List.getElem_cons_zero, List.getElem_cons_succ]
              refine' wpAnyH_take (i := 5) (oi := _) (v := _) rfl (by kernel_rfl) (by kernel_rfl) (by kernel_rfl) (fun _ _ _ h => h) (Or.inl ⟨by rfl, ?hz6⟩) (by assumption) ?rezt6
              case hz6 => (intro w' hSw; (try dsimp only at hSw); go_simp; try with_reducible rfl)
              try simp only [Act.put, List.setIfInBounds_toArray, List.set_cons_zero, List.set_cons_succ, List.getElem_toArray, List.getElem_cons_zero, List.getElem_cons_succ]
              refine' wpAnyH_take (i := 6) (oi := _) (v := _) rfl (by kernel_rfl) (by kernel_rfl) (by kernel_rfl) (fun _ _ _ h => h) (Or.inl ⟨by rfl, ?hz7⟩) (by assumption) ?rezt7
              case hz7 => (intro w' hSw; (try dsimp only at hSw); go_simp; try with_reducible rfl)
              try simp only [Act.put, List.setIfInBounds_toArray, List.set_cons_zero, List.set_cons_succ, List.getElem_toArray, List.getElem_cons_zero, List.getElem_cons_succ]
              refine' wpAnyH_take (i := 8) (oi := _) (v := _) rfl (by kernel_rfl) (by kernel_rfl) (by kernel_rfl) (fun _ _ _ h => h) (Or.inl ⟨by rfl, ?hz8⟩) (by assumption) ?rezt8
              case hz8 => (intro w' hSw; (try dsimp only at hSw); go_simp; try with_reducible rfl)
              try simp only [Act.put, List.setIfInBounds_toArray, List.set_cons_zero, List.set_cons_succ, List.getElem_toArray, List.getElem_cons_zero, List.getElem_cons_succ]
              refine' wpAnyH_take (i := 9) (oi := _) (v := _) rfl (by kernel_rfl) (by kernel_rfl) (by kernel_rfl) (fun _ _ _ h => h) (Or.inl ⟨by rfl, ?hz9⟩) (by assumption) ?rezt9
              case hz9 => (intro w' hSw; (try dsimp only at hSw); go_simp; try with_reducible rfl)
              try simp only [Act.put, List.setIfInBounds_toArray, List.set_cons_zero, List.set_cons_succ, List.getElem_toArray, List.getElem_cons_zero, List.getElem_cons_succ]
              refine' wpAnyH_take (i := 10) (oi := _) (v := _) rfl (by kernel_rfl) (by kernel_rfl) (by kernel_rfl) (fun _ _ _ h => h) (Or.inl ⟨by rfl, ?hz10⟩) (by assumption) ?rezt10
              case hz10 => (intro w' hSw; (try dsimp only at hSw); go_simp; try with_reducible rfl)
              try simp only [Act.put, List.setIfInBounds_toArray, List.set_cons_zero, List.set_cons_succ, List.getElem_toArray, List.getElem_cons_zero, List.getElem_cons_succ]
              refine' wpAnyH_take (i := 11) (oi := _) (v := _) rfl (by kernel_rfl) (by kernel_rfl) (by kernel_rfl) (fun _ _ _ h => h) (Or.inl ⟨by rfl, ?hz11⟩) (by assumption) ?rezt11
              case hz11 => (intro w' hSw; (try dsimp only at hSw); go_simp; try with_reducible rfl)
              try simp only [Act.put, List.setIfInBounds_toArray, List.set_cons_zero, List.set_cons_succ, List.getElem_toArray, List.getElem_cons_zero, List.getElem_cons_succ]
              refine' wpAnyH_take (i := 12) (oi := _) (v := _) rfl (by kernel_rfl) (by kernel_rfl) (by kernel_rfl) (fun _ _ _ h => h) (Or.inl ⟨by rfl, ?hz12⟩) (by assumption) ?rezt12
              case hz12 => (intro w' hSw; (try dsimp only at hSw); go_simp; try with_reducible rfl)
              try simp only [Act.put, List.setIfInBounds_toArray, List.set_cons_zero, List.set_cons_succ, List.getElem_toArray, List.getElem_cons_zero, List.getElem_cons_succ]
              refine wpAnyH_ready (rs := [7]) (by kernel_rfl) (by simp) ?_
              refine AllReadyH.cons (o := _) rfl (fun K hK => ?_) AllReadyH.nil
              go_simp
              have hbd : Below wr.heap.size wr wr.drew := (Below.refl _ wr).drew
              go_at_call 91
              refine (rfixed2 _ (sn : Int) (by omega) (by omega)).mono ?_
              rintro e w4 ⟨B4, n4, d4, rfl, hown4, hb4⟩
              have hb14 : Below wr.heap.size wr w4 := hbd.trans (hb4.mono (Nat.le_refl _))
              have hn4 : 2 = n4 := (fxL_length (sn : Int) 2).symm.trans hown4.len
              subst hn4
              have HX4 := Lib.hid hown4
              have hz4 : wr.heap.size ≤ w4.heap.size := hb14.size
              clear hown4 hb4 hbd
              refine hK.out _ _ ?_ (fun hHeld => ?_)
              · exact hb14
              clear hK K
              try simp only [Act.put, List.setIfInBounds_toArray, List.set_cons_zero, List.set_cons_succ, List.getElem_toArray, List.getElem_cons_zero, List.getElem_cons_succ]
              refine wpAnyH_ready (rs := [13]) (by kernel_rfl) (by simp) ?_
              refine AllReadyH.cons (o := _) rfl (fun K hK => ?_) AllReadyH.nil
              refine step_append rfl (.tmp 57) (.tmp 62) rfl wr.heap.size B4 2 d4 _ rfl HX4.out sA sn sc (M.cl j) rfl HSN.out.symm (HSR.out.keep hb14).rd (by omega) hz4 ?_
              intro A5 c5 w5 hown5 _ hb5
              have hb15 : Below wr.heap.size wr w5 := hb14.trans hb5
              have HX5 := Lib.hid hown5
              clear hown5 hb5 HX4
              refine hK.out _ _ ?_ (fun hHeld => ?_)
              · exact hb15
              clear hK K
              try simp only [Act.put, List.setIfInBounds_toArray, List.set_cons_zero, List.set_cons_succ, List.getElem_toArray, List.getElem_cons_zero, List.getElem_cons_succ]
              refine' wpAnyH_take (i := 14) (oi := _) (v := _) rfl (by kernel_rfl) (by kernel_rfl) (by kernel_rfl) (fun _ _ _ h => h) (Or.inl ⟨by rfl, ?hz13⟩) (by assumption) ?rezt13
              case hz13 => (intro w' hSw; (try dsimp only at hSw); go_simp; try with_reducible rfl)
              try simp only [Act.put, List.setIfInBounds_toArray, List.set_cons_zero, List.set_cons_succ, List.getElem_toArray, List.getElem_cons_zero, List.getElem_cons_succ]
              refine wpAnyH_done (by kernel_rfl) ?_ _
              clear K2 K4 hw hz4
              have hb5 : Below W0.heap.size W0 w5 := hb.trans (hb15.mono hbz)
              have hz5 : wr.heap.size ≤ w5.heap.size := hb15.size
              have HOL5 := Lib.hid (HOL.out.keep hb15)
              obtain ⟨cs, hcs⟩ : ∃ cs, fxL (sn : Int) 2 ++ M.cl j = cs := ⟨_, rfl⟩
              have HX5' := Lib.hid (show OwnB w5 wr.heap.size A5 (2 + sn) c5 cs by rw [← hcs]; exact HX5.out)
              have hcl : cs.length = 2 + sn := HX5'.out.len
              obtain ⟨q, hq⟩ : ∃ q, M.pl j = q := ⟨_, rfl⟩
              rw [hq] at hlo hhi
              have hll := HBS.out.len
              have HEQ := Lib.hid (show layL L q (M.cl j) = splice L q cs by
                rw [← hcs, HSN.out]
                exact layL_eq L (M.cl j) q (by rw [hll, ← HSN.out]; exact hhi))
              have HQ := Lib.hid hq
              have HCSL := Lib.hid hcl
              obtain ⟨cb, hA5, hcb, hcbl⟩ := HX5'.out.at (by omega)
              subst hA5
              have hlt5 : ob < wr.heap.size := HOL.out.blk.2
              have HCC := Lib.hid (show ∀ k, k < 2 + sn → w5.cell? ⟨cb, k, none⟩ = some (.int .u8 (bt cs k)) from fun k hk => HX5'.out.cellAt k hk)
              clear hcs hq hcl HX5 HOL
              go_wp2_with fail
              go_loopw [7] (B4Rel W0 w5 M ob c L q cs) (fun i _ => 2 + sn - (intOf i).toNat)
              case atStart => exact ⟨0, Nat.zero_le _, rfl, by rw [List.take_zero, splice_nil]; exact HOL5.out, fun _ _ _ => rfl, Nat.le_refl _, hb5⟩
              case round =>
                rename World => wr2
                obtain ⟨k, hkc, rfl, hown, hfr, hsz2, hb2⟩ := hrel
                rw [HCSL.out] at hkc
                have HO2 := Lib.hid hown
                have HFR := Lib.hid hfr
                clear hown hfr HOL5
                by_cases hkt : k < 2 + sn
                · have hkt' : (k : Int) < ((2 + sn : Nat) : Int) := by omega
                  have i0k : (0 : Int) ≤ (k : Int) := by omega
                  have hcd := HCC.out k hkt
                  have hcd2 : wr2.cell? ⟨cb, k, none⟩ = some (.int .u8 (bt cs k)) := by
                    rw [← hcd]
                    simp [World.cell?, HFR.out cb (by omega) hcbl]
                  have hcb2 : cb < wr2.heap.size := World.block_lt_of_cell? wr2 ⟨cb, k, none⟩ hcd2
                  obtain ⟨b, off, hA, hcell⟩ := (HV0.out.keep hb2).places.at (by rw [show (natC M.P).length = M.P.length by simp [natC]]; omega)
                  have hc1 := hcell j _ (natC_get hjP)
                  rw [show M.P.getD j 0 = q from HQ.out] at hc1
                  have hbl : b < wr2.heap.size := World.block_lt_of_cell? wr2 ⟨b, off + j, none⟩ hc1
                  have hjPi : (j : Int) < (M.P.length : Int) := by omega
                  obtain ⟨x, hx⟩ : ∃ x, bt cs k = x := ⟨_, rfl⟩
                  rw [hx] at hcd2
                  have HX := Lib.hid hx
                  have K3 : ∀ W : World, Below wr2.heap.size wr2 W → W.cell? ⟨w.heap.size, 3, none⟩ = some (.slice (some ⟨b, off, none⟩) M.P.length r.pc) := fun W hW => by
                    rw [← hA]; exact ((HR0.out.keep hb2).keep hW).all.2.2.2
                  have K5 : ∀ W : World, Below wr2.heap.size wr2 W → W.cell? ⟨b, off + j, none⟩ = some (.int .i64 (q : Int)) := fun W hW => (hW.cell (p := ⟨b, off + j, none⟩) hbl).trans hc1
                  have K6 : ∀ W : World, Below wr2.heap.size wr2 W → W.cell? ⟨cb, k, none⟩ = some (.int .u8 x) := fun W hW => (hW.cell (p := ⟨cb, k, none⟩) hcb2).trans hcd2
                  have hwq : IntKind.i64.wrap ((q : Int) + (k : Int)) = (q : Int) + (k : Int) := IntWalk.i64_in _ (by omega)
                  have htn : ((q : Int) + (k : Int)).toNat = q + k := by omega
                  have hqn : q + k < M.n := by omega
                  have hqn' : (q : Int) + (k : Int) < (M.n : Int) := by omega
                  have i0q : (0 : Int) ≤ (q : Int) + (k : Int) := by omega
                  clear hcell hA hc1 hcd hcd2 hx
                  go_upto_region 16 with fail
                  refine wp_region_z (z := 13) (S := (fun W => Below wr2.heap.size wr2 W)) (by kernel_rfl) ?_ (fun hHeld => ?_)
                  · exact (Below.refl _ wr2).drew
                  refine' wpAnyZ_take (i := 0) (oi := _) (v := _) rfl (by kernel_rfl) (by kernel_rfl) (by kernel_rfl) (by kernel_rfl) (fun _ _ _ h => h) (Or.inl ⟨by rfl, ?hw1⟩) (by assumption) ?rezw1
                  case hw1 => (intro w' hSw; (try dsimp only at hSw); go_simp; try with_reducible rfl)
                  try simp only [Act.put, List.setIfInBounds_toArray, List.set_cons_zero, List.set_cons_succ, List.getElem_toArray, List.getElem_cons_zero, List.getElem_cons_succ]
                  refine' wpAnyZ_take (i := 1) (oi := _) (v := _) rfl (by kernel_rfl) (by kernel_rfl) (by kernel_rfl) (by kernel_rfl) (fun _ _ _ h => h) (Or.inl ⟨by rfl, ?hw2⟩) (by assumption) ?rezw2
                  case hw2 => (intro w' hSw; (try dsimp only at hSw); go_simp; try with_reducible rfl)
                  try simp only [Act.put, List.setIfInBounds_toArray, List.set_cons_zero, List.set_cons_succ, List.getElem_toArray, List.getElem_cons_zero, List.getElem_cons_succ]
                  refine' wpAnyZ_take (i := 2) (oi := _) (v := _) rfl (by kernel_rfl) (by kernel_rfl) (by kernel_rfl) (by kernel_rfl) (fun _ _ _ h => h) (Or.inl ⟨by rfl, ?hw3⟩) (by assumption) ?rezw3
                  case hw3 => (intro w' hSw; (try dsimp only at hSw); go_simp; try with_reducible rfl)
                  try simp only [Act.put, List.setIfInBounds_toArray, List.set_cons_zero, List.set_cons_succ, List.getElem_toArray, List.getElem_cons_zero, List.getElem_cons_succ]
                  refine' wpAnyZ_take (i := 3) (oi := _) (v := _) rfl (by kernel_rfl) (by kernel_rfl) (by kernel_rfl) (by kernel_rfl) (fun _ _ _ h => h) (Or.inl ⟨by rfl, ?hw4⟩) (by assumption) ?rezw4
                  case hw4 => (intro w' hSw; (try dsimp only at hSw); go_simp; try with_reducible rfl)
                  try simp only [Act.put, List.setIfInBounds_toArray, List.set_cons_zero, List.set_cons_succ, List.getElem_toArray, List.getElem_cons_zero, List.getElem_cons_succ]
                  refine' wpAnyZ_take (i := 4) (oi := _) (v := _) rfl (by kernel_rfl) (by kernel_rfl) (by kernel_rfl) (by kernel_rfl) (fun _ _ _ h => h) (Or.inl ⟨by rfl, ?hw5⟩) (by assumption) ?rezw5
                  case hw5 => (intro w' hSw; (try dsimp only at hSw); go_simp; try with_reducible rfl)
                  try simp only [Act.put, List.setIfInBounds_toArray, List.set_cons_zero, List.set_cons_succ, List.getElem_toArray, List.getElem_cons_zero, List.getElem_cons_succ]
                  refine' wpAnyZ_take (i := 5) (oi := _) (v := _) rfl (by kernel_rfl) (by kernel_rfl) (by kernel_rfl) (by kernel_rfl) (fun _ _ _ h => h) (Or.inl ⟨by rfl, ?hw6⟩) (by assumption) ?rezw6
                  case hw6 => (intro w' hSw; (try dsimp only at hSw); go_simp; try with_reducible rfl)
                  try simp only [Act.put, List.setIfInBounds_toArray, List.set_cons_zero, List.set_cons_succ, List.getElem_toArray, List.getElem_cons_zero, List.getElem_cons_succ]
                  refine' wpAnyZ_take (i := 6) (oi := _) (v := _) rfl (by kernel_rfl) (by kernel_rfl) (by kernel_rfl) (by kernel_rfl) (fun _ _ _ h => h) (Or.inl ⟨by rfl, ?hw7⟩) (by assumption) ?rezw7
                  case hw7 => (intro w' hSw; (try dsimp only at hSw); go_simp; try with_reducible rfl)
                  try simp only [Act.put, List.setIfInBounds_toArray, List.set_cons_zero, List.set_cons_succ, List.getElem_toArray, List.getElem_cons_zero, List.getElem_cons_succ]
                  refine' wpAnyZ_take (i := 7) (oi := _) (v := _) rfl (by kernel_rfl) (by kernel_rfl) (by kernel_rfl) (by kernel_rfl) (fun _ _ _ h => h) (Or.inl ⟨by rfl, ?hw8⟩) (by assumption) ?rezw8
                  case hw8 => (intro w' hSw; (try dsimp only at hSw); go_simp; try with_reducible rfl)
                  try simp only [Act.put, List.setIfInBounds_toArray, List.set_cons_zero, List.set_cons_succ, List.getElem_toArray, List.getElem_cons_zero, List.getElem_cons_succ]
                  refine' wpAnyZ_take (i := 8) (oi := _) (v := _) rfl (by kernel_rfl) (by kernel_rfl) (by kernel_rfl) (by kernel_rfl) (fun _ _ _ h => h) (Or.inl ⟨by rfl, ?hw9⟩) (by assumption) ?rezw9
                  case hw9 => (intro w' hSw; (try dsimp only at hSw); go_simp; try with_reducible rfl)
                  try simp only [Act.put, List.setIfInBounds_toArray, List.set_cons_zero, List.set_cons_succ, List.getElem_toArray, List.getElem_cons_zero, List.getElem_cons_succ]
                  refine' wpAnyZ_take (i := 9) (oi := _) (v := _) rfl (by kernel_rfl) (by kernel_rfl) (by kernel_rfl) (by kernel_rfl) (fun _ _ _ h => h) (Or.inl ⟨by rfl, ?hw10⟩) (by assumption) ?rezw10
                  case hw10 => (intro w' hSw; (try dsimp only at hSw); go_simp; try with_reducible rfl)
                  try simp only [Act.put, List.setIfInBounds_toArray, List.set_cons_zero, List.set_cons_succ, List.getElem_toArray, List.getElem_cons_zero, List.getElem_cons_succ]
                  refine' wpAnyZ_take (i := 10) (oi := _) (v := _) rfl (by kernel_rfl) (by kernel_rfl) (by kernel_rfl) (by kernel_rfl) (fun _ _ _ h => h) (Or.inl ⟨by rfl, ?hw11⟩) (by assumption) ?rezw11
                  case hw11 => (intro w' hSw; (try dsimp only at hSw); go_simp; try with_reducible rfl)
                  try simp only [Act.put, List.setIfInBounds_toArray, List.set_cons_zero, List.set_cons_succ, List.getElem_toArray, List.getElem_cons_zero, List.getElem_cons_succ]
                  refine' wpAnyZ_take (i := 11) (oi := _) (v := _) rfl (by kernel_rfl) (by kernel_rfl) (by kernel_rfl) (by kernel_rfl) (fun _ _ _ h => h) (Or.inl ⟨by rfl, ?hw12⟩) (by assumption) ?rezw12
                  case hw12 => (intro w' hSw; (try dsimp only at hSw); go_simp; try with_reducible rfl)
                  try simp only [Act.put, List.setIfInBounds_toArray, List.set_cons_zero, List.set_cons_succ, List.getElem_toArray, List.getElem_cons_zero, List.getElem_cons_succ]
                  refine' wpAnyZ_take (i := 12) (oi := _) (v := _) rfl (by kernel_rfl) (by kernel_rfl) (by kernel_rfl) (by kernel_rfl) (fun _ _ _ h => h) (Or.inl ⟨by rfl, ?hw13⟩) (by assumption) ?rezw13
                  case hw13 => (intro w' hSw; (try dsimp only at hSw); go_simp; try with_reducible rfl)
                  try simp only [Act.put, List.setIfInBounds_toArray, List.set_cons_zero, List.set_cons_succ, List.getElem_toArray, List.getElem_cons_zero, List.getElem_cons_succ]
                  have hf1 := HO2.out.frozenAt (q + k)
                  have hc1 := HO2.out.cellAt (q + k) hqn
                  have hf1' : wr2.drew.frozen? ⟨ob, q + k, none⟩ = false := hf1
                  obtain ⟨u, hu⟩ : ∃ u, bt (splice L q (cs.take k)) (q + k) = u := ⟨_, rfl⟩
                  rw [hu] at hc1
                  have hc1' : wr2.drew.cell? ⟨ob, q + k, none⟩ = some (.int .u8 u) := hc1
                  clear hu
                  refine wpAnyZ_last (o := _) (by kernel_rfl) rfl (by kernel_rfl) (fun K hK => ?_)
                  go_simp
                  refine hK _ _ ?_
                  clear hK K
                  try simp only [Act.put, List.setIfInBounds_toArray, List.set_cons_zero, List.set_cons_succ, List.getElem_toArray, List.getElem_cons_zero, List.getElem_cons_succ]
                  clear K3 K5 K6 hwq hf1 hf1' hc1 hc1'
                  go_wp2_with fail
                  go_roundw
                  case rel =>
                    have hst := HO2.out.stored (q + k) x
                    rw [← HX.out, splice_step (by rw [HBS.out.len, HCSL.out]; omega) (by rw [HCSL.out]; exact hkt)] at hst
                    rw [HX.out] at hst
                    refine ⟨k + 1, by rw [HCSL.out]; omega, by go_num, hst, fun i hi hl => ?_, ?_, (hb2.setCell (by exact hob) _).drew⟩
                    · show (wr2.setCell _ _).heap[i]? = _
                      rw [heap_setG_ne _ _ _ hi]; exact HFR.out i hi hl
                    · show w5.heap.size ≤ (wr2.setCell _ _).heap.size
                      rw [size_setG]; exact hsz2
                  case measure => simp [intOf]; omega
                · obtain rfl : k = 2 + sn := by omega
                  have HLj := Lib.hid (show BsS (splice L q (cs.take (2 + sn))) M (j + 1) by
                    rw [← HCSL.out, List.take_length, ← HEQ.out, ← HQ.out]
                    exact BsS.step HG.out hlt HBS.out)
                  go_wp2_with fail
                  go_roundw
                  case rel => exact ⟨j + 1, _, by omega, by go_num, HLj.out, HO2.out, hb2⟩
                  case measure => simp [intOf]; omega
            · obtain rfl : j = M.k := by omega
              go_wp2_with fail
              rw [HRR.out]
              exact ⟨L, HBS.out.done, _, _, _, rfl, HOL.out.mono hs0, hB0.trans (hb.mono hs0)⟩
end Go.Proofs.Ytoeaffmlolapnaa
