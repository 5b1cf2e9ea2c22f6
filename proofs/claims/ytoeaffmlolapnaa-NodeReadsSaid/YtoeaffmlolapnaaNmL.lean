/- Several texts of this proof as one: SrC, SrA, SrD, SrE, SrF, SrG, SrH. Laid by merge.py. -/
import Derived.Test.YtoeaffmlolapnaaNmA
import Derived.Test.YtoeaffmlolapnaaNmB
import Derived.Test.YtoeaffmlolapnaaNmJ
import Derived.Test.YtoeaffmlolapnaaNmK
import Derived.ArgAppend
import Derived.BigQuiet
import Derived.ChangeOld
import Derived.Deep.DeepCutAuto
import Derived.Deep.Matrix
import Derived.Deep.MidRow
import Derived.Deep.QuietTactic
import Derived.Deep.RegionHeld3
import Derived.Deep.Slices
import Derived.Handy
import Derived.Laws.CopyOwn
import Derived.Laws.ResultCell
import Derived.Lib.AppendStr
import Derived.Lib.Hide
import Derived.Lib.SliceRun
import Derived.Lib.SmallJoins
import Derived.Maps.AppendAt
import Derived.OpenShut
import Derived.ProofKit
import Derived.ShutString
import Derived.SizedLaws
import Derived.Test.YtoeaffmlolapnaaProg
import Derived.WalkKit
import Derived.WalkSpells
namespace Go.Proofs.Ytoeaffmlolapnaa
section
open Go.RowKit
set_option maxRecDepth 100000
set_option linter.unusedVariables false
set_option linter.unusedSimpArgs false
set_option linter.unnecessarySimpa false
theorem rfixed2 (w : World) (v : Int) (h0 : 0 ≤ v) (h1 : v ≤ 65535) :
    Calls Try.prog 91 #[.int .u64 v, .int .i64 2] w (BytesBack w (fxL v 2)) := by
  have h := rfixed_any w v 2 h0 (by omega)
  have e := fixed_nat v 2 (by omega) (by omega)
  rw [show ((2 : Nat) : Int) = 2 from rfl] at e
  rwa [e] at h
def B1Rel (W0 : World) (M : Mdl) (o i : Value) (wr : World) : Prop :=
  ∃ (j : Nat) (A : Option Addr) (n c : Nat), j ≤ M.k ∧ i = .int .i64 j ∧ o = .slice A n c ∧ n = M.h + 2 + 2 * j ∧ OwnB wr W0.heap.size A n c (M.F ++ fxL (M.k : Int) 2 ++ slotB (M.P.take j)) ∧ Below W0.heap.size W0 wr
def B2Rel (W0 : World) (M : Mdl) (o : Value) (wr : World) : Prop :=
  ∃ (t : Nat) (A : Option Addr) (n c : Nat), M.used M.k + t ≤ M.n ∧ o = .slice A n c ∧ n = M.used M.k + t ∧ OwnB wr W0.heap.size A n c (frontL M ++ List.replicate t 0) ∧ Below W0.heap.size W0 wr
def B3Rel (W0 : World) (M : Mdl) (ob c : Nat) (i : Value) (wr : World) : Prop :=
  ∃ (j : Nat) (L : List Int), j ≤ M.k ∧ i = .int .i64 j ∧ BsS L M j ∧ OwnB wr W0.heap.size (some ⟨ob, 0, none⟩) M.n c L ∧ Below W0.heap.size W0 wr
def B4Rel (W0 w1 : World) (M : Mdl) (ob c : Nat) (L : List Int) (q : Nat) (cs : List Int) (kv : Value) (wr : World) : Prop :=
  ∃ k : Nat, k ≤ cs.length ∧ kv = .int .i64 k ∧ OwnB wr W0.heap.size (some ⟨ob, 0, none⟩) M.n c (splice L q (cs.take k)) ∧ (∀ i, i ≠ ob → i < w1.heap.size → wr.heap[i]? = w1.heap[i]?) ∧ w1.heap.size ≤ wr.heap.size ∧ Below W0.heap.size W0 wr

set_option maxHeartbeats 32000000 in
theorem rBytes_any (w : World) (bad : List Nat) (M : Mdl) (r : RV) (hr : RefV w bad M r) (hg : Good M) (R : Ending → World → Prop) (hR : R = fun e w' => ∃ L, IsP L M ∧ BytesBack w L e w') :
    Calls Try.prog 60 #[r.val M] w R := by
  have HRR := Lib.hid hR; clear hR
  have HG := Lib.hid hg
  have hk := hg.kle
  have hn := hg.n1
  have hh := hg.h1
  have hfit := hg.fit
  have hus : M.used M.k = M.h + 2 + 2 * M.k := rfl
  rw [hus] at hfit
  have HSM := Lib.hid hg.same
  obtain ⟨W0, hW0⟩ : ∃ W, W = w.alloc (.cells #[.int .i64 (M.n : Int), .slice r.FA M.h r.fc, .slice r.CA M.k r.cc, .slice r.PA M.P.length r.pc] 33) := ⟨_, rfl⟩
  have hB0 : Below w.heap.size w W0 := by rw [hW0]; exact (Below.refl _ _).alloc (Nat.le_refl _) _
  have hs0 : w.heap.size ≤ W0.heap.size := hB0.size
  have HR0 := Lib.hid (show RpAt W0 w.heap.size r M by rw [hW0]; exact RpAt.made w r M _)
  have HV0 := Lib.hid (hr.keep hB0)
  have HW := Lib.hid hW0
  clear hW0 hr hg hus
  have hcap := HV0.out.fcap
  have HFL := Lib.hid (show M.F.length = M.h from rfl)
  unfold RV.val
  go_enter Try.func60, Try.ntmps60
  go_upto_region 1 with fail
  rw [← HW.out]
  clear HW
  have hba : Below W0.heap.size W0 (W0.alloc (.cells #[] 5)) := (Below.refl _ _).alloc (Nat.le_refl _) _
  have m1 := HR0.out.all.2.1
  have m1' := (HR0.out.keep hba).all.2.1
  iterate 10 go_step
  clear m1 m1'
  refine wp_append rfl (.tmp 8) (.tmp 10) rfl W0.heap.size _ _ _ [] rfl (OwnB.lit W0 #[] [] _ 0 rfl rfl (Nat.le_refl _) (by decide)) r.FA M.h r.fc M.F rfl HFL.out (HV0.out.front.keep hba).rd (by omega) (by simp) ?_
  intro A1 c1 w1 hown1 _ hb1
  simp only [List.nil_append, Nat.zero_add] at hown1 ⊢
  have hb01 : Below W0.heap.size W0 w1 := hba.trans hb1
  have HO1 := Lib.hid hown1
  have hz1 := hb01.size
  clear hown1 hb1 hba
  have m2 := (HR0.out.keep hb01).all.2.2.1
  have hw : IntKind.u64.wrap (M.k : Int) = (M.k : Int) := by rw [IntKind.wrap_u64]; omega
  go_wp2_with fail
  refine (rfixed2 _ (M.k : Int) (by omega) (by omega)).mono ?_
  rintro e w2 ⟨B2, n2, d2, rfl, hown2, hb2⟩
  have hn2 : 2 = n2 := (fxL_length (M.k : Int) 2).symm.trans hown2.len
  subst hn2
  have HX2 := Lib.hid hown2
  have HO2 := Lib.hid (HO1.out.keep hb2)
  have hb02 : Below W0.heap.size W0 w2 := hb01.trans (hb2.mono hz1)
  have hz2 := hb02.size
  clear hown2 hb2 m2 hw HO1
  simp only []
  iterate 1 go_step
  refine wp_append rfl (.tmp 12) (.tmp 17) rfl W0.heap.size A1 M.h c1 M.F rfl HO2.out B2 2 d2 _ rfl (fxL_length _ _) HX2.out.rd (by omega) hz2 ?_
  intro A3 c3 w3 hown3 _ hb3
  have hb03 : Below W0.heap.size W0 w3 := hb02.trans hb3
  have HO3 := Lib.hid hown3
  clear hown3 hb3 HO2 HX2 hb02 hb01 hz1 hz2
  go_wp2_with fail
  go_loopw [3, 4] (B1Rel W0 M) (fun _ i _ => M.k - (intOf i).toNat)
  case atStart => exact ⟨0, A3, M.h + 2, c3, Nat.zero_le _, rfl, rfl, rfl, by simpa [slotB] using HO3.out, hb03⟩
  case round =>
    obtain ⟨j, A, n, c, hj, rfl, rfl, hnn, hown, hb⟩ := hrel
    have HO := Lib.hid hown
    clear hown
    have m3 := (HR0.out.keep hb).all.2.2.2
    rw [HSM.out] at m3
    by_cases hlt : j < M.k
    · have hjP : j < M.P.length := by rw [HSM.out]; exact hlt
      obtain ⟨b, off, hA, hcell⟩ := (HV0.out.keep hb).places.at (by rw [show (natC M.P).length = M.P.length by simp [natC]]; omega)
      have hc := hcell j _ (natC_get hjP)
      have hq1 := HG.out.plen (M.P.getD j 0) (by simp [hjP])
      have hst := slotB_take hjP
      obtain ⟨q, hq⟩ : ∃ q, M.P.getD j 0 = q := ⟨_, rfl⟩
      rw [hq] at hc hq1 hst
      rw [hA] at m3
      have hq2 : q ≤ 4096 := by omega
      have HST := Lib.hid hst
      have hlt' : (j : Int) < (M.k : Int) := by omega
      have i0 : (0 : Int) ≤ (j : Int) := by omega
      have hw : IntKind.u64.wrap (q : Int) = (q : Int) := by rw [IntKind.wrap_u64]; omega
      have hbz := hb.size
      clear hcell hA hq hq1 hst hjP
      go_wp2_with fail
      refine (rfixed2 _ (q : Int) (by omega) (by omega)).mono ?_
      rintro e w4 ⟨B4, n4, d4, rfl, hown4, hb4⟩
      have hn4 : 2 = n4 := (fxL_length (q : Int) 2).symm.trans hown4.len
      subst hn4
      have HX4 := Lib.hid hown4
      have HO4 := Lib.hid (HO.out.keep hb4)
      have hb04 : Below W0.heap.size W0 w4 := hb.trans (hb4.mono hbz)
      have hz4 := hb04.size
      clear hown4 hb4 HO m3 hc hw
      simp only []
      iterate 1 go_step
      refine wp_append rfl (.tmp 26) (.tmp 33) rfl W0.heap.size A n c _ rfl HO4.out B4 2 d4 _ rfl (fxL_length _ _) HX4.out.rd (by omega) hz4 ?_
      intro A5 c5 w5 hown5 _ hb5
      have hb05 : Below W0.heap.size W0 w5 := hb04.trans hb5
      rw [List.append_assoc, ← HST.out] at hown5
      have HO5 := Lib.hid hown5
      clear hown5 hb5 HO4 HX4 hb04
      go_wp2_with fail
      go_roundw
      case rel => exact ⟨j + 1, A5, n + 2, c5, by omega, by go_num, by rw [hnn], by omega, HO5.out, hb05⟩
      case measure => simp [intOf]; omega
    · obtain rfl : j = M.k := by omega
      have HO' := Lib.hid (show OwnB wr W0.heap.size A n c (frontL M ++ List.replicate 0 0) by
        have := HO.out
        rw [← HSM.out, List.take_length, HSM.out] at this
        simpa [frontL] using this)
      clear HO
      have hnn' : n = M.used M.k + 0 := hnn
      go_wp2_with fail
      clear m3
      go_loopw [3] (B2Rel W0 M) (fun o _ => match o with | .slice _ n _ => M.n - n | _ => 0)
      case atStart => exact ⟨0, A, n, c, by show M.h + 2 + 2 * M.k + 0 ≤ M.n; omega, rfl, hnn', HO'.out, hb⟩
      case round =>
        obtain ⟨t, A, n, c, ht, rfl, hnt, hown, hb⟩ := hrel
        have HO := Lib.hid hown
        clear hown HO' hnn hnn'
        have m0 := (HR0.out.keep hb).all.1
        have hbz := hb.size
        by_cases hlt : n < M.n
        · have hlt' : (n : Int) < (M.n : Int) := by omega
          go_upto_region 8 with fail
          clear m0
          have hba : Below wr.heap.size wr (wr.alloc (.cells #[.int .u8 0] 5)) := (Below.refl _ _).alloc (Nat.le_refl _) _
          iterate 7 go_step
          refine wp_append rfl (.tmp 40) (.tmp 41) rfl W0.heap.size A n c _ rfl (HO.out.keep hba) _ 1 1 [0] rfl rfl (.inr ⟨_, 0, rfl, fun i hi => by
            have hi1 : i < 1 := hi
            obtain rfl : i = 0 := by omega
            rw [heap_cell (heap_alloc_new wr _)]
            rfl⟩) (by omega) (by simp; omega) ?_
          intro A6 c6 w6 hown6 _ hb6
          have hb06 : Below W0.heap.size W0 w6 := (hb.trans (hba.mono hbz)).trans hb6
          rw [List.append_assoc, show List.replicate t (0 : Int) ++ [0] = List.replicate (t + 1) 0 from (List.replicate_succ' ).symm] at hown6
          have HO6 := Lib.hid hown6
          clear hown6 hb6 HO hba
          go_wp2_with fail
          go_roundw
          case rel => exact ⟨t + 1, A6, n + 1, c6, by omega, by rw [hnt], by omega, HO6.out, hb06⟩
          case measure => simp; omega
        · have hnM : n = M.n := by omega
          subst hnM
          have HB := Lib.hid (show BsS (frontL M ++ List.replicate t 0) M 0 by
            have := BsS.start HG.out
            unfold baseL at this
            rwa [show M.n - M.used M.k = t by omega] at this)
          have hn0 := HG.out.n0
          obtain ⟨ob, hA, hob, hobl⟩ := HO.out.at (by omega)
          subst hA
          go_wp2_with fail
          clear m0
          go_loopw [5] (B3Rel W0 M ob c) (fun i _ => M.k - (intOf i).toNat)
          case atStart => exact ⟨0, _, Nat.zero_le _, rfl, HB.out, HO.out, hb⟩
          case round =>
            obtain ⟨j, L, hj, rfl, hbs, hown, hb⟩ := hrel
            have HBS := Lib.hid hbs
            have HOL := Lib.hid hown
            clear HB HO hown hbs hobl ht hnt
            have hbz := hb.size
            have m2 := (HR0.out.keep hb).all.2.2.1
            by_cases hlt : j < M.k
            · have HVj := Lib.hid (HV0.out.keep hb)
              obtain ⟨s, hs1, hs2⟩ := HVj.out.rows.get hlt
              obtain ⟨b, off, hA, hcell⟩ := HVj.out.cells.at (by rw [show (rowC r.S).length = r.S.length by simp [rowC], HVj.out.rows.len]; exact Nat.lt_of_le_of_lt (Nat.zero_le _) hlt)
              have hc0 := hcell j _ (rowC_get hs1)
              obtain ⟨hsn, hsc, hsm, hsr⟩ := hs2
              obtain ⟨sA, sn, sc⟩ := s
              simp only at hc0 hsn hsc hsm hsr
              have hclj : M.C.getD j [] = M.cl j := rfl
              rw [hclj] at hsn hsr
              have hlo := HG.out.lo j hlt
              have hhi := HG.out.hi j hlt
              rw [← hsn] at hhi
              have hjP : j < M.P.length := by rw [HSM.out]; exact hlt
              have HSR := Lib.hid hsr
              have HSN := Lib.hid hsn
              have hlt' : (j : Int) < (M.k : Int) := by omega
              have i0 : (0 : Int) ≤ (j : Int) := by omega
              have hw : IntKind.u64.wrap (sn : Int) = (sn : Int) := by rw [IntKind.wrap_u64]; omega
              rw [hA] at m2
              have K2 : ∀ W : World, Below wr.heap.size wr W → W.cell? ⟨w.heap.size, 2, none⟩ = some (.slice (some ⟨b, off, none⟩) M.k r.cc) := fun W hW => by
                rw [← hA]; exact ((HR0.out.keep hb).keep hW).all.2.2.1
              have hlb : b < wr.heap.size := World.block_lt_of_cell? wr ⟨b, off + j, none⟩ hc0
              have K4 : ∀ W : World, Below wr.heap.size wr W → W.cell? ⟨b, off + j, none⟩ = some (.slice sA sn sc) := fun W hW => (hW.cell (p := ⟨b, off + j, none⟩) hlb).trans hc0
              have HC0 := Lib.hid hc0
              clear hcell hs1 hsr hsn hclj hlb hA
              go_upto_region 12 with fail
              clear m2 hc0
              refine wp_region_held_drew (S := (fun W => Below wr.heap.size wr W)) (by kernel_rfl) ?_ (fun hHeld => ?_)
              · exact (Below.refl _ wr).drew
              refine' wpAnyH_take (i := 0) (oi := _) (v := _) rfl (by kernel_rfl) (by kernel_rfl) (by kernel_rfl) (fun _ _ _ h => h) (Or.inl ⟨by rfl, ?hz1⟩) (by assumption) ?rezt1
              case hz1 => (intro w' hSw; (try dsimp only at hSw); go_simp; try with_reducible rfl)
              try simp only [Act.put, List.setIfInBounds_toArray, List.set_cons_zero, List.set_cons_succ, List.getElem_toArray, List.getElem_cons_zero, List.getElem_cons_succ]
              refine' wpAnyH_take (i := 1) (oi := _) (v := _) rfl (by kernel_rfl) (by kernel_rfl) (by kernel_rfl) (fun _ _ _ h => h) (Or.inl ⟨by rfl, ?hz2⟩) (by assumption) ?rezt2
              case hz2 => (intro w' hSw; (try dsimp only at hSw); go_simp; try with_reducible rfl)
              try simp only [Act.put, List.setIfInBounds_toArray, List.set_cons_zero, List.set_cons_succ, List.getElem_toArray, List.getElem_cons_zero, List.getElem_cons_succ]
              refine' wpAnyH_take (i := 2) (oi := _) (v := _) rfl (by kernel_rfl) (by kernel_rfl) (by kernel_rfl) (fun _ _ _ h => h) (Or.inl ⟨by rfl, ?hz3⟩) (by assumption) ?rezt3
              case hz3 => (intro w' hSw; (try dsimp only at hSw); go_simp; try with_reducible rfl)
              try simp only [Act.put, List.setIfInBounds_toArray, List.set_cons_zero, List.set_cons_succ, List.getElem_toArray, List.getElem_cons_zero, List.getElem_cons_succ]
              refine' wpAnyH_take (i := 3) (oi := _) (v := _) rfl (by kernel_rfl) (by kernel_rfl) (by kernel_rfl) (fun _ _ _ h => h) (Or.inl ⟨by rfl, ?hz4⟩) (by assumption) ?rezt4
              case hz4 => (intro w' hSw; (try dsimp only at hSw); go_simp; try with_reducible rfl)
              try simp only [Act.put, List.setIfInBounds_toArray, List.set_cons_zero, List.set_cons_succ, List.getElem_toArray, List.getElem_cons_zero, List.getElem_cons_succ]
              refine' wpAnyH_take (i := 4) (oi := _) (v := _) rfl (by kernel_rfl) (by kernel_rfl) (by kernel_rfl) (fun _ _ _ h => h) (Or.inl ⟨by rfl, ?hz5⟩) (by assumption) ?rezt5
              case hz5 => (intro w' hSw; (try dsimp only at hSw); go_simp; try with_reducible rfl)
              try simp only [Act.put, List.setIfInBounds_toArray, List.set_cons_zero, List.set_cons_succ, List.getElem_toArray, List.getElem_cons_zero, List.getElem_cons_succ]
              refine' wpAnyH_take (i := 5) (oi := _) (v := _) rfl (by kernel_rfl) (by kernel_rfl) (by kernel_rfl) (fun _ _ _ h => h) (Or.inl ⟨by rfl, ?hz6⟩) (by assumption) ?rezt6
              case hz6 => (intro w' hSw; (try dsimp only at hSw); go_simp; try with_reducible rfl)
              try simp only [Act.put, List.setIfInBounds_toArray, List.set_cons_zero, List.set_cons_succ, List.getElem_toArray, List.getElem_cons_zero, List.getElem_cons_succ]
              refine' wpAnyH_take (i := 6) (oi := _) (v := _) rfl (by kernel_rfl) (by kernel_rfl) (by kernel_rfl) (fun _ _ _ h => h) (Or.inl ⟨by rfl, ?hz7⟩) (by assumption) ?rezt7
              case hz7 => (intro w' hSw; (try dsimp only at hSw); go_simp; try with_reducible rfl)
              try simp only [Act.put, List.setIfInBounds_toArray, List.set_cons_zero, List.set_cons_succ, List.getElem_toArray, List.getElem_cons_zero, List.getElem_cons_succ]
              refine' wpAnyH_take (i := 8) (oi := _) (v := _) rfl (by kernel_rfl) (by kernel_rfl) (by kernel_rfl) (fun _ _ _ h => h) (Or.inl ⟨by rfl, ?hz8⟩) (by assumption) ?rezt8
              case hz8 => (intro w' hSw; (try dsimp only at hSw); go_simp; try with_reducible rfl)
              try simp only [Act.put, List.setIfInBounds_toArray, List.set_cons_zero, List.set_cons_succ, List.getElem_toArray, List.getElem_cons_zero, List.getElem_cons_succ]
              refine' wpAnyH_take (i := 9) (oi := _) (v := _) rfl (by kernel_rfl) (by kernel_rfl) (by kernel_rfl) (fun _ _ _ h => h) (Or.inl ⟨by rfl, ?hz9⟩) (by assumption) ?rezt9
              case hz9 => (intro w' hSw; (try dsimp only at hSw); go_simp; try with_reducible rfl)
              try simp only [Act.put, List.setIfInBounds_toArray, List.set_cons_zero, List.set_cons_succ, List.getElem_toArray, List.getElem_cons_zero, List.getElem_cons_succ]
              refine' wpAnyH_take (i := 10) (oi := _) (v := _) rfl (by kernel_rfl) (by kernel_rfl) (by kernel_rfl) (fun _ _ _ h => h) (Or.inl ⟨by rfl, ?hz10⟩) (by assumption) ?rezt10
              case hz10 => (intro w' hSw; (try dsimp only at hSw); go_simp; try with_reducible rfl)
              try simp only [Act.put, List.setIfInBounds_toArray, List.set_cons_zero, List.set_cons_succ, List.getElem_toArray, List.getElem_cons_zero, List.getElem_cons_succ]
              refine' wpAnyH_take (i := 11) (oi := _) (v := _) rfl (by kernel_rfl) (by kernel_rfl) (by kernel_rfl) (fun _ _ _ h => h) (Or.inl ⟨by rfl, ?hz11⟩) (by assumption) ?rezt11
              case hz11 => (intro w' hSw; (try dsimp only at hSw); go_simp; try with_reducible rfl)
              try simp only [Act.put, List.setIfInBounds_toArray, List.set_cons_zero, List.set_cons_succ, List.getElem_toArray, List.getElem_cons_zero, List.getElem_cons_succ]
              refine' wpAnyH_take (i := 12) (oi := _) (v := _) rfl (by kernel_rfl) (by kernel_rfl) (by kernel_rfl) (fun _ _ _ h => h) (Or.inl ⟨by rfl, ?hz12⟩) (by assumption) ?rezt12
              case hz12 => (intro w' hSw; (try dsimp only at hSw); go_simp; try with_reducible rfl)
              try simp only [Act.put, List.setIfInBounds_toArray, List.set_cons_zero, List.set_cons_succ, List.getElem_toArray, List.getElem_cons_zero, List.getElem_cons_succ]
              refine wpAnyH_ready (rs := [7]) (by kernel_rfl) (by simp) ?_
              refine AllReadyH.cons (o := _) rfl (fun K hK => ?_) AllReadyH.nil
              go_simp
              have hbd : Below wr.heap.size wr wr.drew := (Below.refl _ wr).drew
              go_at_call 91
              refine (rfixed2 _ (sn : Int) (by omega) (by omega)).mono ?_
              rintro e w4 ⟨B4, n4, d4, rfl, hown4, hb4⟩
              have hb14 : Below wr.heap.size wr w4 := hbd.trans (hb4.mono (Nat.le_refl _))
              have hn4 : 2 = n4 := (fxL_length (sn : Int) 2).symm.trans hown4.len
              subst hn4
              have HX4 := Lib.hid hown4
              have hz4 : wr.heap.size ≤ w4.heap.size := hb14.size
              clear hown4 hb4 hbd
              refine hK.out _ _ ?_ (fun hHeld => ?_)
              · exact hb14
              clear hK K
              try simp only [Act.put, List.setIfInBounds_toArray, List.set_cons_zero, List.set_cons_succ, List.getElem_toArray, List.getElem_cons_zero, List.getElem_cons_succ]
              refine wpAnyH_ready (rs := [13]) (by kernel_rfl) (by simp) ?_
              refine AllReadyH.cons (o := _) rfl (fun K hK => ?_) AllReadyH.nil
              refine step_append rfl (.tmp 57) (.tmp 62) rfl wr.heap.size B4 2 d4 _ rfl HX4.out sA sn sc (M.cl j) rfl HSN.out.symm (HSR.out.keep hb14).rd (by omega) hz4 ?_
              intro A5 c5 w5 hown5 _ hb5
              have hb15 : Below wr.heap.size wr w5 := hb14.trans hb5
              have HX5 := Lib.hid hown5
              clear hown5 hb5 HX4
              refine hK.out _ _ ?_ (fun hHeld => ?_)
              · exact hb15
              clear hK K
              try simp only [Act.put, List.setIfInBounds_toArray, List.set_cons_zero, List.set_cons_succ, List.getElem_toArray, List.getElem_cons_zero, List.getElem_cons_succ]
              refine' wpAnyH_take (i := 14) (oi := _) (v := _) rfl (by kernel_rfl) (by kernel_rfl) (by kernel_rfl) (fun _ _ _ h => h) (Or.inl ⟨by rfl, ?hz13⟩) (by assumption) ?rezt13
              case hz13 => (intro w' hSw; (try dsimp only at hSw); go_simp; try with_reducible rfl)
              try simp only [Act.put, List.setIfInBounds_toArray, List.set_cons_zero, List.set_cons_succ, List.getElem_toArray, List.getElem_cons_zero, List.getElem_cons_succ]
              refine wpAnyH_done (by kernel_rfl) ?_ _
              clear K2 K4 hw hz4
              have hb5 : Below W0.heap.size W0 w5 := hb.trans (hb15.mono hbz)
              have hz5 : wr.heap.size ≤ w5.heap.size := hb15.size
              have HOL5 := Lib.hid (HOL.out.keep hb15)
              obtain ⟨cs, hcs⟩ : ∃ cs, fxL (sn : Int) 2 ++ M.cl j = cs := ⟨_, rfl⟩
              have HX5' := Lib.hid (show OwnB w5 wr.heap.size A5 (2 + sn) c5 cs by rw [← hcs]; exact HX5.out)
              have hcl : cs.length = 2 + sn := HX5'.out.len
              obtain ⟨q, hq⟩ : ∃ q, M.pl j = q := ⟨_, rfl⟩
              rw [hq] at hlo hhi
              have hll := HBS.out.len
              have HEQ := Lib.hid (show layL L q (M.cl j) = splice L q cs by
                rw [← hcs, HSN.out]
                exact layL_eq L (M.cl j) q (by rw [hll, ← HSN.out]; exact hhi))
              have HQ := Lib.hid hq
              have HCSL := Lib.hid hcl
              obtain ⟨cb, hA5, hcb, hcbl⟩ := HX5'.out.at (by omega)
              subst hA5
              have hlt5 : ob < wr.heap.size := HOL.out.blk.2
              have HCC := Lib.hid (show ∀ k, k < 2 + sn → w5.cell? ⟨cb, k, none⟩ = some (.int .u8 (bt cs k)) from fun k hk => HX5'.out.cellAt k hk)
              clear hcs hq hcl HX5 HOL
              go_wp2_with fail
              go_loopw [7] (B4Rel W0 w5 M ob c L q cs) (fun i _ => 2 + sn - (intOf i).toNat)
              case atStart => exact ⟨0, Nat.zero_le _, rfl, by rw [List.take_zero, splice_nil]; exact HOL5.out, fun _ _ _ => rfl, Nat.le_refl _, hb5⟩
              case round =>
                rename World => wr2
                obtain ⟨k, hkc, rfl, hown, hfr, hsz2, hb2⟩ := hrel
                rw [HCSL.out] at hkc
                have HO2 := Lib.hid hown
                have HFR := Lib.hid hfr
                clear hown hfr HOL5
                by_cases hkt : k < 2 + sn
                · have hkt' : (k : Int) < ((2 + sn : Nat) : Int) := by omega
                  have i0k : (0 : Int) ≤ (k : Int) := by omega
                  have hcd := HCC.out k hkt
                  have hcd2 : wr2.cell? ⟨cb, k, none⟩ = some (.int .u8 (bt cs k)) := by
                    rw [← hcd]
                    simp [World.cell?, HFR.out cb (by omega) hcbl]
                  have hcb2 : cb < wr2.heap.size := World.block_lt_of_cell? wr2 ⟨cb, k, none⟩ hcd2
                  obtain ⟨b, off, hA, hcell⟩ := (HV0.out.keep hb2).places.at (by rw [show (natC M.P).length = M.P.length by simp [natC]]; omega)
                  have hc1 := hcell j _ (natC_get hjP)
                  rw [show M.P.getD j 0 = q from HQ.out] at hc1
                  have hbl : b < wr2.heap.size := World.block_lt_of_cell? wr2 ⟨b, off + j, none⟩ hc1
                  have hjPi : (j : Int) < (M.P.length : Int) := by omega
                  obtain ⟨x, hx⟩ : ∃ x, bt cs k = x := ⟨_, rfl⟩
                  rw [hx] at hcd2
                  have HX := Lib.hid hx
                  have K3 : ∀ W : World, Below wr2.heap.size wr2 W → W.cell? ⟨w.heap.size, 3, none⟩ = some (.slice (some ⟨b, off, none⟩) M.P.length r.pc) := fun W hW => by
                    rw [← hA]; exact ((HR0.out.keep hb2).keep hW).all.2.2.2
                  have K5 : ∀ W : World, Below wr2.heap.size wr2 W → W.cell? ⟨b, off + j, none⟩ = some (.int .i64 (q : Int)) := fun W hW => (hW.cell (p := ⟨b, off + j, none⟩) hbl).trans hc1
                  have K6 : ∀ W : World, Below wr2.heap.size wr2 W → W.cell? ⟨cb, k, none⟩ = some (.int .u8 x) := fun W hW => (hW.cell (p := ⟨cb, k, none⟩) hcb2).trans hcd2
                  have hwq : IntKind.i64.wrap ((q : Int) + (k : Int)) = (q : Int) + (k : Int) := IntWalk.i64_in _ (by omega)
                  have htn : ((q : Int) + (k : Int)).toNat = q + k := by omega
                  have hqn : q + k < M.n := by omega
                  have hqn' : (q : Int) + (k : Int) < (M.n : Int) := by omega
                  have i0q : (0 : Int) ≤ (q : Int) + (k : Int) := by omega
                  clear hcell hA hc1 hcd hcd2 hx
                  go_upto_region 16 with fail
                  refine wp_region_z (z := 13) (S := (fun W => Below wr2.heap.size wr2 W)) (by kernel_rfl) ?_ (fun hHeld => ?_)
                  · exact (Below.refl _ wr2).drew
                  refine' wpAnyZ_take (i := 0) (oi := _) (v := _) rfl (by kernel_rfl) (by kernel_rfl) (by kernel_rfl) (by kernel_rfl) (fun _ _ _ h => h) (Or.inl ⟨by rfl, ?hw1⟩) (by assumption) ?rezw1
                  case hw1 => (intro w' hSw; (try dsimp only at hSw); go_simp; try with_reducible rfl)
                  try simp only [Act.put, List.setIfInBounds_toArray, List.set_cons_zero, List.set_cons_succ, List.getElem_toArray, List.getElem_cons_zero, List.getElem_cons_succ]
                  refine' wpAnyZ_take (i := 1) (oi := _) (v := _) rfl (by kernel_rfl) (by kernel_rfl) (by kernel_rfl) (by kernel_rfl) (fun _ _ _ h => h) (Or.inl ⟨by rfl, ?hw2⟩) (by assumption) ?rezw2
                  case hw2 => (intro w' hSw; (try dsimp only at hSw); go_simp; try with_reducible rfl)
                  try simp only [Act.put, List.setIfInBounds_toArray, List.set_cons_zero, List.set_cons_succ, List.getElem_toArray, List.getElem_cons_zero, List.getElem_cons_succ]
                  refine' wpAnyZ_take (i := 2) (oi := _) (v := _) rfl (by kernel_rfl) (by kernel_rfl) (by kernel_rfl) (by kernel_rfl) (fun _ _ _ h => h) (Or.inl ⟨by rfl, ?hw3⟩) (by assumption) ?rezw3
                  case hw3 => (intro w' hSw; (try dsimp only at hSw); go_simp; try with_reducible rfl)
                  try simp only [Act.put, List.setIfInBounds_toArray, List.set_cons_zero, List.set_cons_succ, List.getElem_toArray, List.getElem_cons_zero, List.getElem_cons_succ]
                  refine' wpAnyZ_take (i := 3) (oi := _) (v := _) rfl (by kernel_rfl) (by kernel_rfl) (by kernel_rfl) (by kernel_rfl) (fun _ _ _ h => h) (Or.inl ⟨by rfl, ?hw4⟩) (by assumption) ?rezw4
                  case hw4 => (intro w' hSw; (try dsimp only at hSw); go_simp; try with_reducible rfl)
                  try simp only [Act.put, List.setIfInBounds_toArray, List.set_cons_zero, List.set_cons_succ, List.getElem_toArray, List.getElem_cons_zero, List.getElem_cons_succ]
                  refine' wpAnyZ_take (i := 4) (oi := _) (v := _) rfl (by kernel_rfl) (by kernel_rfl) (by kernel_rfl) (by kernel_rfl) (fun _ _ _ h => h) (Or.inl ⟨by rfl, ?hw5⟩) (by assumption) ?rezw5
                  case hw5 => (intro w' hSw; (try dsimp only at hSw); go_simp; try with_reducible rfl)
                  try simp only [Act.put, List.setIfInBounds_toArray, List.set_cons_zero, List.set_cons_succ, List.getElem_toArray, List.getElem_cons_zero, List.getElem_cons_succ]
                  refine' wpAnyZ_take (i := 5) (oi := _) (v := _) rfl (by kernel_rfl) (by kernel_rfl) (by kernel_rfl) (by kernel_rfl) (fun _ _ _ h => h) (Or.inl ⟨by rfl, ?hw6⟩) (by assumption) ?rezw6
                  case hw6 => (intro w' hSw; (try dsimp only at hSw); go_simp; try with_reducible rfl)
                  try simp only [Act.put, List.setIfInBounds_toArray, List.set_cons_zero, List.set_cons_succ, List.getElem_toArray, List.getElem_cons_zero, List.getElem_cons_succ]
                  refine' wpAnyZ_take (i := 6) (oi := _) (v := _) rfl (by kernel_rfl) (by kernel_rfl) (by kernel_rfl) (by kernel_rfl) (fun _ _ _ h => h) (Or.inl ⟨by rfl, ?hw7⟩) (by assumption) ?rezw7
                  case hw7 => (intro w' hSw; (try dsimp only at hSw); go_simp; try with_reducible rfl)
                  try simp only [Act.put, List.setIfInBounds_toArray, List.set_cons_zero, List.set_cons_succ, List.getElem_toArray, List.getElem_cons_zero, List.getElem_cons_succ]
                  refine' wpAnyZ_take (i := 7) (oi := _) (v := _) rfl (by kernel_rfl) (by kernel_rfl) (by kernel_rfl) (by kernel_rfl) (fun _ _ _ h => h) (Or.inl ⟨by rfl, ?hw8⟩) (by assumption) ?rezw8
                  case hw8 => (intro w' hSw; (try dsimp only at hSw); go_simp; try with_reducible rfl)
                  try simp only [Act.put, List.setIfInBounds_toArray, List.set_cons_zero, List.set_cons_succ, List.getElem_toArray, List.getElem_cons_zero, List.getElem_cons_succ]
                  refine' wpAnyZ_take (i := 8) (oi := _) (v := _) rfl (by kernel_rfl) (by kernel_rfl) (by kernel_rfl) (by kernel_rfl) (fun _ _ _ h => h) (Or.inl ⟨by rfl, ?hw9⟩) (by assumption) ?rezw9
                  case hw9 => (intro w' hSw; (try dsimp only at hSw); go_simp; try with_reducible rfl)
                  try simp only [Act.put, List.setIfInBounds_toArray, List.set_cons_zero, List.set_cons_succ, List.getElem_toArray, List.getElem_cons_zero, List.getElem_cons_succ]
                  refine' wpAnyZ_take (i := 9) (oi := _) (v := _) rfl (by kernel_rfl) (by kernel_rfl) (by kernel_rfl) (by kernel_rfl) (fun _ _ _ h => h) (Or.inl ⟨by rfl, ?hw10⟩) (by assumption) ?rezw10
                  case hw10 => (intro w' hSw; (try dsimp only at hSw); go_simp; try with_reducible rfl)
                  try simp only [Act.put, List.setIfInBounds_toArray, List.set_cons_zero, List.set_cons_succ, List.getElem_toArray, List.getElem_cons_zero, List.getElem_cons_succ]
                  refine' wpAnyZ_take (i := 10) (oi := _) (v := _) rfl (by kernel_rfl) (by kernel_rfl) (by kernel_rfl) (by kernel_rfl) (fun _ _ _ h => h) (Or.inl ⟨by rfl, ?hw11⟩) (by assumption) ?rezw11
                  case hw11 => (intro w' hSw; (try dsimp only at hSw); go_simp; try with_reducible rfl)
                  try simp only [Act.put, List.setIfInBounds_toArray, List.set_cons_zero, List.set_cons_succ, List.getElem_toArray, List.getElem_cons_zero, List.getElem_cons_succ]
                  refine' wpAnyZ_take (i := 11) (oi := _) (v := _) rfl (by kernel_rfl) (by kernel_rfl) (by kernel_rfl) (by kernel_rfl) (fun _ _ _ h => h) (Or.inl ⟨by rfl, ?hw12⟩) (by assumption) ?rezw12
                  case hw12 => (intro w' hSw; (try dsimp only at hSw); go_simp; try with_reducible rfl)
                  try simp only [Act.put, List.setIfInBounds_toArray, List.set_cons_zero, List.set_cons_succ, List.getElem_toArray, List.getElem_cons_zero, List.getElem_cons_succ]
                  refine' wpAnyZ_take (i := 12) (oi := _) (v := _) rfl (by kernel_rfl) (by kernel_rfl) (by kernel_rfl) (by kernel_rfl) (fun _ _ _ h => h) (Or.inl ⟨by rfl, ?hw13⟩) (by assumption) ?rezw13
                  case hw13 => (intro w' hSw; (try dsimp only at hSw); go_simp; try with_reducible rfl)
                  try simp only [Act.put, List.setIfInBounds_toArray, List.set_cons_zero, List.set_cons_succ, List.getElem_toArray, List.getElem_cons_zero, List.getElem_cons_succ]
                  have hf1 := HO2.out.frozenAt (q + k)
                  have hc1 := HO2.out.cellAt (q + k) hqn
                  have hf1' : wr2.drew.frozen? ⟨ob, q + k, none⟩ = false := hf1
                  obtain ⟨u, hu⟩ : ∃ u, bt (splice L q (cs.take k)) (q + k) = u := ⟨_, rfl⟩
                  rw [hu] at hc1
                  have hc1' : wr2.drew.cell? ⟨ob, q + k, none⟩ = some (.int .u8 u) := hc1
                  clear hu
                  refine wpAnyZ_last (o := _) (by kernel_rfl) rfl (by kernel_rfl) (fun K hK => ?_)
                  go_simp
                  refine hK _ _ ?_
                  clear hK K
                  try simp only [Act.put, List.setIfInBounds_toArray, List.set_cons_zero, List.set_cons_succ, List.getElem_toArray, List.getElem_cons_zero, List.getElem_cons_succ]
                  clear K3 K5 K6 hwq hf1 hf1' hc1 hc1'
                  go_wp2_with fail
                  go_roundw
                  case rel =>
                    have hst := HO2.out.stored (q + k) x
                    rw [← HX.out, splice_step (by rw [HBS.out.len, HCSL.out]; omega) (by rw [HCSL.out]; exact hkt)] at hst
                    rw [HX.out] at hst
                    refine ⟨k + 1, by rw [HCSL.out]; omega, by go_num, hst, fun i hi hl => ?_, ?_, (hb2.setCell (by exact hob) _).drew⟩
                    · show (wr2.setCell _ _).heap[i]? = _
                      rw [heap_setG_ne _ _ _ hi]; exact HFR.out i hi hl
                    · show w5.heap.size ≤ (wr2.setCell _ _).heap.size
                      rw [size_setG]; exact hsz2
                  case measure => simp [intOf]; omega
                · obtain rfl : k = 2 + sn := by omega
                  have HLj := Lib.hid (show BsS (splice L q (cs.take (2 + sn))) M (j + 1) by
                    rw [← HCSL.out, List.take_length, ← HEQ.out, ← HQ.out]
                    exact BsS.step HG.out hlt HBS.out)
                  go_wp2_with fail
                  go_roundw
                  case rel => exact ⟨j + 1, _, by omega, by go_num, HLj.out, HO2.out, hb2⟩
                  case measure => simp [intOf]; omega
            · obtain rfl : j = M.k := by omega
              go_wp2_with fail
              rw [HRR.out]
              exact ⟨L, HBS.out.done, _, _, _, rfl, HOL.out.mono hs0, hB0.trans (hb.mono hs0)⟩
end
section
open Go.RowKit
set_option maxRecDepth 100000
set_option linter.unusedVariables false
set_option linter.unusedSimpArgs false
set_option linter.unnecessarySimpa false
theorem run_cut_fromG (T E : TypeId) (hT : Try.prog.underlying T = some (.slice E)) (hE : ∀ w, (sizeOf (Try.prog.elem T)).run Try.prog w = .ok 1 w) (A : Option Addr) (n c lo : Nat) (h : lo ≤ n) (w : World) :
    (Instr.slice T (.slice A n c) (some (.int .i64 (lo : Int))) none none).run Try.prog w = .ok (.slice (cutA A c lo) (n - lo) (c - lo)) w := by
  rw [run_slice_l w T A n c (by simpa [Program.elem, hT] using hT) .i64 (lo : Int) (by omega) (by omega), hE]
  simp only [Result.andThen, sliced, Int.toNat_natCast, cutA, Nat.mul_one]
theorem run_cut_toG (T E : TypeId) (hT : Try.prog.underlying T = some (.slice E)) (hE : ∀ w, (sizeOf (Try.prog.elem T)).run Try.prog w = .ok 1 w) (A : Option Addr) (n c hi : Nat) (h : hi ≤ c) (w : World) :
    (Instr.slice T (.slice A n c) none (some (.int .i64 (hi : Int))) none).run Try.prog w = .ok (.slice (cutA A c 0) hi c) w := by
  rw [run_slice_h w T A n c (by simpa [Program.elem, hT] using hT) .i64 (hi : Int) (by omega) (by omega), hE]
  simp only [Result.andThen, sliced, Int.toNat_natCast, cutA, Nat.sub_zero, Nat.mul_one]
theorem sz_sl (w : World) : (sizeOf (Try.prog.elem 30)).run Try.prog w = .ok 1 w := by kernel_rfl
theorem sz_in (w : World) : (sizeOf (Try.prog.elem 31)).run Try.prog w = .ok 1 w := by kernel_rfl
theorem rowC_app (S T : List Sl) : rowC (S ++ T) = rowC S ++ rowC T := by simp [rowC]
theorem natC_app (S T : List Nat) : natC (S ++ T) = natC S ++ natC T := by simp [natC]
theorem rowC_take (S : List Sl) (k : Nat) : rowC (S.take k) = (rowC S).take k := by simp [rowC, List.map_take]
theorem rowC_drop (S : List Sl) (k : Nat) : rowC (S.drop k) = (rowC S).drop k := by simp [rowC, List.map_drop]
theorem natC_take (S : List Nat) (k : Nat) : natC (S.take k) = (natC S).take k := by simp [natC, List.map_take]
theorem natC_drop (S : List Nat) (k : Nat) : natC (S.drop k) = (natC S).drop k := by simp [natC, List.map_drop]
theorem rowC_len (S : List Sl) : (rowC S).length = S.length := by simp [rowC]
theorem natC_len (S : List Nat) : (natC S).length = S.length := by simp [natC]
theorem RdG.head {w : World} {bad : List Nat} {A : Option Addr} {vs : List Value} (h : RdG w bad A vs) (c : Nat) (hc : vs.length ≤ c) : RdG w bad (cutA A c 0) vs := by
  have := h.cut c 0 hc
  simpa using this
theorem RdG.one (w : World) (v : Value) (t : TypeId) (bad : List Nat) (hb : w.heap.size ∉ bad) : RdG (w.alloc (.cells #[v] t)) bad (some ⟨w.heap.size, 0, none⟩) [v] := .inr ⟨_, 0, rfl, hb, fun i u hu => by
  have hi : i < 1 := (List.getElem?_eq_some_iff.1 hu).1
  obtain rfl : i = 0 := by omega
  rw [heap_cell (heap_alloc_new w _)]
  exact hu⟩
theorem RdG.kept {w w' : World} {bad : List Nat} {A A' B : Option Addr} {vs : List Value} (h : RdG w bad B vs) (hk : Kept w A w' A') (hne : ∀ b, B = some b → ∀ a, A = some a → a.block ≠ b.block) : RdG w' bad B vs := by
  rcases h with h | ⟨b, off, rfl, hn, h⟩
  · exact .inl h
  · refine .inr ⟨b, off, rfl, hn, fun i u hu => ?_⟩
    have h1 := h i u hu
    have h2 := hk.1 b (World.block_lt_of_cell? w ⟨b, off + i, none⟩ h1) (fun a ha => hne _ rfl a ha)
    rw [← h1]
    simp [World.cell?, h2]
theorem OwnB.kept {w w' : World} {A A' B : Option Addr} {base n c : Nat} {l : List Int} (h : OwnB w base B n c l) (hk : Kept w A w' A') (hne : ∀ b, B = some b → ∀ a, A = some a → a.block ≠ b.block) : OwnB w' base B n c l := by
  refine ⟨h.1, ?_⟩
  rcases h.2 with hv | ⟨g, cap, cur, hv, hbg, hg, rest⟩
  · exact .inl hv
  · have e : B = some ⟨g, 0, none⟩ := by injection hv
    exact .inr ⟨g, cap, cur, hv, hbg, (hk.1 g (Array.getElem?_eq_some_iff.1 hg).1 (fun a ha => hne _ e a ha)).trans hg, rest⟩
theorem OwnB.blkOf {w : World} {base n c : Nat} {A : Option Addr} {l : List Int} (h : OwnB w base A n c l) : ∀ b, A = some b → base ≤ b.block := fun b hb => by
  rcases h.2 with ⟨hv, _⟩ | ⟨g, cap, cur, hv, hbg, hg, rest⟩
  · injection hv with e; rw [e] at hb; cases hb
  · injection hv with e; rw [e] at hb; injection hb with hb; subst hb; exact hbg
theorem OwnB.ltOf {w : World} {base n c : Nat} {A : Option Addr} {l : List Int} (h : OwnB w base A n c l) : ∀ b, A = some b → b.block < w.heap.size := fun b hb => by
  rcases h.2 with ⟨hv, _⟩ | ⟨g, cap, cur, hv, hbg, hg, rest⟩
  · injection hv with e; rw [e] at hb; cases hb
  · injection hv with e; rw [e] at hb; injection hb with hb; subst hb; exact (Array.getElem?_eq_some_iff.1 hg).1
theorem Sm.packed {M : Mdl} (g : Sm M) (hr : Good M) : Sm M.pack := hr.packed.sm

set_option maxHeartbeats 32000000 in
theorem rIns_any (w : World) (bad : List Nat) (M : Mdl) (r : RV) (hr : RefV w bad M r) (hg : Sm M) (hbad : ∀ g ∈ bad, g < w.heap.size) (i : Int) (i0 : -9223372036854775808 ≤ i) (i1 : i ≤ 9223372036854775807) (sp : Option Addr) (m sc : Nat) (cs : List Int) (hm : cs.length = m) (hmx : m ≤ 1000000) (hrd : Rd w sp cs) (hok : M.left < 4 + (m : Int) ∨ Good M) (R : Ending → World → Prop) (hR : R = RefDeed w bad (insM M i cs)) :
    Calls Try.prog 56 #[r.val M, .int .i64 i, .slice sp m sc] w R := by
  have HRR := Lib.hid hR; clear hR
  have HG := Lib.hid hg
  have HV := Lib.hid hr
  have HBAD := Lib.hid hbad
  have HM := Lib.hid hm
  have HRD := Lib.hid hrd
  have hk := hg.k1
  have hn := hg.n1
  have hh := hg.h1
  have hb := hg.left_bd
  obtain ⟨W1, hW1⟩ : ∃ W, W = w.alloc (.cells #[.int .i64 (M.n : Int), .slice r.FA M.h r.fc, .slice r.CA M.k r.cc, .slice r.PA M.P.length r.pc] 33) := ⟨_, rfl⟩
  have hb1 : Below w.heap.size w W1 := by rw [hW1]; exact (Below.refl _ _).alloc (Nat.le_refl _) _
  have hs1 : W1.heap.size = w.heap.size + 1 := by rw [hW1]; simp
  have hR1 : RpAt W1 w.heap.size r M := by rw [hW1]; exact RpAt.made w r M _
  have hT1 : W1.there w.heap.size 0 4 := by rw [hW1]; exact there_new4 w _ _ _ _ _
  obtain ⟨W2, hW2⟩ : ∃ W, W = W1.alloc (.cells #[.int .i64 0, .slice none 0 0, .slice none 0 0, .slice none 0 0] 33) := ⟨_, rfl⟩
  have hb12 : Below W1.heap.size W1 W2 := by rw [hW2]; exact (Below.refl _ _).alloc (Nat.le_refl _) _
  have hs2 : W2.heap.size = w.heap.size + 2 := by rw [hW2]; simp [hs1]
  have hT2 : W2.there (w.heap.size + 1) 0 4 := by rw [hW2, ← hs1]; exact there_new4 W1 _ _ _ _ _
  have hb2 : Below w.heap.size w W2 := hb1.trans (hb12.mono hb1.size)
  have HR2 := Lib.hid (hR1.keep hb12)
  have HT12 := Lib.hid (there_keepR hT1 hb12 (by omega))
  have HT2 := Lib.hid hT2
  have HWW := Lib.hid hW2
  rw [hW1] at HWW
  clear hW1 hW2 hR1 hT1 hT2 hr hg hbad hb12 hs1 hb1 hm hrd
  have same : ∀ W z, Below w.heap.size w W → insM M i cs = (M, z) → R (.returned (.tuple #[r.val M, .int .i64 z])) (W.setCells (w.heap.size + 1) 0 (rpC r M)) := fun W z h1 h2 => by
    rw [HRR.out, h2]
    have hbe : Below w.heap.size w (W.setCells (w.heap.size + 1) 0 (rpC r M)) := below_setCellsR h1 (by omega) _ _
    exact ⟨r, rfl, HV.out.keep hbe, hbe⟩
  have SAME := Lib.hid same
  clear same
  have HV2 := Lib.hid ((HV.out.more (g := w.heap.size + 1) (by omega)).more (g := w.heap.size) (Nat.le_refl _))
  obtain ⟨bad2, hbad2⟩ : ∃ b, b = w.heap.size :: (w.heap.size + 1) :: bad := ⟨_, rfl⟩
  rw [← hbad2] at HV2
  have HB2 := Lib.hid (show ∀ g ∈ bad2, g < w.heap.size + 2 from fun g hg => by
    rw [hbad2] at hg
    rcases List.mem_cons.1 hg with h | h
    · omega
    · rcases List.mem_cons.1 h with h | h
      · omega
      · have := HBAD.out g h; omega)
  have HB0 := Lib.hid (show w.heap.size ∈ bad2 by rw [hbad2]; simp)
  have HB1 := Lib.hid (show w.heap.size + 1 ∈ bad2 by rw [hbad2]; simp)
  have HBS := Lib.hid (show ∀ g ∈ bad, g ∈ bad2 from fun g hg => by rw [hbad2]; exact List.mem_cons_of_mem _ (List.mem_cons_of_mem _ hg))
  clear hbad2
  unfold RV.val
  obtain ⟨m0, m1, m2, m3⟩ := HR2.out.all
  by_cases harg : i < 0 ∨ (M.k : Int) < i
  · have HF := Lib.hid (show insM M i cs = (M, 1) from if_pos harg)
    rcases (by omega : i < 0 ∨ (0 ≤ i ∧ (M.k : Int) < i)) with h1 | ⟨h1, h2⟩
    all_goals
      clear harg
      go_enter Try.func56, Try.ntmps56
      go_upto_region 1 with fail
      rw [← HWW.out]
      clear HWW
      go_upto_region 2 with fail
      go_step
      refine wp_load_rp rfl _ rfl w.heap.size r M rfl HR2.out ?_
      refine wp_store_rp rfl _ _ rfl (w.heap.size + 1) r M rfl rfl HT2.out ?_
      repeat go_step
      refine ret_rp rfl rfl (RpAt.stored HT2.out r M) rfl ?_
      exact SAME.out _ _ hb2 HF.out
  obtain ⟨j, rfl⟩ := Int.eq_ofNat_of_zero_le (show 0 ≤ i by omega)
  have hjk : j ≤ M.k := by omega
  have HF0 := Lib.hid (show insM M (j : Int) cs = if M.left < 4 + (m : Int) then (M, 5) else ((M.room1 m).ins j ((M.room1 m).top - 2 - m) cs, 0) by
    unfold insM
    rw [if_neg harg, HM.out, Int.toNat_natCast])
  clear harg
  go_enter Try.func56, Try.ntmps56
  go_upto_region 1 with fail
  rw [← HWW.out]
  clear HWW
  go_upto_region 3 with fail
  go_step
  refine wp_load_rp rfl _ rfl w.heap.size r M rfl HR2.out ?_
  go_wp2_with fail
  refine (rleft_any _ bad2 M r (HV2.out.keep hb2) HG.out).mono ?_
  rintro e w3 ⟨rfl, hb23⟩
  have hb3 : Below w.heap.size w w3 := hb2.trans (hb23.mono hb2.size)
  have HR3 := Lib.hid (HR2.out.keep hb23)
  have HT13 := Lib.hid (there_keepR HT12.out hb23 (by omega))
  have HT3 := Lib.hid (there_keepR HT2.out hb23 (by omega))
  have hz3 : w.heap.size + 2 ≤ w3.heap.size := by have := hb23.size; omega
  clear hb23 m0 m1 m2 m3 HR2 HT12 HT2
  by_cases hfull : M.left < 4 + (m : Int)
  · have HF := Lib.hid (show insM M (j : Int) cs = (M, 5) by rw [HF0.out]; exact if_pos hfull)
    obtain ⟨t, ht⟩ : ∃ t, M.left = t := ⟨_, rfl⟩
    rw [ht] at hfull hb ⊢
    clear ht
    go_upto_region 4 with fail
    go_step
    refine wp_load_rp rfl _ rfl w.heap.size r M rfl HR3.out ?_
    refine wp_store_rp rfl _ _ rfl (w.heap.size + 1) r M rfl rfl HT3.out ?_
    repeat go_step
    refine ret_rp rfl rfl (RpAt.stored HT3.out r M) rfl ?_
    exact SAME.out _ _ hb3 HF.out
  have hgood : Good M := by
    rcases hok with h | h
    · exact absurd h hfull
    · exact h
  obtain ⟨q1, q2, q3, q4, q5, q6, q7⟩ := room1_ok hgood hfull
  have HF := Lib.hid (show insM M (j : Int) cs = ((M.room1 m).ins j ((M.room1 m).top - 2 - m) cs, 0) by rw [HF0.out, if_neg hfull])
  have hm4 : m ≤ 4096 := by omega
  clear HF0 hok SAME
  have HGD := Lib.hid hgood
  clear hgood
  have hu1 : M.used (M.k + 1) = M.h + 2 + 2 * (M.k + 1) := rfl
  obtain ⟨M1, hM1⟩ : ∃ M1, M.room1 m = M1 := ⟨_, rfl⟩
  have HRM := Lib.hid (show M1 = if (M.top : Int) - 2 - m < (M.used (M.k + 1) : Int) then M.pack else M from hM1.symm)
  rw [hM1] at q1 q2 q3 q4 q5 q6 HF
  clear hM1
  rw [hu1] at q6 q7 HRM
  have htn := top_n M
  have htn1 := top_n M1
  rw [q4] at htn1
  have HG1 := Lib.hid q1.sm
  have HQ2 := Lib.hid q2
  have HQ3 := Lib.hid q3
  have HQ4 := Lib.hid q4
  have HQ5 := Lib.hid q5
  have HP1L := Lib.hid q1.same
  clear q1 q2 q3 q4 q5 hu1
  obtain ⟨tl, htl⟩ : ∃ t, M.left = t := ⟨_, rfl⟩
  rw [htl] at hfull hb ⊢
  clear htl
  -- is there room at its front?
  obtain ⟨m0, m1, m2, m3⟩ := HR3.out.all
  have K0 : ∀ W : World, Below w3.heap.size w3 W → W.cell? ⟨w.heap.size, 0, none⟩ = some (.int .i64 (M.n : Int)) := fun W hW => (HR3.out.keep hW).all.1
  have K1 : ∀ W : World, Below w3.heap.size w3 W → W.cell? ⟨w.heap.size, 1, none⟩ = some (.slice r.FA M.h r.fc) := fun W hW => (HR3.out.keep hW).all.2.1
  have K2 : ∀ W : World, Below w3.heap.size w3 W → W.cell? ⟨w.heap.size, 2, none⟩ = some (.slice r.CA M.k r.cc) := fun W hW => (HR3.out.keep hW).all.2.2.1
  have K3 : ∀ W : World, Below w3.heap.size w3 W → W.cell? ⟨w.heap.size, 3, none⟩ = some (.slice r.PA M.P.length r.pc) := fun W hW => (HR3.out.keep hW).all.2.2.2
  clear m0 m1 m2 m3
  obtain ⟨tp, htp⟩ : ∃ t, M.top = t := ⟨_, rfl⟩
  rw [htp] at HRM htn
  have e1 : IntKind.i64.wrap ((tp : Int) - 2) = (tp : Int) - 2 := IntWalk.i64_in _ (by omega)
  have e2 : IntKind.i64.wrap ((tp : Int) - 2 - (m : Int)) = (tp : Int) - 2 - (m : Int) := IntWalk.i64_in _ (by omega)
  have e3 : IntKind.i64.wrap ((M.k : Int) + 1) = (M.k : Int) + 1 := IntWalk.i64_in _ (by omega)
  go_upto_region 5 with fail
  refine wp_region_held_drew (S := (fun W => Below w3.heap.size w3 W)) (by kernel_rfl) ?_ (fun hHeld => ?_)
  · exact (Below.refl _ w3).drew
  refine' wpAnyH_take (i := 0) (oi := _) (v := _) rfl (by kernel_rfl) (by kernel_rfl) (by kernel_rfl) (fun _ _ _ h => h) (Or.inl ⟨by rfl, ?hz1⟩) (by assumption) ?rezt1
  case hz1 => (intro w' hSw; (try dsimp only at hSw); go_simp; try with_reducible rfl)
  try simp only [Act.put, List.setIfInBounds_toArray, List.set_cons_zero, List.set_cons_succ, List.getElem_toArray, List.getElem_cons_zero, List.getElem_cons_succ]
  refine' wpAnyH_take (i := 3) (oi := _) (v := _) rfl (by kernel_rfl) (by kernel_rfl) (by kernel_rfl) (fun _ _ _ h => h) (Or.inl ⟨by rfl, ?hz2⟩) (by assumption) ?rezt2
  case hz2 => (intro w' hSw; (try dsimp only at hSw); go_simp; try with_reducible rfl)
  try simp only [Act.put, List.setIfInBounds_toArray, List.set_cons_zero, List.set_cons_succ, List.getElem_toArray, List.getElem_cons_zero, List.getElem_cons_succ]
  refine' wpAnyH_take (i := 4) (oi := _) (v := _) rfl (by kernel_rfl) (by kernel_rfl) (by kernel_rfl) (fun _ _ _ h => h) (Or.inl ⟨by rfl, ?hz3⟩) (by assumption) ?rezt3
  case hz3 => (intro w' hSw; (try dsimp only at hSw); go_simp; try with_reducible rfl)
  try simp only [Act.put, List.setIfInBounds_toArray, List.set_cons_zero, List.set_cons_succ, List.getElem_toArray, List.getElem_cons_zero, List.getElem_cons_succ]
  refine' wpAnyH_take (i := 6) (oi := _) (v := _) rfl (by kernel_rfl) (by kernel_rfl) (by kernel_rfl) (fun _ _ _ h => h) (Or.inl ⟨by rfl, ?hz4⟩) (by assumption) ?rezt4
  case hz4 => (intro w' hSw; (try dsimp only at hSw); go_simp; try with_reducible rfl)
  try simp only [Act.put, List.setIfInBounds_toArray, List.set_cons_zero, List.set_cons_succ, List.getElem_toArray, List.getElem_cons_zero, List.getElem_cons_succ]
  refine' wpAnyH_take (i := 7) (oi := _) (v := _) rfl (by kernel_rfl) (by kernel_rfl) (by kernel_rfl) (fun _ _ _ h => h) (Or.inl ⟨by rfl, ?hz5⟩) (by assumption) ?rezt5
  case hz5 => (intro w' hSw; (try dsimp only at hSw); go_simp; try with_reducible rfl)
  try simp only [Act.put, List.setIfInBounds_toArray, List.set_cons_zero, List.set_cons_succ, List.getElem_toArray, List.getElem_cons_zero, List.getElem_cons_succ]
  refine' wpAnyH_take (i := 8) (oi := _) (v := _) rfl (by kernel_rfl) (by kernel_rfl) (by kernel_rfl) (fun _ _ _ h => h) (Or.inl ⟨by rfl, ?hz6⟩) (by assumption) ?rezt6
  case hz6 => (intro w' hSw; (try dsimp only at hSw); go_simp; try with_reducible rfl)
  try simp only [Act.put, List.setIfInBounds_toArray, List.set_cons_zero, List.set_cons_succ, List.getElem_toArray, List.getElem_cons_zero, List.getElem_cons_succ]
  refine' wpAnyH_take (i := 9) (oi := _) (v := _) rfl (by kernel_rfl) (by kernel_rfl) (by kernel_rfl) (fun _ _ _ h => h) (Or.inl ⟨by rfl, ?hz7⟩) (by assumption) ?rezt7
  case hz7 => (intro w' hSw; (try dsimp only at hSw); go_simp; try with_reducible rfl)
  try simp only [Act.put, List.setIfInBounds_toArray, List.set_cons_zero, List.set_cons_succ, List.getElem_toArray, List.getElem_cons_zero, List.getElem_cons_succ]
  refine' wpAnyH_take (i := 10) (oi := _) (v := _) rfl (by kernel_rfl) (by kernel_rfl) (by kernel_rfl) (fun _ _ _ h => h) (Or.inl ⟨by rfl, ?hz8⟩) (by assumption) ?rezt8
  case hz8 => (intro w' hSw; (try dsimp only at hSw); go_simp; try with_reducible rfl)
  try simp only [Act.put, List.setIfInBounds_toArray, List.set_cons_zero, List.set_cons_succ, List.getElem_toArray, List.getElem_cons_zero, List.getElem_cons_succ]
  refine wpAnyH_ready (rs := [1]) (by kernel_rfl) (by simp) ?_
  refine AllReadyH.cons (o := _) rfl (fun K hK => ?_) AllReadyH.nil
  go_simp
  have hbd : Below w3.heap.size w3 w3.drew := (Below.refl _ w3).drew
  go_at_call 103
  refine (rtop_any _ bad2 M r ((HV2.out.keep hb3).keep hbd) HG.out).mono ?_
  rintro e w4 ⟨rfl, hb4⟩
  have hb34 : Below w3.heap.size w3 w4 := hbd.trans (hb4.mono (Nat.le_refl _))
  rw [htp]
  clear hb4 hbd
  refine hK.out _ _ ?_ (fun hHeld => ?_)
  · exact hb34
  clear hK K
  try simp only [Act.put, List.setIfInBounds_toArray, List.set_cons_zero, List.set_cons_succ, List.getElem_toArray, List.getElem_cons_zero, List.getElem_cons_succ]
  refine' wpAnyH_take (i := 2) (oi := _) (v := _) rfl (by kernel_rfl) (by kernel_rfl) (by kernel_rfl) (fun _ _ _ h => h) (Or.inl ⟨by rfl, ?hz9⟩) (by assumption) ?rezt9
  case hz9 => (intro w' hSw; (try dsimp only at hSw); go_simp; try with_reducible rfl)
  try simp only [Act.put, List.setIfInBounds_toArray, List.set_cons_zero, List.set_cons_succ, List.getElem_toArray, List.getElem_cons_zero, List.getElem_cons_succ]
  refine' wpAnyH_take (i := 5) (oi := _) (v := _) rfl (by kernel_rfl) (by kernel_rfl) (by kernel_rfl) (fun _ _ _ h => h) (Or.inl ⟨by rfl, ?hz10⟩) (by assumption) ?rezt10
  case hz10 => (intro w' hSw; (try dsimp only at hSw); go_simp; try with_reducible rfl)
  try simp only [Act.put, List.setIfInBounds_toArray, List.set_cons_zero, List.set_cons_succ, List.getElem_toArray, List.getElem_cons_zero, List.getElem_cons_succ]
  refine wpAnyH_ready (rs := [11]) (by kernel_rfl) (by simp) ?_
  refine AllReadyH.cons (o := _) rfl (fun K hK => ?_) AllReadyH.nil
  go_simp
  go_at_call 66
  refine (rused_any _ M r HG.out ((M.k : Int) + 1) (by omega) (by omega)).mono ?_
  rintro e w5 ⟨rfl, hb5⟩
  have hb35 : Below w3.heap.size w3 w5 := hb34.trans (hb5.mono hb34.size)
  clear hb5
  refine hK.out _ _ ?_ (fun hHeld => ?_)
  · exact hb35
  clear hK K
  try simp only [Act.put, List.setIfInBounds_toArray, List.set_cons_zero, List.set_cons_succ, List.getElem_toArray, List.getElem_cons_zero, List.getElem_cons_succ]
  refine' wpAnyH_take (i := 12) (oi := _) (v := _) rfl (by kernel_rfl) (by kernel_rfl) (by kernel_rfl) (fun _ _ _ h => h) (Or.inl ⟨by rfl, ?hz11⟩) (by assumption) ?rezt11
  case hz11 => (intro w' hSw; (try dsimp only at hSw); go_simp; try with_reducible rfl)
  try simp only [Act.put, List.setIfInBounds_toArray, List.set_cons_zero, List.set_cons_succ, List.getElem_toArray, List.getElem_cons_zero, List.getElem_cons_succ]
  refine wpAnyH_done (by kernel_rfl) ?_ _
  clear e1 e2 e3 K0 K1 K2 K3 hb34
  have hb5 : Below w.heap.size w w5 := hb3.trans (hb35.mono (by omega))
  have HR5 := Lib.hid (HR3.out.keep hb35)
  have HT15 := Lib.hid (there_keepR HT13.out hb35 (by omega))
  have HT5 := Lib.hid (there_keepR HT3.out hb35 (by omega))
  have hz5 : w.heap.size + 2 ≤ w5.heap.size := by have := hb35.size; omega
  clear HR3 HT13 HT3 hb35 hb3 htp
  have H6 : ∃ r1 : RV, True := ⟨r, trivial⟩
  clear H6
  by_cases hpk : (tp : Int) - 2 - (m : Int) < (M.h : Int) + 2 + 2 * ((M.k : Int) + 1)
  · have hM1 : M1 = M.pack := by rw [HRM.out]; exact if_pos (by omega)
    clear HRM
    go_upto_region 6 with fail
    go_step
    refine wp_load_rp rfl _ rfl w.heap.size r M rfl HR5.out ?_
    go_wp2_with fail
    refine (rPack_any _ bad2 M r (HV2.out.keep hb5) HG.out (fun g hg => by have := HB2.out g hg; omega) _ rfl).mono ?_
    rintro e w6 ⟨r1, rfl, hv6, hb56⟩
    have hb6' : Below w.heap.size w w6 := hb5.trans (hb56.mono (by omega))
    have hT16 := there_keepR HT15.out hb56 (by omega)
    have hT6 := there_keepR HT5.out hb56 (by omega)
    rw [← hM1] at hv6 ⊢
    have HT16 := Lib.hid hT16
    simp only []
    iterate 1 go_step
    refine wp_store_rp rfl _ _ rfl w.heap.size r1 M1 rfl rfl HT16.out ?_
    obtain ⟨W7, hW7⟩ : ∃ W, W = w6.setCells w.heap.size 0 (rpC r1 M1) := ⟨_, rfl⟩
    have HR7 := Lib.hid (show RpAt W7 w.heap.size r1 M1 by rw [hW7]; exact RpAt.stored HT16.out r1 M1)
    have HT17 := Lib.hid (show W7.there w.heap.size 0 4 by rw [hW7]; exact World.there_setCells HT16.out _ _ _)
    have HT7 := Lib.hid (show W7.there (w.heap.size + 1) 0 4 by rw [hW7]; exact World.there_setCells hT6 _ _ _)
    have hb7 : Below w.heap.size w W7 := by rw [hW7]; exact below_setCellsR hb6' (Nat.le_refl _) _ _
    have hz7 : w.heap.size + 2 ≤ W7.heap.size := by rw [hW7, size_setCells]; have := hb56.size; omega
    have HV7 := Lib.hid (show RefV W7 bad2 M1 r1 by
      refine hv6.map fun A vs q => q.frame (fun i hi _ => ?_) (fun g hg => hg)
      rw [hW7, heap_setCells_ne _ _ _ _ (fun e => hi (by rw [e]; exact HB0.out))])
    rw [← hW7]
    clear hW7 hT16 hT6 HT16 hv6 hb56 hb6' HR5 HT15 HT5 hM1 hpk
    obtain ⟨q, hq⟩ : ∃ q, M1.top - 2 - m = q := ⟨_, rfl⟩
    rw [hq] at HF
    obtain ⟨tq, htq⟩ : ∃ t, M1.top = t := ⟨_, rfl⟩
    rw [htq] at hq q6 htn1
    have hval : (tq : Int) - 2 - (m : Int) = (q : Int) := by omega
    have htq4 : (tq : Int) ≤ 4096 := by omega
    have hq4 : (q : Int) ≤ 4096 := by omega
    have hjk1 : j ≤ M1.k := by rw [HQ2.out]; exact hjk
    have hk1 : M1.k ≤ 2047 := by rw [HQ2.out]; exact hk
    have HTQ := Lib.hid htq
    clear hq htq q6 htn1
    go_upto_region 7 with fail
    go_step
    refine wp_load_rp rfl _ rfl w.heap.size r1 M1 rfl HR7.out ?_
    go_wp2_with fail
    refine (rtop_any _ bad2 M1 r1 HV7.out HG1.out).mono ?_
    rintro e w8 ⟨rfl, hb78⟩
    rw [HTQ.out]
    have hb8 : Below w.heap.size w w8 := hb7.trans (hb78.mono (by omega))
    have HR8 := Lib.hid (HR7.out.keep hb78)
    have HT18 := Lib.hid (there_keepR HT17.out hb78 (by omega))
    have HT8 := Lib.hid (there_keepR HT7.out hb78 (by omega))
    have HV8 := Lib.hid (HV7.out.keep hb78)
    have hz8 : w.heap.size + 2 ≤ w8.heap.size := by have := hb78.size; omega
    have HRD8 := Lib.hid (HRD.out.keep hb8)
    clear hb78 hb7 HR7 HT17 HT7 HV7 hz7
    -- the cells ahead
    obtain ⟨m0, m1, m2, m3⟩ := HR8.out.all
    have hcc := HV8.out.ccap
    have hpc := HV8.out.pcap
    have HSL := Lib.hid HV8.out.rows.len
    have hSk : r1.S.length = M1.k := HSL.out
    have hcut1 := run_cut_toG 30 29 Try.underlying30 sz_sl r1.CA M1.k r1.cc j (by omega)
    have hcut2 := run_cut_fromG 30 29 Try.underlying30 sz_sl r1.CA M1.k r1.cc j hjk1
    obtain ⟨D1, hD1⟩ : ∃ D, cutA r1.CA r1.cc 0 = D := ⟨_, rfl⟩
    obtain ⟨D2, hD2⟩ : ∃ D, cutA r1.CA r1.cc j = D := ⟨_, rfl⟩
    rw [hD1] at hcut1
    rw [hD2] at hcut2
    have HRC1 := Lib.hid (show RdG w8 bad2 D1 (rowC (r1.S.take j)) by rw [← hD1, rowC_take]; exact (HV8.out.cells.head _ (by rw [rowC_len, hSk]; exact hcc.1)).take j)
    have HRC2 := Lib.hid (show RdG w8 bad2 D2 (rowC (r1.S.drop j)) by rw [← hD2, rowC_drop]; exact HV8.out.cells.cut _ _ (by rw [rowC_len, hSk]; exact hcc.1))
    have HLT := Lib.hid (show (rowC (r1.S.take j)).length = j by rw [rowC_len, List.length_take, hSk]; omega)
    have HLD := Lib.hid (show (rowC (r1.S.drop j)).length = M1.k - j by rw [rowC_len, List.length_drop, hSk])
    clear hD1 hD2 m0 m1 m3
    have hba : Below w8.heap.size w8 (w8.alloc (.cells #[] 29)) := (Below.refl _ _).alloc (Nat.le_refl _) _
    have m2' := (HR8.out.keep hba).all.2.2.1
    go_upto_region 8 with fail
    clear hval
    iterate 16 go_step
    clear m2'
    refine wp_append_g 30 29 (.slice none 0 0) 24 Try.underlying30 info_sl rfl (by omega) rfl (.tmp 49) (.tmp 53) rfl w8.heap.size _ _ _ [] rfl (OwnG.lit 29 w8 _ (Nat.le_refl _)) D1 j r1.cc _ rfl HLT.out (HRC1.out.keep hba).less (rowC_one _) (by omega) (by simp) ?_
    intro A9 c9 w9 hown9 hb9' _
    simp only [List.nil_append, Nat.zero_add] at hown9 ⊢
    have hb89 : Below w8.heap.size w8 w9 := hba.trans hb9'
    have HO9 := Lib.hid hown9
    have hz9 := hb89.size
    have HRD9 := Lib.hid (HRD8.out.keep hb89)
    clear hown9 hb9' hba hcut1 m2
    -- the cell's own bytes
    go_upto_region 9 with fail
    iterate 10 go_step
    have hba : Below w9.heap.size w9 (w9.alloc (.cells #[] 5)) := (Below.refl _ _).alloc (Nat.le_refl _) _
    refine wp_append rfl (.tmp 56) (.tmp 57) rfl w9.heap.size _ _ _ [] rfl (OwnB.lit w9 #[] [] _ 0 rfl rfl (Nat.le_refl _) (by decide)) sp m sc cs rfl HM.out (HRD9.out.keep hba) (by omega) (by simp) ?_
    intro A10 c10 w10 hown10 _ hb10'
    simp only [List.nil_append, Nat.zero_add] at hown10 ⊢
    have hb910 : Below w9.heap.size w9 w10 := hba.trans hb10'
    have HO10 := Lib.hid hown10
    have HO910 := Lib.hid (HO9.out.keep hb910)
    have hz10 := hb910.size
    have hA9 : ∀ a, A9 = some a → a.block < w9.heap.size := fun a ha => by
      rcases HO9.out.2.2 with ⟨hv, _⟩ | ⟨g, cap, cur, hv, hbg, hgg, _⟩
      · injection hv with e1; rw [e1] at ha; cases ha
      · injection hv with e1; rw [e1] at ha; injection ha with ha; subst ha; exact (Array.getElem?_eq_some_iff.1 hgg).1
    have HA9 := Lib.hid hA9
    clear hown10 hb10' hba hA9
    iterate 3 go_step
    have hba : Below w10.heap.size w10 (w10.alloc (.cells #[.slice A10 m c10] 29)) := (Below.refl _ _).alloc (Nat.le_refl _) _
    refine wp_append_g 30 29 (.slice none 0 0) 24 Try.underlying30 info_sl rfl (by omega) rfl (.tmp 55) (.tmp 59) rfl w8.heap.size A9 j c9 _ rfl (HO910.out.keep hba) _ 1 1 [.slice A10 m c10] rfl rfl (RdG.one w10 _ _ [] (by simp)) (by intro u hu; simp at hu; subst hu; rfl) (by omega) (by simp; omega) ?_
    intro A11 c11 w11 hown11 hb11' hk11
    have hba2 : Below w8.heap.size w10 (w10.alloc (.cells #[.slice A10 m c10] 29)) := hba.mono (by omega)
    have hb811 : Below w8.heap.size w8 w11 := hb89.trans ((hb910.mono hz9).trans (hba2.trans hb11'))
    have HO11 := Lib.hid hown11
    have HX10 := Lib.hid (HO10.out.keep hba)
    have HX11 := Lib.hid (show OwnB w11 w9.heap.size A10 m c10 cs from HX10.out.kept hk11 (fun b hb a ha => by
      have h1 := HA9.out a ha
      have h2 := HO10.out.blkOf b hb
      omega))
    have HB11 := Lib.hid (show ∀ b, A10 = some b → ∀ a, A11 = some a → a.block ≠ b.block from fun b hb a ha => by
      have h1 := HO10.out.blkOf b hb
      rcases hk11.2 a ha with ⟨a', h2, h3⟩ | h2
      · have h4 := HA9.out a' h2
        omega
      · have h5 := HO10.out.ltOf b hb
        rw [h2]
        simp
        omega)
    have hz11 : w8.heap.size ≤ w11.heap.size := hb811.size
    clear hown11 hb11' hk11 hba hba2 HO910 HX10
    -- the cells behind
    have m2 := (HR8.out.keep hb811).all.2.2.1
    have hb11 : Below w.heap.size w w11 := hb8.trans (hb811.mono (by omega))
    go_upto_region 10 with fail
    iterate 16 go_step
    refine wp_append_g 30 29 (.slice none 0 0) 24 Try.underlying30 info_sl rfl (by omega) rfl (.tmp 61) (.tmp 65) rfl w8.heap.size A11 (j + 1) c11 _ rfl HO11.out D2 (M1.k - j) (r1.cc - j) _ rfl HLD.out (HRC2.out.keep hb811).less (rowC_one _) (by omega) (by omega) ?_
    intro A12 c12 w12 hown12 hb12' hk12
    have hkk : j + 1 + (M1.k - j) = M1.k + 1 := by omega
    rw [hkk] at hown12 ⊢
    have hb812 : Below w8.heap.size w8 w12 := hb811.trans hb12'
    have HX12 := Lib.hid (HX11.out.kept hk12 (fun b hb a ha => HB11.out b hb a ha))
    have HO12 := Lib.hid hown12
    have hz12 : w8.heap.size ≤ w12.heap.size := hb812.size
    clear hown12 hb12' hk12 hkk HX11 HB11 hb811 HO11 hcut2 m2
    have HR12 := Lib.hid (HR8.out.keep hb812)
    have HT112 := Lib.hid (there_keepR HT18.out hb812 (by omega))
    have HT12 := Lib.hid (there_keepR HT8.out hb812 (by omega))
    have hb12 : Below w.heap.size w w12 := hb8.trans (hb812.mono (by omega))
    have m2 := HR12.out.all.2.2.1
    have hf2 := (HT112.out 2 (by decide)).2
    rw [Nat.zero_add] at hf2
    obtain ⟨C', hC'⟩ : ∃ C', C' = M1.C.take j ++ cs :: M1.C.drop j := ⟨_, rfl⟩
    obtain ⟨S', hS'⟩ : ∃ S', S' = r1.S.take j ++ (⟨A10, m, c10⟩ : Sl) :: r1.S.drop j := ⟨_, rfl⟩
    have hCl : C'.length = M1.k + 1 := by rw [hC']; simp; show min j M1.k + (M1.k - j + 1) = _; omega
    have HOS := Lib.hid (show OwnG 29 w12 w8.heap.size A12 (M1.k + 1) c12 (rowC S') by
      have := HO12.out
      rw [hS', rowC_app]
      simpa [rowC] using this)
    have HRpC := Lib.hid (show RpAt (w12.setCell ⟨w.heap.size, 2, none⟩ (.slice A12 (M1.k + 1) c12)) w.heap.size { r1 with CA := A12, cc := c12, S := S' } { M1 with C := C' } by
      have := HR12.out.setC A12 c12 C' S'
      rwa [hCl] at this)
    obtain ⟨W13, hW13⟩ : ∃ W, W = w12.setCell ⟨w.heap.size, 2, none⟩ (.slice A12 (M1.k + 1) c12) := ⟨_, rfl⟩
    have hb13 : Below w.heap.size w W13 := by rw [hW13]; exact hb12.setCell (Nat.le_refl _) _
    have HT113 := Lib.hid (show W13.there w.heap.size 0 4 by rw [hW13]; exact there_setG HT112.out _ _)
    have HT13' := Lib.hid (show W13.there (w.heap.size + 1) 0 4 by rw [hW13]; exact there_setG HT12.out _ _)
    have hz13 : w12.heap.size ≤ W13.heap.size ∧ W13.heap.size ≤ w12.heap.size := by have := size_setG w12 ⟨w.heap.size, 2, none⟩ (.slice A12 (M1.k + 1) c12); rw [← hW13] at this; omega
    have HFR := Lib.hid (show ∀ i, i ≠ w.heap.size → W13.heap[i]? = w12.heap[i]? from fun i hi => by rw [hW13]; exact heap_setG_ne _ _ _ hi)
    rw [← hW13] at HRpC
    have HCL := Lib.hid hCl
    have HCE := Lib.hid hC'
    have HSE := Lib.hid hS'
    have HW13 := Lib.hid hW13
    clear hW13 hC' hS' hCl HO12
    go_upto_region 11 with fail
    rw [← HW13.out]
    clear HW13 m2 hf2
    -- the places
    have hPk : M1.P.length ≤ M1.k ∧ M1.k ≤ M1.P.length := by have := HP1L.out; omega
    have hcut1 := run_cut_toG 31 3 Try.underlying31 sz_in r1.PA M1.P.length r1.pc j (by omega)
    have hcut2 := run_cut_fromG 31 3 Try.underlying31 sz_in r1.PA M1.P.length r1.pc j (by omega)
    obtain ⟨D3, hD3⟩ : ∃ D, cutA r1.PA r1.pc 0 = D := ⟨_, rfl⟩
    obtain ⟨D4, hD4⟩ : ∃ D, cutA r1.PA r1.pc j = D := ⟨_, rfl⟩
    rw [hD3] at hcut1
    rw [hD4] at hcut2
    have hP13 : RdG W13 bad2 r1.PA (natC M1.P) := (HV8.out.places.keep hb812).frame (fun i hi _ => HFR.out i (fun e => hi (by rw [e]; exact HB0.out))) (fun g hg => hg)
    have HRP3 := Lib.hid (show RdG W13 bad2 D3 (natC (M1.P.take j)) by rw [← hD3, natC_take]; exact (hP13.head _ (by rw [natC_len]; exact hpc.1)).take j)
    have HRP4 := Lib.hid (show RdG W13 bad2 D4 (natC (M1.P.drop j)) by rw [← hD4, natC_drop]; exact hP13.cut _ _ (by rw [natC_len]; exact hpc.1))
    have HLP3 := Lib.hid (show (natC (M1.P.take j)).length = j by rw [natC_len, List.length_take]; omega)
    have HLP4 := Lib.hid (show (natC (M1.P.drop j)).length = M1.P.length - j by rw [natC_len, List.length_drop])
    have m3 := HRpC.out.all.2.2.2
    simp only at m3
    clear hD3 hD4 hP13
    have hba : Below W13.heap.size W13 (W13.alloc (.cells #[] 3)) := (Below.refl _ _).alloc (Nat.le_refl _) _
    have m3' := (HRpC.out.keep hba).all.2.2.2
    simp only at m3'
    iterate 16 go_step
    clear m3'
    refine wp_append_g 31 3 (.int .i64 0) 8 Try.underlying31 info_in rfl (by omega) rfl (.tmp 68) (.tmp 72) rfl W13.heap.size _ _ _ [] rfl (OwnG.lit 3 W13 _ (Nat.le_refl _)) D3 j r1.pc _ rfl HLP3.out (HRP3.out.keep hba).less (natC_one _) (by omega) (by simp) ?_
    intro A14 c14 w14 hown14 hb14' _
    simp only [List.nil_append, Nat.zero_add] at hown14 ⊢
    have hb1314 : Below W13.heap.size W13 w14 := hba.trans hb14'
    have HO14 := Lib.hid hown14
    have hz14 := hb1314.size
    clear hown14 hb14' hba hcut1 m3
    go_upto_region 12 with fail
    iterate 10 go_step
    have hba : Below w14.heap.size w14 (w14.alloc (.cells #[.int .i64 (q : Int)] 3)) := (Below.refl _ _).alloc (Nat.le_refl _) _
    refine wp_append_g 31 3 (.int .i64 0) 8 Try.underlying31 info_in rfl (by omega) rfl (.tmp 74) (.tmp 76) rfl W13.heap.size A14 j c14 _ rfl (HO14.out.keep hba) _ 1 1 [.int .i64 (q : Int)] rfl rfl (RdG.one w14 _ _ [] (by simp)) (by intro u hu; simp at hu; subst hu; rfl) (by omega) (by simp; omega) ?_
    intro A15 c15 w15 hown15 hb15' _
    have hb1315 : Below W13.heap.size W13 w15 := hb1314.trans ((hba.mono hz14).trans hb15')
    have HO15 := Lib.hid hown15
    have hz15 := hb1315.size
    clear hown15 hb15' hba hb1314 HO14
    have m3 := (HRpC.out.keep hb1315).all.2.2.2
    simp only at m3
    go_upto_region 13 with fail
    iterate 16 go_step
    refine wp_append_g 31 3 (.int .i64 0) 8 Try.underlying31 info_in rfl (by omega) rfl (.tmp 78) (.tmp 82) rfl W13.heap.size A15 (j + 1) c15 _ rfl HO15.out D4 (M1.P.length - j) (r1.pc - j) _ rfl HLP4.out (HRP4.out.keep hb1315).less (natC_one _) (by omega) (by omega) ?_
    intro A16 c16 w16 hown16 hb16' _
    obtain ⟨P', hP'⟩ : ∃ P', P' = M1.P.take j ++ q :: M1.P.drop j := ⟨_, rfl⟩
    have hPl : P'.length = M1.k + 1 := by rw [hP']; simp; omega
    have hkk : j + 1 + (M1.P.length - j) = P'.length := by omega
    rw [hkk] at hown16 ⊢
    have HOP := Lib.hid (show OwnG 3 w16 W13.heap.size A16 P'.length c16 (natC P') by
      have := hown16
      rw [show natC P' = natC (M1.P.take j) ++ [.int .i64 (q : Int)] ++ natC (M1.P.drop j) by rw [hP']; simp [natC]]
      exact this)
    have hb1316 : Below W13.heap.size W13 w16 := hb1315.trans hb16'
    have hz16 := hb1316.size
    have HR16 := Lib.hid (HRpC.out.keep hb1316)
    have HT116 := Lib.hid (there_keepR HT113.out hb1316 (by omega))
    have HT16 := Lib.hid (there_keepR HT13'.out hb1316 (by omega))
    have hb16 : Below w.heap.size w w16 := hb13.trans (hb1316.mono (by omega))
    clear hown16 hb16' hkk hcut2 m3 HO15 hb1315
    have m3 := HR16.out.all.2.2.2
    simp only at m3
    have hf3 := (HT116.out 3 (by decide)).2
    rw [Nat.zero_add] at hf3
    obtain ⟨rf, hrf⟩ : ∃ rf : RV, rf = { r1 with CA := A12, cc := c12, S := S', PA := A16, pc := c16 } := ⟨_, rfl⟩
    have hMf : M1.ins j q cs = { M1 with C := C', P := P' } := by rw [HCE.out, hP']; rfl
    have HRf := Lib.hid (show RpAt (w16.setCell ⟨w.heap.size, 3, none⟩ (.slice A16 P'.length c16)) w.heap.size rf (M1.ins j q cs) by
      rw [hMf, hrf]
      exact HR16.out.setP A16 c16 P')
    have HTf := Lib.hid (there_setG HT16.out ⟨w.heap.size, 3, none⟩ (.slice A16 P'.length c16))
    have HMF := Lib.hid hMf
    have HRFE := Lib.hid hrf
    clear hP' hMf hrf hPl
    go_upto_region 14 with fail
    go_step
    refine wp_load_rp rfl _ rfl w.heap.size rf (M1.ins j q cs) rfl HRf.out ?_
    refine wp_store_rp rfl _ _ rfl (w.heap.size + 1) rf (M1.ins j q cs) rfl rfl HTf.out ?_
    repeat go_step
    refine ret_rp rfl rfl (RpAt.stored HTf.out rf (M1.ins j q cs)) rfl ?_
    have hbe : Below w.heap.size w ((w16.setCell ⟨w.heap.size, 3, none⟩ (.slice A16 P'.length c16)).setCells (w.heap.size + 1) 0 (rpC rf (M1.ins j q cs))) := below_setCellsR (hb16.setCell (Nat.le_refl _) _) (by omega) _ _
    have hfr : ∀ A vs, RdG w16 bad2 A vs → RdG ((w16.setCell ⟨w.heap.size, 3, none⟩ (.slice A16 P'.length c16)).setCells (w.heap.size + 1) 0 (rpC rf (M1.ins j q cs))) bad A vs := fun A vs h => h.frame (fun i hi _ => by
      rw [heap_setCells_ne _ _ _ _ (fun e => hi (by rw [e]; exact HB1.out)), heap_setG_ne _ _ _ (fun e => hi (by simp only at e; rw [e]; exact HB0.out))]) HBS.out
    obtain ⟨WF, hWF⟩ : ∃ W, W = (w16.setCell ⟨w.heap.size, 3, none⟩ (.slice A16 P'.length c16)).setCells (w.heap.size + 1) 0 (rpC rf (M1.ins j q cs)) := ⟨_, rfl⟩
    rw [← hWF] at hbe hfr ⊢
    clear hWF
    have h1316 : ∀ A vs, RdG W13 bad2 A vs → RdG w16 bad2 A vs := fun A vs h => h.keep hb1316
    have h1213 : ∀ A vs, RdG w12 bad2 A vs → RdG W13 bad2 A vs := fun A vs h => h.frame (fun i hi _ => HFR.out i (fun e => hi (by rw [e]; exact HB0.out))) (fun g hg => hg)
    have h812 : ∀ A vs, RdG w8 bad2 A vs → RdG w12 bad2 A vs := fun A vs h => h.keep hb812
    rw [HRR.out, HF.out]
    refine ⟨rf, rfl, ?_, hbe⟩
    have hbad8 : ∀ g ∈ bad2, g < w8.heap.size := fun g hg => by have := HB2.out g hg; omega
    have hrows : Rows2 w12 bad2 S' C' := by
      rw [HSE.out, HCE.out]
      have hv := HV8.out.rows.map h812
      refine (hv.take j).app ⟨⟨by rw [HM.out], HX12.out.cap.1, HX12.out.cap.2, HX12.out.rdG (fun g hg => by have := hbad8 g hg; omega)⟩, hv.drop j⟩
    have hMf := HMF.out
    have hrf := HRFE.out
    rw [hMf, hrf]
    refine ⟨hfr _ _ (h1316 _ _ (h1213 _ _ (h812 _ _ HV8.out.front))), HV8.out.fcap, hfr _ _ (h1316 _ _ (h1213 _ _ (HOS.out.rd hbad8))), hrows.map (fun A vs h => hfr A vs (h1316 A vs (h1213 A vs h))), ?_, hfr _ _ (HOP.out.rd (fun g hg => by have := hbad8 g hg; omega)), HOP.out.cap⟩
    show C'.length ≤ c12 ∧ c12 ≤ maxLen
    rw [HCL.out]
    exact HOS.out.cap
  · have hM1 : M1 = M := by rw [HRM.out]; exact if_neg (by omega)
    clear HRM
    obtain ⟨r1, hr1⟩ : ∃ r1, r1 = r := ⟨_, rfl⟩
    obtain ⟨W7, hW7⟩ : ∃ W, W = w5 := ⟨_, rfl⟩
    have HR7 := Lib.hid (show RpAt W7 w.heap.size r1 M1 by rw [hW7, hr1, hM1]; exact HR5.out)
    have HT17 := Lib.hid (show W7.there w.heap.size 0 4 by rw [hW7]; exact HT15.out)
    have HT7 := Lib.hid (show W7.there (w.heap.size + 1) 0 4 by rw [hW7]; exact HT5.out)
    have hb7 : Below w.heap.size w W7 := by rw [hW7]; exact hb5
    have hz7 : w.heap.size + 2 ≤ W7.heap.size := by rw [hW7]; exact hz5
    have HV7 := Lib.hid (show RefV W7 bad2 M1 r1 by rw [hW7, hr1, hM1]; exact HV2.out.keep hb5)
    rw [← hW7]
    clear hW7 HR5 HT15 HT5 hM1 hr1
    obtain ⟨q, hq⟩ : ∃ q, M1.top - 2 - m = q := ⟨_, rfl⟩
    rw [hq] at HF
    obtain ⟨tq, htq⟩ : ∃ t, M1.top = t := ⟨_, rfl⟩
    rw [htq] at hq q6 htn1
    have hval : (tq : Int) - 2 - (m : Int) = (q : Int) := by omega
    have htq4 : (tq : Int) ≤ 4096 := by omega
    have hq4 : (q : Int) ≤ 4096 := by omega
    have hjk1 : j ≤ M1.k := by rw [HQ2.out]; exact hjk
    have hk1 : M1.k ≤ 2047 := by rw [HQ2.out]; exact hk
    have HTQ := Lib.hid htq
    clear hq htq q6 htn1
    go_upto_region 7 with fail
    go_step
    refine wp_load_rp rfl _ rfl w.heap.size r1 M1 rfl HR7.out ?_
    go_wp2_with fail
    refine (rtop_any _ bad2 M1 r1 HV7.out HG1.out).mono ?_
    rintro e w8 ⟨rfl, hb78⟩
    rw [HTQ.out]
    have hb8 : Below w.heap.size w w8 := hb7.trans (hb78.mono (by omega))
    have HR8 := Lib.hid (HR7.out.keep hb78)
    have HT18 := Lib.hid (there_keepR HT17.out hb78 (by omega))
    have HT8 := Lib.hid (there_keepR HT7.out hb78 (by omega))
    have HV8 := Lib.hid (HV7.out.keep hb78)
    have hz8 : w.heap.size + 2 ≤ w8.heap.size := by have := hb78.size; omega
    have HRD8 := Lib.hid (HRD.out.keep hb8)
    clear hb78 hb7 HR7 HT17 HT7 HV7 hz7
    -- the cells ahead
    obtain ⟨m0, m1, m2, m3⟩ := HR8.out.all
    have hcc := HV8.out.ccap
    have hpc := HV8.out.pcap
    have HSL := Lib.hid HV8.out.rows.len
    have hSk : r1.S.length = M1.k := HSL.out
    have hcut1 := run_cut_toG 30 29 Try.underlying30 sz_sl r1.CA M1.k r1.cc j (by omega)
    have hcut2 := run_cut_fromG 30 29 Try.underlying30 sz_sl r1.CA M1.k r1.cc j hjk1
    obtain ⟨D1, hD1⟩ : ∃ D, cutA r1.CA r1.cc 0 = D := ⟨_, rfl⟩
    obtain ⟨D2, hD2⟩ : ∃ D, cutA r1.CA r1.cc j = D := ⟨_, rfl⟩
    rw [hD1] at hcut1
    rw [hD2] at hcut2
    have HRC1 := Lib.hid (show RdG w8 bad2 D1 (rowC (r1.S.take j)) by rw [← hD1, rowC_take]; exact (HV8.out.cells.head _ (by rw [rowC_len, hSk]; exact hcc.1)).take j)
    have HRC2 := Lib.hid (show RdG w8 bad2 D2 (rowC (r1.S.drop j)) by rw [← hD2, rowC_drop]; exact HV8.out.cells.cut _ _ (by rw [rowC_len, hSk]; exact hcc.1))
    have HLT := Lib.hid (show (rowC (r1.S.take j)).length = j by rw [rowC_len, List.length_take, hSk]; omega)
    have HLD := Lib.hid (show (rowC (r1.S.drop j)).length = M1.k - j by rw [rowC_len, List.length_drop, hSk])
    clear hD1 hD2 m0 m1 m3
    have hba : Below w8.heap.size w8 (w8.alloc (.cells #[] 29)) := (Below.refl _ _).alloc (Nat.le_refl _) _
    have m2' := (HR8.out.keep hba).all.2.2.1
    go_upto_region 8 with fail
    clear hval
    iterate 16 go_step
    clear m2'
    refine wp_append_g 30 29 (.slice none 0 0) 24 Try.underlying30 info_sl rfl (by omega) rfl (.tmp 49) (.tmp 53) rfl w8.heap.size _ _ _ [] rfl (OwnG.lit 29 w8 _ (Nat.le_refl _)) D1 j r1.cc _ rfl HLT.out (HRC1.out.keep hba).less (rowC_one _) (by omega) (by simp) ?_
    intro A9 c9 w9 hown9 hb9' _
    simp only [List.nil_append, Nat.zero_add] at hown9 ⊢
    have hb89 : Below w8.heap.size w8 w9 := hba.trans hb9'
    have HO9 := Lib.hid hown9
    have hz9 := hb89.size
    have HRD9 := Lib.hid (HRD8.out.keep hb89)
    clear hown9 hb9' hba hcut1 m2
    -- the cell's own bytes
    go_upto_region 9 with fail
    iterate 10 go_step
    have hba : Below w9.heap.size w9 (w9.alloc (.cells #[] 5)) := (Below.refl _ _).alloc (Nat.le_refl _) _
    refine wp_append rfl (.tmp 56) (.tmp 57) rfl w9.heap.size _ _ _ [] rfl (OwnB.lit w9 #[] [] _ 0 rfl rfl (Nat.le_refl _) (by decide)) sp m sc cs rfl HM.out (HRD9.out.keep hba) (by omega) (by simp) ?_
    intro A10 c10 w10 hown10 _ hb10'
    simp only [List.nil_append, Nat.zero_add] at hown10 ⊢
    have hb910 : Below w9.heap.size w9 w10 := hba.trans hb10'
    have HO10 := Lib.hid hown10
    have HO910 := Lib.hid (HO9.out.keep hb910)
    have hz10 := hb910.size
    have hA9 : ∀ a, A9 = some a → a.block < w9.heap.size := fun a ha => by
      rcases HO9.out.2.2 with ⟨hv, _⟩ | ⟨g, cap, cur, hv, hbg, hgg, _⟩
      · injection hv with e1; rw [e1] at ha; cases ha
      · injection hv with e1; rw [e1] at ha; injection ha with ha; subst ha; exact (Array.getElem?_eq_some_iff.1 hgg).1
    have HA9 := Lib.hid hA9
    clear hown10 hb10' hba hA9
    iterate 3 go_step
    have hba : Below w10.heap.size w10 (w10.alloc (.cells #[.slice A10 m c10] 29)) := (Below.refl _ _).alloc (Nat.le_refl _) _
    refine wp_append_g 30 29 (.slice none 0 0) 24 Try.underlying30 info_sl rfl (by omega) rfl (.tmp 55) (.tmp 59) rfl w8.heap.size A9 j c9 _ rfl (HO910.out.keep hba) _ 1 1 [.slice A10 m c10] rfl rfl (RdG.one w10 _ _ [] (by simp)) (by intro u hu; simp at hu; subst hu; rfl) (by omega) (by simp; omega) ?_
    intro A11 c11 w11 hown11 hb11' hk11
    have hba2 : Below w8.heap.size w10 (w10.alloc (.cells #[.slice A10 m c10] 29)) := hba.mono (by omega)
    have hb811 : Below w8.heap.size w8 w11 := hb89.trans ((hb910.mono hz9).trans (hba2.trans hb11'))
    have HO11 := Lib.hid hown11
    have HX10 := Lib.hid (HO10.out.keep hba)
    have HX11 := Lib.hid (show OwnB w11 w9.heap.size A10 m c10 cs from HX10.out.kept hk11 (fun b hb a ha => by
      have h1 := HA9.out a ha
      have h2 := HO10.out.blkOf b hb
      omega))
    have HB11 := Lib.hid (show ∀ b, A10 = some b → ∀ a, A11 = some a → a.block ≠ b.block from fun b hb a ha => by
      have h1 := HO10.out.blkOf b hb
      rcases hk11.2 a ha with ⟨a', h2, h3⟩ | h2
      · have h4 := HA9.out a' h2
        omega
      · have h5 := HO10.out.ltOf b hb
        rw [h2]
        simp
        omega)
    have hz11 : w8.heap.size ≤ w11.heap.size := hb811.size
    clear hown11 hb11' hk11 hba hba2 HO910 HX10
    -- the cells behind
    have m2 := (HR8.out.keep hb811).all.2.2.1
    have hb11 : Below w.heap.size w w11 := hb8.trans (hb811.mono (by omega))
    go_upto_region 10 with fail
    iterate 16 go_step
    refine wp_append_g 30 29 (.slice none 0 0) 24 Try.underlying30 info_sl rfl (by omega) rfl (.tmp 61) (.tmp 65) rfl w8.heap.size A11 (j + 1) c11 _ rfl HO11.out D2 (M1.k - j) (r1.cc - j) _ rfl HLD.out (HRC2.out.keep hb811).less (rowC_one _) (by omega) (by omega) ?_
    intro A12 c12 w12 hown12 hb12' hk12
    have hkk : j + 1 + (M1.k - j) = M1.k + 1 := by omega
    rw [hkk] at hown12 ⊢
    have hb812 : Below w8.heap.size w8 w12 := hb811.trans hb12'
    have HX12 := Lib.hid (HX11.out.kept hk12 (fun b hb a ha => HB11.out b hb a ha))
    have HO12 := Lib.hid hown12
    have hz12 : w8.heap.size ≤ w12.heap.size := hb812.size
    clear hown12 hb12' hk12 hkk HX11 HB11 hb811 HO11 hcut2 m2
    have HR12 := Lib.hid (HR8.out.keep hb812)
    have HT112 := Lib.hid (there_keepR HT18.out hb812 (by omega))
    have HT12 := Lib.hid (there_keepR HT8.out hb812 (by omega))
    have hb12 : Below w.heap.size w w12 := hb8.trans (hb812.mono (by omega))
    have m2 := HR12.out.all.2.2.1
    have hf2 := (HT112.out 2 (by decide)).2
    rw [Nat.zero_add] at hf2
    obtain ⟨C', hC'⟩ : ∃ C', C' = M1.C.take j ++ cs :: M1.C.drop j := ⟨_, rfl⟩
    obtain ⟨S', hS'⟩ : ∃ S', S' = r1.S.take j ++ (⟨A10, m, c10⟩ : Sl) :: r1.S.drop j := ⟨_, rfl⟩
    have hCl : C'.length = M1.k + 1 := by rw [hC']; simp; show min j M1.k + (M1.k - j + 1) = _; omega
    have HOS := Lib.hid (show OwnG 29 w12 w8.heap.size A12 (M1.k + 1) c12 (rowC S') by
      have := HO12.out
      rw [hS', rowC_app]
      simpa [rowC] using this)
    have HRpC := Lib.hid (show RpAt (w12.setCell ⟨w.heap.size, 2, none⟩ (.slice A12 (M1.k + 1) c12)) w.heap.size { r1 with CA := A12, cc := c12, S := S' } { M1 with C := C' } by
      have := HR12.out.setC A12 c12 C' S'
      rwa [hCl] at this)
    obtain ⟨W13, hW13⟩ : ∃ W, W = w12.setCell ⟨w.heap.size, 2, none⟩ (.slice A12 (M1.k + 1) c12) := ⟨_, rfl⟩
    have hb13 : Below w.heap.size w W13 := by rw [hW13]; exact hb12.setCell (Nat.le_refl _) _
    have HT113 := Lib.hid (show W13.there w.heap.size 0 4 by rw [hW13]; exact there_setG HT112.out _ _)
    have HT13' := Lib.hid (show W13.there (w.heap.size + 1) 0 4 by rw [hW13]; exact there_setG HT12.out _ _)
    have hz13 : w12.heap.size ≤ W13.heap.size ∧ W13.heap.size ≤ w12.heap.size := by have := size_setG w12 ⟨w.heap.size, 2, none⟩ (.slice A12 (M1.k + 1) c12); rw [← hW13] at this; omega
    have HFR := Lib.hid (show ∀ i, i ≠ w.heap.size → W13.heap[i]? = w12.heap[i]? from fun i hi => by rw [hW13]; exact heap_setG_ne _ _ _ hi)
    rw [← hW13] at HRpC
    have HCL := Lib.hid hCl
    have HCE := Lib.hid hC'
    have HSE := Lib.hid hS'
    have HW13 := Lib.hid hW13
    clear hW13 hC' hS' hCl HO12
    go_upto_region 11 with fail
    rw [← HW13.out]
    clear HW13 m2 hf2
    -- the places
    have hPk : M1.P.length ≤ M1.k ∧ M1.k ≤ M1.P.length := by have := HP1L.out; omega
    have hcut1 := run_cut_toG 31 3 Try.underlying31 sz_in r1.PA M1.P.length r1.pc j (by omega)
    have hcut2 := run_cut_fromG 31 3 Try.underlying31 sz_in r1.PA M1.P.length r1.pc j (by omega)
    obtain ⟨D3, hD3⟩ : ∃ D, cutA r1.PA r1.pc 0 = D := ⟨_, rfl⟩
    obtain ⟨D4, hD4⟩ : ∃ D, cutA r1.PA r1.pc j = D := ⟨_, rfl⟩
    rw [hD3] at hcut1
    rw [hD4] at hcut2
    have hP13 : RdG W13 bad2 r1.PA (natC M1.P) := (HV8.out.places.keep hb812).frame (fun i hi _ => HFR.out i (fun e => hi (by rw [e]; exact HB0.out))) (fun g hg => hg)
    have HRP3 := Lib.hid (show RdG W13 bad2 D3 (natC (M1.P.take j)) by rw [← hD3, natC_take]; exact (hP13.head _ (by rw [natC_len]; exact hpc.1)).take j)
    have HRP4 := Lib.hid (show RdG W13 bad2 D4 (natC (M1.P.drop j)) by rw [← hD4, natC_drop]; exact hP13.cut _ _ (by rw [natC_len]; exact hpc.1))
    have HLP3 := Lib.hid (show (natC (M1.P.take j)).length = j by rw [natC_len, List.length_take]; omega)
    have HLP4 := Lib.hid (show (natC (M1.P.drop j)).length = M1.P.length - j by rw [natC_len, List.length_drop])
    have m3 := HRpC.out.all.2.2.2
    simp only at m3
    clear hD3 hD4 hP13
    have hba : Below W13.heap.size W13 (W13.alloc (.cells #[] 3)) := (Below.refl _ _).alloc (Nat.le_refl _) _
    have m3' := (HRpC.out.keep hba).all.2.2.2
    simp only at m3'
    iterate 16 go_step
    clear m3'
    refine wp_append_g 31 3 (.int .i64 0) 8 Try.underlying31 info_in rfl (by omega) rfl (.tmp 68) (.tmp 72) rfl W13.heap.size _ _ _ [] rfl (OwnG.lit 3 W13 _ (Nat.le_refl _)) D3 j r1.pc _ rfl HLP3.out (HRP3.out.keep hba).less (natC_one _) (by omega) (by simp) ?_
    intro A14 c14 w14 hown14 hb14' _
    simp only [List.nil_append, Nat.zero_add] at hown14 ⊢
    have hb1314 : Below W13.heap.size W13 w14 := hba.trans hb14'
    have HO14 := Lib.hid hown14
    have hz14 := hb1314.size
    clear hown14 hb14' hba hcut1 m3
    go_upto_region 12 with fail
    iterate 10 go_step
    have hba : Below w14.heap.size w14 (w14.alloc (.cells #[.int .i64 (q : Int)] 3)) := (Below.refl _ _).alloc (Nat.le_refl _) _
    refine wp_append_g 31 3 (.int .i64 0) 8 Try.underlying31 info_in rfl (by omega) rfl (.tmp 74) (.tmp 76) rfl W13.heap.size A14 j c14 _ rfl (HO14.out.keep hba) _ 1 1 [.int .i64 (q : Int)] rfl rfl (RdG.one w14 _ _ [] (by simp)) (by intro u hu; simp at hu; subst hu; rfl) (by omega) (by simp; omega) ?_
    intro A15 c15 w15 hown15 hb15' _
    have hb1315 : Below W13.heap.size W13 w15 := hb1314.trans ((hba.mono hz14).trans hb15')
    have HO15 := Lib.hid hown15
    have hz15 := hb1315.size
    clear hown15 hb15' hba hb1314 HO14
    have m3 := (HRpC.out.keep hb1315).all.2.2.2
    simp only at m3
    go_upto_region 13 with fail
    iterate 16 go_step
    refine wp_append_g 31 3 (.int .i64 0) 8 Try.underlying31 info_in rfl (by omega) rfl (.tmp 78) (.tmp 82) rfl W13.heap.size A15 (j + 1) c15 _ rfl HO15.out D4 (M1.P.length - j) (r1.pc - j) _ rfl HLP4.out (HRP4.out.keep hb1315).less (natC_one _) (by omega) (by omega) ?_
    intro A16 c16 w16 hown16 hb16' _
    obtain ⟨P', hP'⟩ : ∃ P', P' = M1.P.take j ++ q :: M1.P.drop j := ⟨_, rfl⟩
    have hPl : P'.length = M1.k + 1 := by rw [hP']; simp; omega
    have hkk : j + 1 + (M1.P.length - j) = P'.length := by omega
    rw [hkk] at hown16 ⊢
    have HOP := Lib.hid (show OwnG 3 w16 W13.heap.size A16 P'.length c16 (natC P') by
      have := hown16
      rw [show natC P' = natC (M1.P.take j) ++ [.int .i64 (q : Int)] ++ natC (M1.P.drop j) by rw [hP']; simp [natC]]
      exact this)
    have hb1316 : Below W13.heap.size W13 w16 := hb1315.trans hb16'
    have hz16 := hb1316.size
    have HR16 := Lib.hid (HRpC.out.keep hb1316)
    have HT116 := Lib.hid (there_keepR HT113.out hb1316 (by omega))
    have HT16 := Lib.hid (there_keepR HT13'.out hb1316 (by omega))
    have hb16 : Below w.heap.size w w16 := hb13.trans (hb1316.mono (by omega))
    clear hown16 hb16' hkk hcut2 m3 HO15 hb1315
    have m3 := HR16.out.all.2.2.2
    simp only at m3
    have hf3 := (HT116.out 3 (by decide)).2
    rw [Nat.zero_add] at hf3
    obtain ⟨rf, hrf⟩ : ∃ rf : RV, rf = { r1 with CA := A12, cc := c12, S := S', PA := A16, pc := c16 } := ⟨_, rfl⟩
    have hMf : M1.ins j q cs = { M1 with C := C', P := P' } := by rw [HCE.out, hP']; rfl
    have HRf := Lib.hid (show RpAt (w16.setCell ⟨w.heap.size, 3, none⟩ (.slice A16 P'.length c16)) w.heap.size rf (M1.ins j q cs) by
      rw [hMf, hrf]
      exact HR16.out.setP A16 c16 P')
    have HTf := Lib.hid (there_setG HT16.out ⟨w.heap.size, 3, none⟩ (.slice A16 P'.length c16))
    have HMF := Lib.hid hMf
    have HRFE := Lib.hid hrf
    clear hP' hMf hrf hPl
    go_upto_region 14 with fail
    go_step
    refine wp_load_rp rfl _ rfl w.heap.size rf (M1.ins j q cs) rfl HRf.out ?_
    refine wp_store_rp rfl _ _ rfl (w.heap.size + 1) rf (M1.ins j q cs) rfl rfl HTf.out ?_
    repeat go_step
    refine ret_rp rfl rfl (RpAt.stored HTf.out rf (M1.ins j q cs)) rfl ?_
    have hbe : Below w.heap.size w ((w16.setCell ⟨w.heap.size, 3, none⟩ (.slice A16 P'.length c16)).setCells (w.heap.size + 1) 0 (rpC rf (M1.ins j q cs))) := below_setCellsR (hb16.setCell (Nat.le_refl _) _) (by omega) _ _
    have hfr : ∀ A vs, RdG w16 bad2 A vs → RdG ((w16.setCell ⟨w.heap.size, 3, none⟩ (.slice A16 P'.length c16)).setCells (w.heap.size + 1) 0 (rpC rf (M1.ins j q cs))) bad A vs := fun A vs h => h.frame (fun i hi _ => by
      rw [heap_setCells_ne _ _ _ _ (fun e => hi (by rw [e]; exact HB1.out)), heap_setG_ne _ _ _ (fun e => hi (by simp only at e; rw [e]; exact HB0.out))]) HBS.out
    obtain ⟨WF, hWF⟩ : ∃ W, W = (w16.setCell ⟨w.heap.size, 3, none⟩ (.slice A16 P'.length c16)).setCells (w.heap.size + 1) 0 (rpC rf (M1.ins j q cs)) := ⟨_, rfl⟩
    rw [← hWF] at hbe hfr ⊢
    clear hWF
    have h1316 : ∀ A vs, RdG W13 bad2 A vs → RdG w16 bad2 A vs := fun A vs h => h.keep hb1316
    have h1213 : ∀ A vs, RdG w12 bad2 A vs → RdG W13 bad2 A vs := fun A vs h => h.frame (fun i hi _ => HFR.out i (fun e => hi (by rw [e]; exact HB0.out))) (fun g hg => hg)
    have h812 : ∀ A vs, RdG w8 bad2 A vs → RdG w12 bad2 A vs := fun A vs h => h.keep hb812
    rw [HRR.out, HF.out]
    refine ⟨rf, rfl, ?_, hbe⟩
    have hbad8 : ∀ g ∈ bad2, g < w8.heap.size := fun g hg => by have := HB2.out g hg; omega
    have hrows : Rows2 w12 bad2 S' C' := by
      rw [HSE.out, HCE.out]
      have hv := HV8.out.rows.map h812
      refine (hv.take j).app ⟨⟨by rw [HM.out], HX12.out.cap.1, HX12.out.cap.2, HX12.out.rdG (fun g hg => by have := hbad8 g hg; omega)⟩, hv.drop j⟩
    have hMf := HMF.out
    have hrf := HRFE.out
    rw [hMf, hrf]
    refine ⟨hfr _ _ (h1316 _ _ (h1213 _ _ (h812 _ _ HV8.out.front))), HV8.out.fcap, hfr _ _ (h1316 _ _ (h1213 _ _ (HOS.out.rd hbad8))), hrows.map (fun A vs h => hfr A vs (h1316 A vs (h1213 A vs h))), ?_, hfr _ _ (HOP.out.rd (fun g hg => by have := hbad8 g hg; omega)), HOP.out.cap⟩
    show C'.length ≤ c12 ∧ c12 ≤ maxLen
    rw [HCL.out]
    exact HOS.out.cap
end
section
open Go.ChangeShapes Go.WideShapes Go.ChangeAt Go.RowKit Go.Deep
set_option maxRecDepth 100000
set_option linter.unusedVariables false
set_option linter.unusedSimpArgs false
def i64b (n : Int) : Prop := -9223372036854775808 ≤ n ∧ n ≤ 9223372036854775807
section
variable {H : Type} {enc : TypeId × Value → H} {P : Program} {W : World} {base : Nat}
end
end
section
open Go.RowKit
set_option maxRecDepth 100000
set_option linter.unusedVariables false
set_option linter.unusedSimpArgs false
set_option linter.unnecessarySimpa false
def zeroM : Mdl := ⟨0, [], [], []⟩
def zeroRV : RV := ⟨none, 0, none, 0, none, 0, []⟩
theorem zero_ref (w : World) (bad : List Nat) : RefV w bad zeroM zeroRV :=
  ⟨.inl rfl, ⟨Nat.le_refl _, Nat.zero_le _⟩, .inl rfl, trivial, ⟨Nat.le_refl _, Nat.zero_le _⟩, .inl rfl, ⟨Nat.le_refl _, Nat.zero_le _⟩⟩
def RNewBack (w : World) (bad : List Nat) (n h : Int) (e : Ending) (w' : World) : Prop :=
  Below w.heap.size w w' ∧ ∃ r' M z, e = .returned (.tuple #[r'.val M, .int .i64 z]) ∧ RefV w' bad M r' ∧ ((¬ mayP n h ∧ M = zeroM ∧ z = 1) ∨ (mayP n h ∧ M = newM n.toNat h.toNat ∧ z = 0))

set_option maxHeartbeats 8000000 in
theorem rNew_any (w : World) (bad : List Nat) (n h : Int) (hn : -9223372036854775808 ≤ n ∧ n ≤ 9223372036854775807) (hh : -9223372036854775808 ≤ h ∧ h ≤ 9223372036854775807) (hbad : ∀ g ∈ bad, g < w.heap.size) (R : Ending → World → Prop) (hR : R = RNewBack w bad n h) :
    Calls Try.prog 18 #[.int .i64 n, .int .i64 h] w R := by
  have HR := Lib.hid hR; clear hR
  have HBAD := Lib.hid hbad; clear hbad
  obtain ⟨W1, hW1⟩ : ∃ W, W = w.alloc (.cells #[.int .i64 0, .slice none 0 0, .slice none 0 0, .slice none 0 0] 33) := ⟨_, rfl⟩
  have hb1 : Below w.heap.size w W1 := by rw [hW1]; exact (Below.refl _ _).alloc (Nat.le_refl _) _
  have hT1 : W1.there w.heap.size 0 4 := by rw [hW1]; exact there_new4 w _ _ _ _ _
  have HT1 := Lib.hid hT1
  have HW := Lib.hid hW1
  clear hW1 hT1
  by_cases hm : mayP n h
  · have HM := Lib.hid hm
    obtain ⟨h1, h2, h3, h4⟩ := hm
    obtain ⟨N, rfl⟩ := Int.eq_ofNat_of_zero_le (show 0 ≤ n by omega)
    obtain ⟨D, rfl⟩ := Int.eq_ofNat_of_zero_le h3
    have hD : D ≤ 64 := by omega
    have hmk := run_mk D D (Nat.le_refl _) (by omega)
    obtain ⟨W2, hW2⟩ : ∃ W, W = W1.alloc (.cells (zrs D) 5) := ⟨_, rfl⟩
    have hb2 : Below W1.heap.size W1 W2 := by rw [hW2]; exact (Below.refl _ _).alloc (Nat.le_refl _) _
    have HO2 := Lib.hid (show OwnB W2 W1.heap.size (some ⟨W1.heap.size, 0, none⟩) D D (List.replicate D 0) by rw [hW2]; exact OwnB.zeros W1 _ D (Nat.le_refl _) (by unfold maxLen; omega))
    have hz1 := hb1.size
    have hl1 : w.heap.size < W1.heap.size := by rw [HW.out]; simp
    have HT2 := Lib.hid (there_keepR HT1.out hb2 hl1)
    have HW2 := Lib.hid hW2
    clear hW2
    obtain ⟨r, hr⟩ : ∃ r : RV, r = ⟨some ⟨W1.heap.size, 0, none⟩, D, none, 0, none, 0, []⟩ := ⟨_, rfl⟩
    have HVAL := Lib.hid (show Value.agg #[.int .i64 (N : Int), .slice (some ⟨W1.heap.size, 0, none⟩) D D, .slice none 0 0, .slice none 0 0] = r.val (newM N D) by rw [hr]; simp [RV.val, newM, Mdl.h, Mdl.k])
    have HRE := Lib.hid hr
    clear hr
    go_enter Try.func18, Try.ntmps18
    go_upto_region 1 with fail
    rw [← HW.out]
    clear HW
    go_upto_region 3 with fail
    iterate 13 go_step
    clear hmk
    rw [← HW2.out]
    clear HW2
    refine wp_store_rp rfl _ _ rfl w.heap.size r (newM N D) rfl HVAL.out HT2.out ?_
    repeat go_step
    refine ret_rp rfl rfl (RpAt.stored HT2.out r (newM N D)) rfl ?_
    rw [HR.out]
    have hbe : Below w.heap.size w (W2.setCells w.heap.size 0 (rpC r (newM N D))) := below_setCellsR (hb1.trans (hb2.mono hz1)) (Nat.le_refl _) _ _
    refine ⟨hbe, r, newM N D, 0, rfl, ?_, .inr ⟨HM.out, rfl, rfl⟩⟩
    have h1 : RdG W2 (w.heap.size :: bad) (some ⟨W1.heap.size, 0, none⟩) (vb (List.replicate D 0)) := HO2.out.rdG fun g hg => by
      rcases List.mem_cons.1 hg with h | h
      · omega
      · have := HBAD.out g h; omega
    have hre := HRE.out
    subst hre
    refine ⟨h1.frame (fun i hi _ => ?_) (fun g hg => List.mem_cons_of_mem _ hg), ⟨?_, by unfold maxLen; simp only; omega⟩, .inl rfl, trivial, ⟨Nat.zero_le _, Nat.zero_le _⟩, .inl rfl, ⟨Nat.zero_le _, Nat.zero_le _⟩⟩
    · simp only [List.mem_cons, not_or] at hi
      exact heap_setCells_ne _ _ _ _ hi.1
    · rw [new_h]; exact Nat.le_refl _
  · have HM := Lib.hid hm
    have hcase : n < 256 ∨ (256 ≤ n ∧ 4096 < n) ∨ (256 ≤ n ∧ n ≤ 4096 ∧ h < 0) ∨ (256 ≤ n ∧ n ≤ 4096 ∧ 0 ≤ h ∧ 64 < h) := by
      unfold mayP at hm
      omega
    clear hm
    rcases hcase with h1 | ⟨h1, h2⟩ | ⟨h1, h2, h3⟩ | ⟨h1, h2, h3, h4⟩
    all_goals
      go_enter Try.func18, Try.ntmps18
      go_upto_region 1 with fail
      rw [← HW.out]
      clear HW
      go_upto_region 2 with fail
      iterate 4 go_step
      refine wp_store_rp rfl _ _ rfl w.heap.size zeroRV zeroM rfl rfl HT1.out ?_
      repeat go_step
      refine ret_rp rfl rfl (RpAt.stored HT1.out zeroRV zeroM) rfl ?_
      rw [HR.out]
      have hbe : Below w.heap.size w (W1.setCells w.heap.size 0 (rpC zeroRV zeroM)) := below_setCellsR hb1 (Nat.le_refl _) _ _
      exact ⟨hbe, zeroRV, zeroM, 1, rfl, zero_ref _ _, .inl ⟨HM.out, rfl, rfl⟩⟩

end
section
open Go.RowKit
set_option maxRecDepth 100000
set_option linter.unusedVariables false
set_option linter.unusedSimpArgs false
set_option linter.unnecessarySimpa false
theorem pCell_ok (w : World) (g gb c : Nat) (L : List Int) (X : List Value) (M : Mdl) (hp : Pg w g gb c M.h L X) (hi : IsP L M) (hg : Good M) (j : Nat) (hj : j < M.k) :
    Calls Try.prog 21 #[.pointer (some ⟨g, 0, none⟩), .int .i64 (j : Int)] w (CellBack w (M.cl j) 0) := by
  have hk := hg.kle
  have h := pCell_any w g gb c L X M hp hi hg (j : Int) (by omega) (by omega) _ rfl
  rw [if_pos (by omega), if_pos (by omega), Int.toNat_natCast] at h
  exact h
end
section
open Go.RowKit
set_option maxRecDepth 100000
set_option linter.unusedVariables false
set_option linter.unusedSimpArgs false
set_option linter.unnecessarySimpa false
theorem there_blk {w w' : World} {g n : Nat} (e : w'.heap[g]? = w.heap[g]?) (ht : w.there g 0 n) : w'.there g 0 n := fun j hj => by
  obtain ⟨h1, h2⟩ := ht j hj
  refine ⟨?_, ?_⟩
  · rw [← h1]; simp [World.cell?, e]
  · rw [← h2]; simp [World.frozen?, e]
theorem RefV.frame {w w' : World} {bad bad' : List Nat} {M : Mdl} {r : RV} (h : RefV w bad' M r) (e : ∀ i, i ∉ bad' → i < w.heap.size → w'.heap[i]? = w.heap[i]?) (hs : ∀ g ∈ bad, g ∈ bad') : RefV w' bad M r := h.map fun _ _ q => q.frame e hs
end
section
open Go.RowKit
set_option maxRecDepth 100000
set_option linter.unusedVariables false
set_option linter.unusedSimpArgs false
set_option linter.unnecessarySimpa false
theorem there_new3 (w : World) (a b c : Value) (t : TypeId) : (w.alloc (.cells #[a, b, c] t)).there w.heap.size 0 3 := by
  intro j hj
  rcases (by omega : j = 0 ∨ j = 1 ∨ j = 2) with rfl | rfl | rfl <;> simp [go_sem]
theorem rangeKeep {w w' : World} {g o : Nat} {vs : List Value} {B : Nat} (h : w.rangeAt g o vs) (hb : Below B w w') (hg : g < B) : w'.rangeAt g o vs := fun j v hv => (hb.cell (p := ⟨g, o + j, none⟩) hg).trans (h j v hv)
theorem wpList_wantedR {P : Program} {ops : Array Oper} {Q : Exit → Act → World → Prop} {a : Act} {w : World} {rest : List Oper} {o : Oper} (hw : Region.wanted o (yielded ops a.tmps) = true)
    (h : ∀ K : Act → World → Prop, (∀ a w, wpList P ops Q rest a w → K a w) → o.wp P a w K Q) : wpList P ops Q (o :: rest) a w :=
  wpList_step fun K hK => by rw [if_pos hw]; exact h K hK
end
end Go.Proofs.Ytoeaffmlolapnaa
