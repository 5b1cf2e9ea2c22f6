/- Several texts of this proof as one: NdC, NdD, NdE, ClQ, NdF, NdG. Laid by merge.py. -/
import Derived.Test.YtoeaffmlolapnaaNpA
import Derived.Test.YtoeaffmlolapnaaNpB
import Derived.Test.YtoeaffmlolapnaaNpC
import Derived.Test.YtoeaffmlolapnaaNpD
import Derived.Test.YtoeaffmlolapnaaNpE
import Derived.Test.YtoeaffmlolapnaaNpF
import Derived.Test.YtoeaffmlolapnaaNpG
import Derived.Test.YtoeaffmlolapnaaNpH
import Derived.Test.YtoeaffmlolapnaaNpI
import Derived.Test.YtoeaffmlolapnaaNpJ
import Derived.Test.YtoeaffmlolapnaaNpK
import Derived.Test.YtoeaffmlolapnaaNpL
import Derived.Test.YtoeaffmlolapnaaNpN
import Derived.ArgAppend
import Derived.BigQuiet
import Derived.ChangeOld
import Derived.Deep.DeepCutAuto
import Derived.Deep.Matrix
import Derived.Deep.MidRow
import Derived.Deep.QuietTactic
import Derived.Deep.RegionHeld3
import Derived.Deep.Slices
import Derived.Handy
import Derived.Laws.CopyOwn
import Derived.Laws.Externs
import Derived.Laws.ResultCell
import Derived.Lib.AppendStr
import Derived.Lib.Hide
import Derived.Lib.MakeNoZero
import Derived.Lib.SlBuf
import Derived.Lib.SliceRun
import Derived.Lib.SmallJoins
import Derived.Maps.AppendAt
import Derived.OpenShut
import Derived.ProofKit
import Derived.ShutString
import Derived.SizedLaws
import Derived.Test.YtoeaffmlolapnaaProg
import Derived.WalkKit
import Derived.WalkSpells
namespace Go.Proofs.Ytoeaffmlolapnaa
section
open Go.RowKit
set_option maxRecDepth 100000
set_option linter.unusedVariables false
set_option linter.unusedSimpArgs false
set_option linter.unnecessarySimpa false
/-- A node, boxed. -/
structure Bx (w W0 : World) (n : Nd) (A : Option Addr) (c : Nat) : Prop where
  bel : Below w.heap.size w W0
  at_ : NdAt W0 w.heap.size n A c
  cs : RdCl W0 A n.cs
  sz : w.heap.size ≤ W0.heap.size
theorem Bx.of {w W0 : World} {n : Nd} {A : Option Addr} {c : Nat} {t : TypeId} (h : W0 = w.alloc (.cells #[.int .i64 n.kind, .slice A n.cs.length c, .int .i64 n.right] t)) (hA : RdCl w A n.cs) : Bx w W0 n A c := by
  have hb : Below w.heap.size w W0 := by rw [h]; exact (Below.refl _ _).alloc (Nat.le_refl _) _
  exact ⟨hb, by rw [h]; exact NdAt.made w n A c _, hA.keep hb, hb.size⟩

set_option maxHeartbeats 16000000 in
theorem rMay_any (w : World) (n : Nd) (A : Option Addr) (c : Nat) (hn : n.cs.length ≤ 100000) (hok : NdOk n) (hl : ∀ d ∈ n.cs, (d.loc.length : Int) ≤ 9223372036854775807) (hA : RdCl w A n.cs) (R : Ending → World → Prop) (hR : R = fun e w' => e = .returned (.bool (decide (mayN n))) ∧ Below w.heap.size w w') :
    Calls Try.prog 51 #[n.val A c] w R := by
  have HR := Lib.hid hR; clear hR
  have HOK := Lib.hid hok
  have HL := Lib.hid hl
  obtain ⟨r0, r1⟩ := hok.2.1
  obtain ⟨W0, hW0⟩ : ∃ W, W = w.alloc (.cells #[.int .i64 n.kind, .slice A n.cs.length c, .int .i64 n.right] 69) := ⟨_, rfl⟩
  have HBX := Lib.hid (Bx.of hW0 hA)
  have HW := Lib.hid hW0
  clear hW0 hok hl hA
  obtain ⟨m0, _, m2⟩ := HBX.out.at_.all
  have hB0 := HBX.out.bel
  unfold Nd.val
  go_enter Try.func51, Try.ntmps51
  go_upto_region 1 with fail
  rw [← HW.out]
  clear HW
  go_wp2_with fail
  refine (rkind_any _ _).mono ?_
  rintro e w1 ⟨rfl, rfl⟩
  by_cases hk : isK n.kind
  case neg =>
    have HF := Lib.hid (show decide (mayN n) = false from decide_eq_false (fun h => hk h.1.1))
    rw [decide_eq_false hk]
    clear hk
    go_wp2_with fail
    rw [HR.out, HF.out]
    exact ⟨rfl, hB0⟩
  rw [decide_eq_true hk]
  have HK := Lib.hid hk
  clear hk
  go_wp2_with fail
  refine (rchild_any _ _).mono ?_
  rintro e w1 ⟨rfl, rfl⟩
  have key : mayR n ∨ ¬ mayR n := Decidable.em _
  have HGO : Hid (mayR n → True) := Lib.hid (fun _ => trivial)
  clear HGO key
  by_cases hc : hasC n.kind
  · rw [decide_eq_true hc]
    have HC := Lib.hid hc
    clear hc
    by_cases hr0 : n.right < 1
    · have HF := Lib.hid (show decide (mayN n) = false from decide_eq_false (fun h => by have := h.1.2.1 HC.out; unfold isP at this; omega))
      go_wp2_with fail
      rw [HR.out, HF.out]
      exact ⟨rfl, hB0⟩
    · by_cases hr1 : 1048576 < n.right
      · have HF := Lib.hid (show decide (mayN n) = false from decide_eq_false (fun h => by have := h.1.2.1 HC.out; unfold isP at this; omega))
        go_wp2_with fail
        rw [HR.out, HF.out]
        exact ⟨rfl, hB0⟩
      · have HRR := Lib.hid (show mayR n from ⟨HK.out, fun _ => by unfold isP; omega, fun h => absurd HC.out h⟩)
        go_wp2_with fail
        refine (rchild_any _ _).mono ?_
        rintro e w1 ⟨rfl, rfl⟩
        rw [decide_eq_true HC.out]
        go_wp2_with fail
        clear m0 m2
        go_loopw [3] (fun i wr => ∃ j : Nat, j ≤ n.cs.length ∧ i = .int .i64 j ∧ (∀ d ∈ n.cs.take j, goodK n.kind d) ∧ Below W0.heap.size W0 wr) (fun i _ => n.cs.length - (intOf i).toNat)
        case atStart => exact ⟨0, Nat.zero_le _, rfl, by simp, Below.refl _ _⟩
        case round =>
          obtain ⟨j, hj, rfl, hall, hb⟩ := hrel
          have HALL := Lib.hid hall
          clear hall
          have m1 := (HBX.out.at_.keep hb).all.2.1
          by_cases hlt : j < n.cs.length
          · have hlt' : (j : Int) < (n.cs.length : Int) := by omega
            have i0 : (0 : Int) ≤ (j : Int) := by omega
            obtain ⟨b, off, hAe, hcell⟩ := (HBX.out.cs.keep hb).at (by omega)
            obtain ⟨LA, d, hrg, hd1, hd2, hrd⟩ := hcell j hlt
            have hmem : cl_ n.cs j ∈ n.cs := by rw [cl_lt hlt]; exact List.getElem_mem hlt
            have HCT := Lib.hid (show n.cs.take (j + 1) = n.cs.take j ++ [cl_ n.cs j] by rw [List.take_succ_eq_append_getElem hlt, cl_lt hlt])
            obtain ⟨cl, hcl⟩ : ∃ x, cl_ n.cs j = x := ⟨_, rfl⟩
            rw [hcl] at hrg hd1 hrd hmem HCT
            have HMEM := Lib.hid hmem
            have HCO := Lib.hid (HOK.out.2.2 cl hmem).1
            have HCLL := Lib.hid (HL.out cl hmem)
            have hat := HBX.out.at_.keep hb
            have hlb : b < wr.heap.size := rangeLt hrg
            have F0 : ∀ W : World, Below wr.heap.size wr W → W.cell? ⟨w.heap.size, 0, none⟩ = some (.int .i64 n.kind) := fun W hW => (hat.keep hW).all.1
            have F1 : ∀ W : World, Below wr.heap.size wr W → W.cell? ⟨w.heap.size, 1, none⟩ = some (.slice (some ⟨b, off, none⟩) n.cs.length c) := fun W hW => by rw [← hAe]; exact (hat.keep hW).all.2.1
            have G0 : ∀ W : World, Below wr.heap.size wr W → W.cell? ⟨b, off + j * 5, none⟩ = some (.int .i64 cl.key) := fun W hW => (rangeKept hrg hW) 0 _ rfl
            have G1 : ∀ W : World, Below wr.heap.size wr W → W.cell? ⟨b, off + j * 5 + 1, none⟩ = some (.int .i64 cl.child) := fun W hW => (rangeKept hrg hW) 1 _ rfl
            have G2 : ∀ W : World, Below wr.heap.size wr W → W.cell? ⟨b, off + j * 5 + 2, none⟩ = some (.int .i64 cl.total) := fun W hW => (rangeKept hrg hW) 2 _ rfl
            have G3 : ∀ W : World, Below wr.heap.size wr W → W.cell? ⟨b, off + j * 5 + 3, none⟩ = some (.slice LA cl.loc.length d) := fun W hW => (rangeKept hrg hW) 3 _ rfl
            have G4 : ∀ W : World, Below wr.heap.size wr W → W.cell? ⟨b, off + j * 5 + 4, none⟩ = some (.int .i64 cl.spill) := fun W hW => (rangeKept hrg hW) 4 _ rfl
            rw [hAe] at m1
            clear hcell hcl hmem hat hAe hrd
            go_upto_region 6 with fail
            clear m1
            refine wp_region_held_drew (S := (fun W => Below wr.heap.size wr W)) (by kernel_rfl) ?_ (fun hHeld => ?_)
            · exact (Below.refl _ wr).drew
            refine' wpAnyH_take (i := 0) (oi := _) (v := _) rfl (by kernel_rfl) (by kernel_rfl) (by kernel_rfl) (fun _ _ _ h => h) (Or.inl ⟨by rfl, ?hz3⟩) (by assumption) ?rezt3
            case hz3 => (intro w' hSw; (try dsimp only at hSw); go_simp; try with_reducible rfl)
            try simp only [Act.put, List.setIfInBounds_toArray, List.set_cons_zero, List.set_cons_succ, List.getElem_toArray, List.getElem_cons_zero, List.getElem_cons_succ]
            refine' wpAnyH_take (i := 1) (oi := _) (v := _) rfl (by kernel_rfl) (by kernel_rfl) (by kernel_rfl) (fun _ _ _ h => h) (Or.inl ⟨by rfl, ?hz4⟩) (by assumption) ?rezt4
            case hz4 => (intro w' hSw; (try dsimp only at hSw); go_simp; try with_reducible rfl)
            try simp only [Act.put, List.setIfInBounds_toArray, List.set_cons_zero, List.set_cons_succ, List.getElem_toArray, List.getElem_cons_zero, List.getElem_cons_succ]
            refine' wpAnyH_take (i := 2) (oi := _) (v := _) rfl (by kernel_rfl) (by kernel_rfl) (by kernel_rfl) (fun _ _ _ h => h) (Or.inl ⟨by rfl, ?hz5⟩) (by assumption) ?rezt5
            case hz5 => (intro w' hSw; (try dsimp only at hSw); go_simp; try with_reducible rfl)
            try simp only [Act.put, List.setIfInBounds_toArray, List.set_cons_zero, List.set_cons_succ, List.getElem_toArray, List.getElem_cons_zero, List.getElem_cons_succ]
            refine' wpAnyH_take (i := 3) (oi := _) (v := _) rfl (by kernel_rfl) (by kernel_rfl) (by kernel_rfl) (fun _ _ _ h => h) (Or.inl ⟨by rfl, ?hz6⟩) (by assumption) ?rezt6
            case hz6 => (intro w' hSw; (try dsimp only at hSw); go_simp; try with_reducible rfl)
            try simp only [Act.put, List.setIfInBounds_toArray, List.set_cons_zero, List.set_cons_succ, List.getElem_toArray, List.getElem_cons_zero, List.getElem_cons_succ]
            refine' wpAnyH_take (i := 4) (oi := _) (v := _) rfl (by kernel_rfl) (by kernel_rfl) (by kernel_rfl) (fun _ _ _ h => h) (Or.inl ⟨by rfl, ?hz7⟩) (by assumption) ?rezt7
            case hz7 => (intro w' hSw; (try dsimp only at hSw); go_simp; try with_reducible rfl)
            try simp only [Act.put, List.setIfInBounds_toArray, List.set_cons_zero, List.set_cons_succ, List.getElem_toArray, List.getElem_cons_zero, List.getElem_cons_succ]
            refine' wpAnyH_take (i := 5) (oi := _) (v := _) rfl (by kernel_rfl) (by kernel_rfl) (by kernel_rfl) (fun _ _ _ h => h) (Or.inl ⟨by rfl, ?hz8⟩) (by assumption) ?rezt8
            case hz8 => (intro w' hSw; (try dsimp only at hSw); go_simp; try with_reducible rfl)
            try simp only [Act.put, List.setIfInBounds_toArray, List.set_cons_zero, List.set_cons_succ, List.getElem_toArray, List.getElem_cons_zero, List.getElem_cons_succ]
            refine' wpAnyH_take (i := 6) (oi := _) (v := _) rfl (by kernel_rfl) (by kernel_rfl) (by kernel_rfl) (fun _ _ _ h => h) (Or.inl ⟨by rfl, ?hz9⟩) (by assumption) ?rezt9
            case hz9 => (intro w' hSw; (try dsimp only at hSw); go_simp; try with_reducible rfl)
            try simp only [Act.put, List.setIfInBounds_toArray, List.set_cons_zero, List.set_cons_succ, List.getElem_toArray, List.getElem_cons_zero, List.getElem_cons_succ]
            refine wpAnyH_ready (rs := [7]) (by kernel_rfl) (by simp) ?_
            refine AllReadyH.cons (o := _) rfl (fun K hK => ?_) AllReadyH.nil
            go_simp
            have hbd : Below wr.heap.size wr wr.drew := (Below.refl _ wr).drew
            go_at_call 86
            refine (rcheckC_any _ n.kind cl LA cl.loc.length d HCO.out HCLL.out).mono ?_
            rintro e w1 ⟨rfl, hb1⟩
            have hbr1 : Below wr.heap.size wr w1 := hbd.trans (hb1.mono (Nat.le_refl _))
            clear hb1 hbd
            refine hK.out _ _ ?_ (fun hHeld => ?_)
            · exact hbr1
            clear hK K
            try simp only [Act.put, List.setIfInBounds_toArray, List.set_cons_zero, List.set_cons_succ, List.getElem_toArray, List.getElem_cons_zero, List.getElem_cons_succ]
            clear F0 F1 G0 G1 G2 G3 G4
            have hb01 : Below W0.heap.size W0 w1 := hb.trans (hbr1.mono hb.size)
            by_cases hg : goodK n.kind cl
            · have hz : checkZ n.kind cl cl.loc.length = 0 := if_pos hg
              have HG := Lib.hid hg
              have q : ((0 : Int) != 0) = false := rfl
              rw [hz]
              clear hz hg
              refine' wpAnyH_take (i := 8) (oi := _) (v := _) rfl (by kernel_rfl) (by kernel_rfl) (by kernel_rfl) (fun _ _ _ h => h) (Or.inl ⟨by rfl, ?hz1⟩) (by assumption) ?rezt1
              case hz1 => (intro w' hSw; (try dsimp only at hSw); go_simp; try with_reducible rfl)
              try simp only [Act.put, List.setIfInBounds_toArray, List.set_cons_zero, List.set_cons_succ, List.getElem_toArray, List.getElem_cons_zero, List.getElem_cons_succ]
              refine wpAnyH_done (by kernel_rfl) ?_ _
              go_wp2_with fail
              go_roundw
              case rel =>
                refine ⟨j + 1, by omega, by go_num, fun x hx => ?_, hb01⟩
                rw [HCT.out] at hx
                rcases List.mem_append.1 hx with h | h
                · exact HALL.out x h
                · obtain rfl : x = cl := by simpa using h
                  exact HG.out
              case measure => simp [intOf]; omega
            · have hz : checkZ n.kind cl cl.loc.length = 1 := if_neg hg
              have HF := Lib.hid (show decide (mayN n) = false from decide_eq_false (fun h => hg (h.2 cl HMEM.out)))
              have q : ((1 : Int) != 0) = true := rfl
              rw [hz]
              clear hz hg
              refine' wpAnyH_take (i := 8) (oi := _) (v := _) rfl (by kernel_rfl) (by kernel_rfl) (by kernel_rfl) (fun _ _ _ h => h) (Or.inl ⟨by rfl, ?hz2⟩) (by assumption) ?rezt2
              case hz2 => (intro w' hSw; (try dsimp only at hSw); go_simp; try with_reducible rfl)
              try simp only [Act.put, List.setIfInBounds_toArray, List.set_cons_zero, List.set_cons_succ, List.getElem_toArray, List.getElem_cons_zero, List.getElem_cons_succ]
              refine wpAnyH_done (by kernel_rfl) ?_ _
              go_wp2_with fail
              rw [HR.out, HF.out]
              exact ⟨rfl, hB0.trans (hb01.mono HBX.out.sz)⟩
          · have hjn : j = n.cs.length := by omega
            have HF := Lib.hid (show decide (mayN n) = true from decide_eq_true ⟨HRR.out, fun x hx => HALL.out x (by rw [hjn, List.take_length]; exact hx)⟩)
            have hjn2 : ¬ (j : Int) < (n.cs.length : Int) := by omega
            clear hjn
            go_wp2_with fail
            rw [HR.out, HF.out]
            exact ⟨rfl, hB0.trans (hb.mono HBX.out.sz)⟩
  · rw [decide_eq_false hc]
    have HC := Lib.hid hc
    clear hc
    go_wp2_with fail
    refine (rchild_any _ _).mono ?_
    rintro e w1 ⟨rfl, rfl⟩
    rw [decide_eq_false HC.out]
    by_cases hr0 : n.right = 0
    · have HRR := Lib.hid (show mayR n from ⟨HK.out, fun h => absurd h HC.out, fun _ => hr0⟩)
      have q1 : (n.right != 0) = false := by simp [hr0]
      clear hr0
      go_wp2_with fail
      clear m0 m2
      go_loopw [3] (fun i wr => ∃ j : Nat, j ≤ n.cs.length ∧ i = .int .i64 j ∧ (∀ d ∈ n.cs.take j, goodK n.kind d) ∧ Below W0.heap.size W0 wr) (fun i _ => n.cs.length - (intOf i).toNat)
      case atStart => exact ⟨0, Nat.zero_le _, rfl, by simp, Below.refl _ _⟩
      case round =>
        obtain ⟨j, hj, rfl, hall, hb⟩ := hrel
        have HALL := Lib.hid hall
        clear hall
        have m1 := (HBX.out.at_.keep hb).all.2.1
        by_cases hlt : j < n.cs.length
        · have hlt' : (j : Int) < (n.cs.length : Int) := by omega
          have i0 : (0 : Int) ≤ (j : Int) := by omega
          obtain ⟨b, off, hAe, hcell⟩ := (HBX.out.cs.keep hb).at (by omega)
          obtain ⟨LA, d, hrg, hd1, hd2, hrd⟩ := hcell j hlt
          have hmem : cl_ n.cs j ∈ n.cs := by rw [cl_lt hlt]; exact List.getElem_mem hlt
          have HCT := Lib.hid (show n.cs.take (j + 1) = n.cs.take j ++ [cl_ n.cs j] by rw [List.take_succ_eq_append_getElem hlt, cl_lt hlt])
          obtain ⟨cl, hcl⟩ : ∃ x, cl_ n.cs j = x := ⟨_, rfl⟩
          rw [hcl] at hrg hd1 hrd hmem HCT
          have HMEM := Lib.hid hmem
          have HCO := Lib.hid (HOK.out.2.2 cl hmem).1
          have HCLL := Lib.hid (HL.out cl hmem)
          have hat := HBX.out.at_.keep hb
          have hlb : b < wr.heap.size := rangeLt hrg
          have F0 : ∀ W : World, Below wr.heap.size wr W → W.cell? ⟨w.heap.size, 0, none⟩ = some (.int .i64 n.kind) := fun W hW => (hat.keep hW).all.1
          have F1 : ∀ W : World, Below wr.heap.size wr W → W.cell? ⟨w.heap.size, 1, none⟩ = some (.slice (some ⟨b, off, none⟩) n.cs.length c) := fun W hW => by rw [← hAe]; exact (hat.keep hW).all.2.1
          have G0 : ∀ W : World, Below wr.heap.size wr W → W.cell? ⟨b, off + j * 5, none⟩ = some (.int .i64 cl.key) := fun W hW => (rangeKept hrg hW) 0 _ rfl
          have G1 : ∀ W : World, Below wr.heap.size wr W → W.cell? ⟨b, off + j * 5 + 1, none⟩ = some (.int .i64 cl.child) := fun W hW => (rangeKept hrg hW) 1 _ rfl
          have G2 : ∀ W : World, Below wr.heap.size wr W → W.cell? ⟨b, off + j * 5 + 2, none⟩ = some (.int .i64 cl.total) := fun W hW => (rangeKept hrg hW) 2 _ rfl
          have G3 : ∀ W : World, Below wr.heap.size wr W → W.cell? ⟨b, off + j * 5 + 3, none⟩ = some (.slice LA cl.loc.length d) := fun W hW => (rangeKept hrg hW) 3 _ rfl
          have G4 : ∀ W : World, Below wr.heap.size wr W → W.cell? ⟨b, off + j * 5 + 4, none⟩ = some (.int .i64 cl.spill) := fun W hW => (rangeKept hrg hW) 4 _ rfl
          rw [hAe] at m1
          clear hcell hcl hmem hat hAe hrd
          go_upto_region 6 with fail
          clear m1
          refine wp_region_held_drew (S := (fun W => Below wr.heap.size wr W)) (by kernel_rfl) ?_ (fun hHeld => ?_)
          · exact (Below.refl _ wr).drew
          refine' wpAnyH_take (i := 0) (oi := _) (v := _) rfl (by kernel_rfl) (by kernel_rfl) (by kernel_rfl) (fun _ _ _ h => h) (Or.inl ⟨by rfl, ?hz12⟩) (by assumption) ?rezt12
          case hz12 => (intro w' hSw; (try dsimp only at hSw); go_simp; try with_reducible rfl)
          try simp only [Act.put, List.setIfInBounds_toArray, List.set_cons_zero, List.set_cons_succ, List.getElem_toArray, List.getElem_cons_zero, List.getElem_cons_succ]
          refine' wpAnyH_take (i := 1) (oi := _) (v := _) rfl (by kernel_rfl) (by kernel_rfl) (by kernel_rfl) (fun _ _ _ h => h) (Or.inl ⟨by rfl, ?hz13⟩) (by assumption) ?rezt13
          case hz13 => (intro w' hSw; (try dsimp only at hSw); go_simp; try with_reducible rfl)
          try simp only [Act.put, List.setIfInBounds_toArray, List.set_cons_zero, List.set_cons_succ, List.getElem_toArray, List.getElem_cons_zero, List.getElem_cons_succ]
          refine' wpAnyH_take (i := 2) (oi := _) (v := _) rfl (by kernel_rfl) (by kernel_rfl) (by kernel_rfl) (fun _ _ _ h => h) (Or.inl ⟨by rfl, ?hz14⟩) (by assumption) ?rezt14
          case hz14 => (intro w' hSw; (try dsimp only at hSw); go_simp; try with_reducible rfl)
          try simp only [Act.put, List.setIfInBounds_toArray, List.set_cons_zero, List.set_cons_succ, List.getElem_toArray, List.getElem_cons_zero, List.getElem_cons_succ]
          refine' wpAnyH_take (i := 3) (oi := _) (v := _) rfl (by kernel_rfl) (by kernel_rfl) (by kernel_rfl) (fun _ _ _ h => h) (Or.inl ⟨by rfl, ?hz15⟩) (by assumption) ?rezt15
          case hz15 => (intro w' hSw; (try dsimp only at hSw); go_simp; try with_reducible rfl)
          try simp only [Act.put, List.setIfInBounds_toArray, List.set_cons_zero, List.set_cons_succ, List.getElem_toArray, List.getElem_cons_zero, List.getElem_cons_succ]
          refine' wpAnyH_take (i := 4) (oi := _) (v := _) rfl (by kernel_rfl) (by kernel_rfl) (by kernel_rfl) (fun _ _ _ h => h) (Or.inl ⟨by rfl, ?hz16⟩) (by assumption) ?rezt16
          case hz16 => (intro w' hSw; (try dsimp only at hSw); go_simp; try with_reducible rfl)
          try simp only [Act.put, List.setIfInBounds_toArray, List.set_cons_zero, List.set_cons_succ, List.getElem_toArray, List.getElem_cons_zero, List.getElem_cons_succ]
          refine' wpAnyH_take (i := 5) (oi := _) (v := _) rfl (by kernel_rfl) (by kernel_rfl) (by kernel_rfl) (fun _ _ _ h => h) (Or.inl ⟨by rfl, ?hz17⟩) (by assumption) ?rezt17
          case hz17 => (intro w' hSw; (try dsimp only at hSw); go_simp; try with_reducible rfl)
          try simp only [Act.put, List.setIfInBounds_toArray, List.set_cons_zero, List.set_cons_succ, List.getElem_toArray, List.getElem_cons_zero, List.getElem_cons_succ]
          refine' wpAnyH_take (i := 6) (oi := _) (v := _) rfl (by kernel_rfl) (by kernel_rfl) (by kernel_rfl) (fun _ _ _ h => h) (Or.inl ⟨by rfl, ?hz18⟩) (by assumption) ?rezt18
          case hz18 => (intro w' hSw; (try dsimp only at hSw); go_simp; try with_reducible rfl)
          try simp only [Act.put, List.setIfInBounds_toArray, List.set_cons_zero, List.set_cons_succ, List.getElem_toArray, List.getElem_cons_zero, List.getElem_cons_succ]
          refine wpAnyH_ready (rs := [7]) (by kernel_rfl) (by simp) ?_
          refine AllReadyH.cons (o := _) rfl (fun K hK => ?_) AllReadyH.nil
          go_simp
          have hbd : Below wr.heap.size wr wr.drew := (Below.refl _ wr).drew
          go_at_call 86
          refine (rcheckC_any _ n.kind cl LA cl.loc.length d HCO.out HCLL.out).mono ?_
          rintro e w1 ⟨rfl, hb1⟩
          have hbr1 : Below wr.heap.size wr w1 := hbd.trans (hb1.mono (Nat.le_refl _))
          clear hb1 hbd
          refine hK.out _ _ ?_ (fun hHeld => ?_)
          · exact hbr1
          clear hK K
          try simp only [Act.put, List.setIfInBounds_toArray, List.set_cons_zero, List.set_cons_succ, List.getElem_toArray, List.getElem_cons_zero, List.getElem_cons_succ]
          clear F0 F1 G0 G1 G2 G3 G4
          have hb01 : Below W0.heap.size W0 w1 := hb.trans (hbr1.mono hb.size)
          by_cases hg : goodK n.kind cl
          · have hz : checkZ n.kind cl cl.loc.length = 0 := if_pos hg
            have HG := Lib.hid hg
            have q : ((0 : Int) != 0) = false := rfl
            rw [hz]
            clear hz hg
            refine' wpAnyH_take (i := 8) (oi := _) (v := _) rfl (by kernel_rfl) (by kernel_rfl) (by kernel_rfl) (fun _ _ _ h => h) (Or.inl ⟨by rfl, ?hz10⟩) (by assumption) ?rezt10
            case hz10 => (intro w' hSw; (try dsimp only at hSw); go_simp; try with_reducible rfl)
            try simp only [Act.put, List.setIfInBounds_toArray, List.set_cons_zero, List.set_cons_succ, List.getElem_toArray, List.getElem_cons_zero, List.getElem_cons_succ]
            refine wpAnyH_done (by kernel_rfl) ?_ _
            go_wp2_with fail
            go_roundw
            case rel =>
              refine ⟨j + 1, by omega, by go_num, fun x hx => ?_, hb01⟩
              rw [HCT.out] at hx
              rcases List.mem_append.1 hx with h | h
              · exact HALL.out x h
              · obtain rfl : x = cl := by simpa using h
                exact HG.out
            case measure => simp [intOf]; omega
          · have hz : checkZ n.kind cl cl.loc.length = 1 := if_neg hg
            have HF := Lib.hid (show decide (mayN n) = false from decide_eq_false (fun h => hg (h.2 cl HMEM.out)))
            have q : ((1 : Int) != 0) = true := rfl
            rw [hz]
            clear hz hg
            refine' wpAnyH_take (i := 8) (oi := _) (v := _) rfl (by kernel_rfl) (by kernel_rfl) (by kernel_rfl) (fun _ _ _ h => h) (Or.inl ⟨by rfl, ?hz11⟩) (by assumption) ?rezt11
            case hz11 => (intro w' hSw; (try dsimp only at hSw); go_simp; try with_reducible rfl)
            try simp only [Act.put, List.setIfInBounds_toArray, List.set_cons_zero, List.set_cons_succ, List.getElem_toArray, List.getElem_cons_zero, List.getElem_cons_succ]
            refine wpAnyH_done (by kernel_rfl) ?_ _
            go_wp2_with fail
            rw [HR.out, HF.out]
            exact ⟨rfl, hB0.trans (hb01.mono HBX.out.sz)⟩
        · have hjn : j = n.cs.length := by omega
          have HF := Lib.hid (show decide (mayN n) = true from decide_eq_true ⟨HRR.out, fun x hx => HALL.out x (by rw [hjn, List.take_length]; exact hx)⟩)
          have hjn2 : ¬ (j : Int) < (n.cs.length : Int) := by omega
          clear hjn
          go_wp2_with fail
          rw [HR.out, HF.out]
          exact ⟨rfl, hB0.trans (hb.mono HBX.out.sz)⟩
    · have HF := Lib.hid (show decide (mayN n) = false from decide_eq_false (fun h => hr0 (h.1.2.2 HC.out)))
      have q1 : (n.right != 0) = true := by simp [hr0]
      clear hr0
      go_wp2_with fail
      rw [HR.out, HF.out]
      exact ⟨rfl, hB0⟩

end
section
open Go.RowKit
set_option maxRecDepth 100000
set_option linter.unusedVariables false
set_option linter.unusedSimpArgs false
set_option linter.unnecessarySimpa false
theorem takesN_take_le (k : Int) (cs : List Cl) (j : Nat) : takesN k (cs.take j) ≤ takesN k cs := by
  have := takesN_app k (cs.take j) (cs.drop j)
  rw [List.take_append_drop] at this
  omega
theorem takesN_bd {k : Int} {cs : List Cl} (hn : cs.length ≤ 5000) (h : ∀ c ∈ cs, ClOk c ∧ c.loc.length ≤ 16384) : takesN k cs ≤ 82240000 := by
  have key : ∀ l : List Cl, (∀ c ∈ l, ClOk c ∧ c.loc.length ≤ 16384) → takesN k l ≤ 16448 * l.length := by
    intro l
    induction l with
    | nil => intro _; simp [takesN]
    | cons c l ih =>
      intro hl
      have h0 := hl c (List.mem_cons_self ..)
      have h1 := encC_len (k := k) h0.1.1 h0.2
      have h2 := ih fun d hd => hl d (List.mem_cons_of_mem _ hd)
      have e : takesN k (c :: l) = tkC k c + takesN k l := by simp [takesN]
      rw [e, List.length_cons, Nat.mul_add]
      unfold tkC
      omega
  have := key cs h
  have h3 : 16448 * cs.length ≤ 16448 * 5000 := Nat.mul_le_mul_left _ hn
  omega
set_option maxHeartbeats 4000000 in
theorem takes_any (w : World) (k : Int) (c : Cl) (A : Option Addr) (d : Nat) (hc : ClOk c) (hl : c.loc.length ≤ 16384) (hnd : c.loc.length ≤ d) (hd : d ≤ maxLen) (hA : Rd w A c.loc) :
    Calls Try.prog 97 #[.int .i64 k, c.val A c.loc.length d] w fun e w' => e = .returned (.int .i64 (tkC k c : Int)) ∧ Below w.heap.size w w' := by
  have hb := encC_len (k := k) hc.1 hl
  have HC := Lib.hid hc.1
  obtain ⟨W0, hW0⟩ : ∃ W, W = w.alloc (.cells #[.int .i64 c.key, .int .i64 c.child, .int .i64 c.total, .slice A c.loc.length d, .int .i64 c.spill] 55) := ⟨_, rfl⟩
  have hB0 : Below w.heap.size w W0 := by rw [hW0]; exact (Below.refl _ _).alloc (Nat.le_refl _) _
  have HR0 := Lib.hid (show W0.rangeAt w.heap.size 0 (clC c A c.loc.length d) by
    rw [hW0]
    intro j v hv
    rw [Nat.zero_add, heap_cell (heap_alloc_new w _)]
    simpa [clC] using hv)
  have HA0 := Lib.hid (hA.keep hB0)
  have HW := Lib.hid hW0
  clear hW0 hA hc hl
  unfold Cl.val
  go_enter Try.func97, Try.ntmps97
  go_upto_region 1 with fail
  rw [← HW.out]
  clear HW
  iterate 4 go_step
  refine wp_load_clo rfl _ rfl w.heap.size 0 c A c.loc.length d rfl HR0.out ?_
  go_wp2_with fail
  refine (csizeC_any _ k c A c.loc.length d HC.out hnd hd rfl HA0.out _ rfl).mono ?_
  rintro e w1 ⟨rfl, hb1⟩
  obtain ⟨t, ht⟩ : ∃ t, (encC k c).length = t := ⟨_, rfl⟩
  rw [ht] at hb ⊢
  have HT := Lib.hid (show tkC k c = t + 4 by unfold tkC; rw [ht])
  clear ht
  go_wp2_with fail
  go_ret
  exact ⟨ret_int (by rw [HT.out]; rfl), hB0.trans (hb1.mono hB0.size)⟩

set_option maxHeartbeats 8000000 in
theorem total_any (w : World) (n : Nd) (A : Option Addr) (c : Nat) (hn : n.cs.length ≤ 5000) (hok : ∀ d ∈ n.cs, ClOk d ∧ d.loc.length ≤ 16384) (hA : RdCl w A n.cs) (R : Ending → World → Prop) (hR : R = fun e w' => e = .returned (.int .i64 (takesN n.kind n.cs : Int)) ∧ Below w.heap.size w w') :
    Calls Try.prog 110 #[n.val A c] w R := by
  have HR := Lib.hid hR; clear hR
  have HOK := Lib.hid hok
  have hbd := takesN_bd (k := n.kind) hn hok
  obtain ⟨W0, hW0⟩ : ∃ W, W = w.alloc (.cells #[.int .i64 n.kind, .slice A n.cs.length c, .int .i64 n.right] 69) := ⟨_, rfl⟩
  have HBX := Lib.hid (Bx.of hW0 hA)
  have HW := Lib.hid hW0
  clear hW0 hok hA
  have hB0 := HBX.out.bel
  have m1 := HBX.out.at_.all.2.1
  unfold Nd.val
  go_enter Try.func110, Try.ntmps110
  go_upto_region 1 with fail
  rw [← HW.out]
  clear HW
  go_wp2_with fail
  clear m1
  go_loopw [3, 9] (fun s i wr => ∃ j : Nat, j ≤ n.cs.length ∧ i = .int .i64 j ∧ s = .int .i64 (takesN n.kind (n.cs.take j) : Int) ∧ Below W0.heap.size W0 wr) (fun _ i => fun _ => n.cs.length - (intOf i).toNat)
  case atStart => exact ⟨0, Nat.zero_le _, rfl, by simp [takesN], Below.refl _ _⟩
  case round =>
    obtain ⟨j, hj, rfl, rfl, hb⟩ := hrel
    by_cases hlt : j < n.cs.length
    · have hlt' : (j : Int) < (n.cs.length : Int) := by omega
      have i0 : (0 : Int) ≤ (j : Int) := by omega
      obtain ⟨b, off, hAe, hcell⟩ := (HBX.out.cs.keep hb).at (by omega)
      obtain ⟨LA, d, hrg, hd1, hd2, hrd⟩ := hcell j hlt
      have hmem : cl_ n.cs j ∈ n.cs := by rw [cl_lt hlt]; exact List.getElem_mem hlt
      have hst := takesN_take (k := n.kind) hlt
      have htl := takesN_take_le n.kind n.cs j
      have htl2 := takesN_take_le n.kind n.cs (j + 1)
      obtain ⟨cl, hcl⟩ : ∃ x, cl_ n.cs j = x := ⟨_, rfl⟩
      rw [hcl] at hrg hd1 hrd hmem hst
      have HCO := Lib.hid (HOK.out cl hmem)
      have HAT := Lib.hid (HBX.out.at_.keep hb)
      obtain ⟨t, ht⟩ : ∃ t, takesN n.kind (n.cs.take j) = t := ⟨_, rfl⟩
      rw [ht] at hst htl ⊢
      have HST := Lib.hid hst
      rw [hst] at htl2
      have HRG := Lib.hid hrg
      have HRD := Lib.hid hrd
      subst hAe
      clear hcell hcl hmem hrg hrd hst ht
      go_upto_region 4 with fail
      iterate 4 go_step
      refine wp_load_clo rfl _ rfl b (off + j * 5) cl LA cl.loc.length d rfl HRG.out ?_
      obtain ⟨W6, hW6⟩ : ∃ W, W = wr.alloc (.cells #[.int .i64 0, .int .i64 0, .int .i64 0, .slice none 0 0, .int .i64 0] 55) := ⟨_, rfl⟩
      have hb6 : Below wr.heap.size wr W6 := by rw [hW6]; exact (Below.refl _ _).alloc (Nat.le_refl _) _
      have HT6 := Lib.hid (show W6.there wr.heap.size 0 5 by rw [hW6]; exact there_new5 wr _ _ _ _ _ _)
      have HW6 := Lib.hid hW6
      clear hW6
      iterate 3 go_step
      rw [← HW6.out]
      clear HW6
      refine wp_store_cl rfl _ _ rfl wr.heap.size cl LA cl.loc.length d rfl rfl HT6.out ?_
      obtain ⟨w7, hw7⟩ : ∃ W, W = W6.setCells wr.heap.size 0 (clC cl LA cl.loc.length d) := ⟨_, rfl⟩
      have hb7 : Below wr.heap.size wr w7 := by rw [hw7]; exact below_setCellsR hb6 (Nat.le_refl _) _ _
      have HR7 := Lib.hid (show w7.rangeAt wr.heap.size 0 (clC cl LA cl.loc.length d) by rw [hw7]; exact World.rangeAt_setCells_same _ _ _ _ HT6.out)
      have HRD7 := Lib.hid (HRD.out.keep hb7)
      have m0 := (HAT.out.keep hb7).all.1
      rw [← hw7]
      clear hw7 hb6 HT6 HRD HRG
      go_upto_region 5 with fail
      iterate 10 go_step
      refine wp_load_clo rfl _ rfl wr.heap.size 0 cl LA cl.loc.length d rfl HR7.out ?_
      go_wp2_with fail
      refine (takes_any _ n.kind cl LA d HCO.out.1 HCO.out.2 hd1 hd2 HRD7.out).mono ?_
      rintro e w8 ⟨rfl, hb8⟩
      have hb08 : Below W0.heap.size W0 w8 := hb.trans ((hb7.mono hb.size).trans (hb8.mono (by have := hb7.size; have := hb.size; omega)))
      clear m0 hb8 hb7 HR7 HRD7
      obtain ⟨tc, htc⟩ : ∃ x, tkC n.kind cl = x := ⟨_, rfl⟩
      rw [htc] at HST htl2 ⊢
      clear htc
      go_wp2_with fail
      go_roundw
      case rel => exact ⟨j + 1, by omega, by go_num, by rw [HST.out]; rfl, hb08⟩
      case measure => simp [intOf]; omega
    · have hjn : j = n.cs.length := by omega
      have HF := Lib.hid (show takesN n.kind (n.cs.take j) = takesN n.kind n.cs by rw [hjn, List.take_length])
      rw [HF.out]
      have hjn2 : ¬ (j : Int) < (n.cs.length : Int) := by omega
      clear hjn
      go_wp2_with fail
      rw [HR.out]
      exact ⟨rfl, hB0.trans (hb.mono HBX.out.sz)⟩
theorem fits_any (w : World) (n : Nd) (A : Option Addr) (c : Nat) (s : Int) (hs : isSz s) (hn : n.cs.length ≤ 5000) (hok : ∀ d ∈ n.cs, ClOk d ∧ d.loc.length ≤ 16384) (hA : RdCl w A n.cs) :
    Calls Try.prog 90 #[n.val A c, .int .i64 s] w fun e w' => e = .returned (.bool (decide ((takesN n.kind n.cs : Int) ≤ s - 10))) ∧ Below w.heap.size w w' := by
  have HOK := Lib.hid hok
  have hs1 : 256 ≤ s ∧ s ≤ 4096 := by unfold isSz at hs; omega
  obtain ⟨W0, hW0⟩ : ∃ W, W = w.alloc (.cells #[.int .i64 n.kind, .slice A n.cs.length c, .int .i64 n.right] 69) := ⟨_, rfl⟩
  have HBX := Lib.hid (Bx.of hW0 hA)
  have HW := Lib.hid hW0
  clear hW0 hok hA hs
  have hB0 := HBX.out.bel
  unfold Nd.val
  go_enter Try.func90, Try.ntmps90
  go_upto_region 1 with fail
  rw [← HW.out]
  clear HW
  go_step
  refine wp_load_nd rfl _ rfl w.heap.size n A c rfl HBX.out.at_ ?_
  go_wp2_with fail
  refine (total_any _ n A c hn HOK.out HBX.out.cs _ rfl).mono ?_
  rintro e w1 ⟨rfl, hb1⟩
  obtain ⟨t, ht⟩ : ∃ t, takesN n.kind n.cs = t := ⟨_, rfl⟩
  rw [ht]
  have HT := Lib.hid ht
  have e1 : IntKind.i64.wrap (s - 10) = s - 10 := IntWalk.i64_in _ (by omega)
  clear ht
  go_wp2_with fail
  go_ret
  exact ⟨ret_bool (by rw [HT.out]), hB0.trans (hb1.mono HBX.out.sz)⟩

set_option maxHeartbeats 8000000 in
theorem few_any (w : World) (n : Nd) (A : Option Addr) (c : Nat) (hc : n.cs.length ≤ c) (hcm : c ≤ maxLen) (hA : RdCl w A n.cs) (R : Ending → World → Prop) (hR : R = fun e w' => e = .returned (.bool (decide (fewN n))) ∧ Below w.heap.size w w') :
    Calls Try.prog 39 #[n.val A c] w R := by
  have HR := Lib.hid hR; clear hR
  have hm63 : n.cs.length ≤ 9223372036854775807 := by unfold maxLen at hcm; omega
  obtain ⟨W0, hW0⟩ : ∃ W, W = w.alloc (.cells #[.int .i64 n.kind, .slice A n.cs.length c, .int .i64 n.right] 69) := ⟨_, rfl⟩
  have HBX := Lib.hid (Bx.of hW0 hA)
  have HW := Lib.hid hW0
  clear hW0 hA hc hcm
  have hB0 := HBX.out.bel
  have m1 := HBX.out.at_.all.2.1
  unfold Nd.val
  by_cases hg : n.cs.length ≤ 400
  case neg =>
    have hno := Lib.hid (show decide (fewN n) = false from decide_eq_false (fun h => hg h.1))
    have hg' : (400 : Int) < (n.cs.length : Int) := by omega
    clear hg
    go_enter Try.func39, Try.ntmps39
    go_upto_region 1 with fail
    rw [← HW.out]
    clear HW
    go_wp2_with fail
    rw [HR.out, hno.out]
    exact ⟨rfl, hB0⟩
  go_enter Try.func39, Try.ntmps39
  go_upto_region 1 with fail
  rw [← HW.out]
  clear HW
  go_wp2_with fail
  go_loop [3] (fun i => ∃ j : Nat, j ≤ n.cs.length ∧ i = .int .i64 j ∧ Hid (∀ d ∈ n.cs.take j, d.loc.length ≤ 16384)) (fun i => n.cs.length - (intOf i).toNat)
  case atStart => exact ⟨0, Nat.zero_le _, rfl, Lib.hid (by simp)⟩
  case round =>
    obtain ⟨j, hj, rfl, HJ⟩ := hrel
    by_cases hlt : j < n.cs.length
    · have hlt' : (j : Int) < (n.cs.length : Int) := by omega
      have i0 : (0 : Int) ≤ (j : Int) := by omega
      obtain ⟨b, off, hAe, hcell⟩ := HBX.out.cs.at (by omega)
      obtain ⟨LA, d, hrg, hd1, hd2, hrd⟩ := hcell j hlt
      have hmem : cl_ n.cs j ∈ n.cs := by rw [cl_lt hlt]; exact List.getElem_mem hlt
      have HCT := Lib.hid (show n.cs.take (j + 1) = n.cs.take j ++ [cl_ n.cs j] by rw [List.take_succ_eq_append_getElem hlt, cl_lt hlt])
      obtain ⟨cl, hcl⟩ : ∃ x, cl_ n.cs j = x := ⟨_, rfl⟩
      rw [hcl] at hrg hd1 hmem HCT
      have HMEM := Lib.hid hmem
      have h3 : W0.cell? ⟨b, off + j * 5 + 3, none⟩ = some (.slice LA cl.loc.length d) := hrg 3 _ rfl
      obtain ⟨m, hm⟩ : ∃ m, cl.loc.length = m := ⟨_, rfl⟩
      rw [hm] at h3 hd1
      have HM := Lib.hid hm
      rw [hAe] at m1
      have hm63' : m ≤ 9223372036854775807 := by unfold maxLen at hd2; omega
      clear hcell hcl hmem hrg hrd hd2 hAe hm
      by_cases hbig : (16384 : Int) < (m : Int)
      · have hno := Lib.hid (show decide (fewN n) = false from decide_eq_false (fun h => by have := h.2 cl HMEM.out; rw [HM.out] at this; omega))
        go_wp2_with fail
        rw [HR.out, hno.out]
        exact ⟨rfl, hB0⟩
      · go_wp2_with fail
        go_round
        case rel =>
          refine ⟨j + 1, by omega, by go_num, Lib.hid (fun x hx => ?_)⟩
          rw [HCT.out] at hx
          rcases List.mem_append.1 hx with h | h
          · exact HJ.out x h
          · obtain rfl : x = cl := by simpa using h
            rw [HM.out]; omega
        case measure => simp [intOf]; omega
    · have hjn : j = n.cs.length := by omega
      have hyes := Lib.hid (show decide (fewN n) = true from decide_eq_true ⟨hg, fun x hx => HJ.out x (by rw [hjn, List.take_length]; exact hx)⟩)
      have hjn2 : ¬ (j : Int) < (n.cs.length : Int) := by omega
      clear hjn
      go_wp2_with fail
      rw [HR.out, hyes.out]
      exact ⟨rfl, hB0⟩

set_option maxHeartbeats 16000000 in
theorem rTakes_any (w : World) (n : Nd) (A : Option Addr) (c : Nat) (hn : n.cs.length ≤ 5000) (hok : ∀ d ∈ n.cs, ClOk d ∧ d.loc.length ≤ 16384) (hA : RdCl w A n.cs) (R : Ending → World → Prop) (hR : R = fun e w' => e = .returned (.int .i64 (takesN n.kind n.cs : Int)) ∧ Below w.heap.size w w') :
    Calls Try.prog 52 #[n.val A c] w R := by
  have HR := Lib.hid hR; clear hR
  have HOK := Lib.hid hok
  have hbd := takesN_bd (k := n.kind) hn hok
  obtain ⟨W0, hW0⟩ : ∃ W, W = w.alloc (.cells #[.int .i64 n.kind, .slice A n.cs.length c, .int .i64 n.right] 69) := ⟨_, rfl⟩
  have HBX := Lib.hid (Bx.of hW0 hA)
  have HW := Lib.hid hW0
  clear hW0 hok hA
  have hB0 := HBX.out.bel
  unfold Nd.val
  go_enter Try.func52, Try.ntmps52
  go_upto_region 1 with fail
  rw [← HW.out]
  clear HW
  go_wp2_with fail
  go_loopw [3, 4] (fun s i wr => ∃ j : Nat, j ≤ n.cs.length ∧ i = .int .i64 j ∧ s = .int .i64 (takesN n.kind (n.cs.take j) : Int) ∧ Below W0.heap.size W0 wr) (fun _ i => fun _ => n.cs.length - (intOf i).toNat)
  case atStart => exact ⟨0, Nat.zero_le _, rfl, by simp [takesN], Below.refl _ _⟩
  case round =>
    obtain ⟨j, hj, rfl, rfl, hb⟩ := hrel
    have m1 := (HBX.out.at_.keep hb).all.2.1
    by_cases hlt : j < n.cs.length
    · have hlt' : (j : Int) < (n.cs.length : Int) := by omega
      have i0 : (0 : Int) ≤ (j : Int) := by omega
      obtain ⟨b, off, hAe, hcell⟩ := (HBX.out.cs.keep hb).at (by omega)
      obtain ⟨LA, d, hrg, hd1, hd2, hrd⟩ := hcell j hlt
      have hmem : cl_ n.cs j ∈ n.cs := by rw [cl_lt hlt]; exact List.getElem_mem hlt
      have hst := takesN_take (k := n.kind) hlt
      have htl := takesN_take_le n.kind n.cs j
      have htl2 := takesN_take_le n.kind n.cs (j + 1)
      obtain ⟨cl, hcl⟩ : ∃ x, cl_ n.cs j = x := ⟨_, rfl⟩
      rw [hcl] at hrg hd1 hrd hmem hst
      have HCO := Lib.hid (HOK.out cl hmem)
      obtain ⟨t, ht⟩ : ∃ t, takesN n.kind (n.cs.take j) = t := ⟨_, rfl⟩
      rw [ht] at hst htl ⊢
      have HST := Lib.hid hst
      rw [hst] at htl2
      have HRD := Lib.hid hrd
      have hat := HBX.out.at_.keep hb
      have F0 : ∀ W : World, Below wr.heap.size wr W → W.cell? ⟨w.heap.size, 0, none⟩ = some (.int .i64 n.kind) := fun W hW => (hat.keep hW).all.1
      have F1 : ∀ W : World, Below wr.heap.size wr W → W.cell? ⟨w.heap.size, 1, none⟩ = some (.slice (some ⟨b, off, none⟩) n.cs.length c) := fun W hW => by rw [← hAe]; exact (hat.keep hW).all.2.1
      have G0 : ∀ W : World, Below wr.heap.size wr W → W.cell? ⟨b, off + j * 5, none⟩ = some (.int .i64 cl.key) := fun W hW => (rangeKept hrg hW) 0 _ rfl
      have G1 : ∀ W : World, Below wr.heap.size wr W → W.cell? ⟨b, off + j * 5 + 1, none⟩ = some (.int .i64 cl.child) := fun W hW => (rangeKept hrg hW) 1 _ rfl
      have G2 : ∀ W : World, Below wr.heap.size wr W → W.cell? ⟨b, off + j * 5 + 2, none⟩ = some (.int .i64 cl.total) := fun W hW => (rangeKept hrg hW) 2 _ rfl
      have G3 : ∀ W : World, Below wr.heap.size wr W → W.cell? ⟨b, off + j * 5 + 3, none⟩ = some (.slice LA cl.loc.length d) := fun W hW => (rangeKept hrg hW) 3 _ rfl
      have G4 : ∀ W : World, Below wr.heap.size wr W → W.cell? ⟨b, off + j * 5 + 4, none⟩ = some (.int .i64 cl.spill) := fun W hW => (rangeKept hrg hW) 4 _ rfl
      rw [hAe] at m1
      clear hcell hcl hmem hst ht hrd hat hAe
      go_upto_region 5 with fail
      clear m1
      refine wp_region_held_drew (S := (fun W => Below wr.heap.size wr W)) (by kernel_rfl) ?_ (fun hHeld => ?_)
      · exact (Below.refl _ wr).drew
      refine' wpAnyH_take (i := 0) (oi := _) (v := _) rfl (by kernel_rfl) (by kernel_rfl) (by kernel_rfl) (fun _ _ _ h => h) (Or.inl ⟨by rfl, ?hz1⟩) (by assumption) ?rezt1
      case hz1 => (intro w' hSw; (try dsimp only at hSw); go_simp; try with_reducible rfl)
      try simp only [Act.put, List.setIfInBounds_toArray, List.set_cons_zero, List.set_cons_succ, List.getElem_toArray, List.getElem_cons_zero, List.getElem_cons_succ]
      refine' wpAnyH_take (i := 1) (oi := _) (v := _) rfl (by kernel_rfl) (by kernel_rfl) (by kernel_rfl) (fun _ _ _ h => h) (Or.inl ⟨by rfl, ?hz2⟩) (by assumption) ?rezt2
      case hz2 => (intro w' hSw; (try dsimp only at hSw); go_simp; try with_reducible rfl)
      try simp only [Act.put, List.setIfInBounds_toArray, List.set_cons_zero, List.set_cons_succ, List.getElem_toArray, List.getElem_cons_zero, List.getElem_cons_succ]
      refine' wpAnyH_take (i := 2) (oi := _) (v := _) rfl (by kernel_rfl) (by kernel_rfl) (by kernel_rfl) (fun _ _ _ h => h) (Or.inl ⟨by rfl, ?hz3⟩) (by assumption) ?rezt3
      case hz3 => (intro w' hSw; (try dsimp only at hSw); go_simp; try with_reducible rfl)
      try simp only [Act.put, List.setIfInBounds_toArray, List.set_cons_zero, List.set_cons_succ, List.getElem_toArray, List.getElem_cons_zero, List.getElem_cons_succ]
      refine' wpAnyH_take (i := 3) (oi := _) (v := _) rfl (by kernel_rfl) (by kernel_rfl) (by kernel_rfl) (fun _ _ _ h => h) (Or.inl ⟨by rfl, ?hz4⟩) (by assumption) ?rezt4
      case hz4 => (intro w' hSw; (try dsimp only at hSw); go_simp; try with_reducible rfl)
      try simp only [Act.put, List.setIfInBounds_toArray, List.set_cons_zero, List.set_cons_succ, List.getElem_toArray, List.getElem_cons_zero, List.getElem_cons_succ]
      refine' wpAnyH_take (i := 4) (oi := _) (v := _) rfl (by kernel_rfl) (by kernel_rfl) (by kernel_rfl) (fun _ _ _ h => h) (Or.inl ⟨by rfl, ?hz5⟩) (by assumption) ?rezt5
      case hz5 => (intro w' hSw; (try dsimp only at hSw); go_simp; try with_reducible rfl)
      try simp only [Act.put, List.setIfInBounds_toArray, List.set_cons_zero, List.set_cons_succ, List.getElem_toArray, List.getElem_cons_zero, List.getElem_cons_succ]
      refine' wpAnyH_take (i := 5) (oi := _) (v := _) rfl (by kernel_rfl) (by kernel_rfl) (by kernel_rfl) (fun _ _ _ h => h) (Or.inl ⟨by rfl, ?hz6⟩) (by assumption) ?rezt6
      case hz6 => (intro w' hSw; (try dsimp only at hSw); go_simp; try with_reducible rfl)
      try simp only [Act.put, List.setIfInBounds_toArray, List.set_cons_zero, List.set_cons_succ, List.getElem_toArray, List.getElem_cons_zero, List.getElem_cons_succ]
      refine' wpAnyH_take (i := 6) (oi := _) (v := _) rfl (by kernel_rfl) (by kernel_rfl) (by kernel_rfl) (fun _ _ _ h => h) (Or.inl ⟨by rfl, ?hz7⟩) (by assumption) ?rezt7
      case hz7 => (intro w' hSw; (try dsimp only at hSw); go_simp; try with_reducible rfl)
      try simp only [Act.put, List.setIfInBounds_toArray, List.set_cons_zero, List.set_cons_succ, List.getElem_toArray, List.getElem_cons_zero, List.getElem_cons_succ]
      refine wpAnyH_ready (rs := [7]) (by kernel_rfl) (by simp) ?_
      refine AllReadyH.cons (o := _) rfl (fun K hK => ?_) AllReadyH.nil
      go_simp
      have hbd : Below wr.heap.size wr wr.drew := (Below.refl _ wr).drew
      go_at_call 36
      refine (rcencC_any _ n.kind cl LA cl.loc.length d HCO.out.1.1 hd1 hd2 rfl (HRD.out.keep hbd)).mono ?_
      rintro e w1 ⟨B1, n1, c1, rfl, hown1, hb1⟩
      have hbr1 : Below wr.heap.size wr w1 := hbd.trans (hb1.mono (Nat.le_refl _))
      have HL1 := Lib.hid hown1.len
      clear hb1 hbd hown1
      refine hK.out _ _ ?_ (fun hHeld => ?_)
      · exact hbr1
      clear hK K
      try simp only [Act.put, List.setIfInBounds_toArray, List.set_cons_zero, List.set_cons_succ, List.getElem_toArray, List.getElem_cons_zero, List.getElem_cons_succ]
      refine' wpAnyH_take (i := 8) (oi := _) (v := _) rfl (by kernel_rfl) (by kernel_rfl) (by kernel_rfl) (fun _ _ _ h => h) (Or.inl ⟨by rfl, ?hz8⟩) (by assumption) ?rezt8
      case hz8 => (intro w' hSw; (try dsimp only at hSw); go_simp; try with_reducible rfl)
      try simp only [Act.put, List.setIfInBounds_toArray, List.set_cons_zero, List.set_cons_succ, List.getElem_toArray, List.getElem_cons_zero, List.getElem_cons_succ]
      refine' wpAnyH_take (i := 9) (oi := _) (v := _) rfl (by kernel_rfl) (by kernel_rfl) (by kernel_rfl) (fun _ _ _ h => h) (Or.inl ⟨by rfl, ?hz9⟩) (by assumption) ?rezt9
      case hz9 => (intro w' hSw; (try dsimp only at hSw); go_simp; try with_reducible rfl)
      try simp only [Act.put, List.setIfInBounds_toArray, List.set_cons_zero, List.set_cons_succ, List.getElem_toArray, List.getElem_cons_zero, List.getElem_cons_succ]
      refine' wpAnyH_take (i := 10) (oi := _) (v := _) rfl (by kernel_rfl) (by kernel_rfl) (by kernel_rfl) (fun _ _ _ h => h) (Or.inl ⟨by rfl, ?hz10⟩) (by assumption) ?rezt10
      case hz10 => (intro w' hSw; (try dsimp only at hSw); go_simp; try with_reducible rfl)
      try simp only [Act.put, List.setIfInBounds_toArray, List.set_cons_zero, List.set_cons_succ, List.getElem_toArray, List.getElem_cons_zero, List.getElem_cons_succ]
      refine' wpAnyH_take (i := 11) (oi := _) (v := _) rfl (by kernel_rfl) (by kernel_rfl) (by kernel_rfl) (fun _ _ _ h => h) (Or.inl ⟨by rfl, ?hz11⟩) (by assumption) ?rezt11
      case hz11 => (intro w' hSw; (try dsimp only at hSw); go_simp; try with_reducible rfl)
      try simp only [Act.put, List.setIfInBounds_toArray, List.set_cons_zero, List.set_cons_succ, List.getElem_toArray, List.getElem_cons_zero, List.getElem_cons_succ]
      refine' wpAnyH_take (i := 12) (oi := _) (v := _) rfl (by kernel_rfl) (by kernel_rfl) (by kernel_rfl) (fun _ _ _ h => h) (Or.inl ⟨by rfl, ?hz12⟩) (by assumption) ?rezt12
      case hz12 => (intro w' hSw; (try dsimp only at hSw); go_simp; try with_reducible rfl)
      try simp only [Act.put, List.setIfInBounds_toArray, List.set_cons_zero, List.set_cons_succ, List.getElem_toArray, List.getElem_cons_zero, List.getElem_cons_succ]
      refine wpAnyH_done (by kernel_rfl) ?_ _
      clear F0 F1 G0 G1 G2 G3 G4
      have hb01 : Below W0.heap.size W0 w1 := hb.trans (hbr1.mono hb.size)
      have HTK := Lib.hid (show tkC n.kind cl = n1 + 4 by unfold tkC; rw [HL1.out])
      rw [HTK.out] at htl2 HST
      have e1 : IntKind.i64.wrap ((t : Int) + (n1 : Int)) = (t : Int) + (n1 : Int) := IntWalk.i64_in _ (by omega)
      have e2 : IntKind.i64.wrap ((t : Int) + (n1 : Int) + 4) = (t : Int) + (n1 : Int) + 4 := IntWalk.i64_in _ (by omega)
      go_wp2_with fail
      go_roundw
      case rel => exact ⟨j + 1, by omega, by go_num, by rw [HST.out]; congr 1, hb01⟩
      case measure => simp [intOf]; omega
    · have hjn : j = n.cs.length := by omega
      have HF := Lib.hid (show takesN n.kind (n.cs.take j) = takesN n.kind n.cs by rw [hjn, List.take_length])
      rw [HF.out]
      have hjn2 : ¬ (j : Int) < (n.cs.length : Int) := by omega
      clear hjn
      go_wp2_with fail
      rw [HR.out]
      exact ⟨rfl, hB0.trans (hb.mono HBX.out.sz)⟩
end
section
open Go.RowKit
set_option maxRecDepth 100000
set_option linter.unusedVariables false
set_option linter.unusedSimpArgs false
set_option linter.unnecessarySimpa false
theorem cs_ext {a b : List Cl} (h : a.length = b.length) (e : ∀ i, i < a.length → cl_ a i = cl_ b i) : a = b := by
  refine List.ext_getElem h fun i h1 h2 => ?_
  have := e i h1
  rwa [cl_lt h1, cl_lt h2] at this
set_option maxHeartbeats 32000000 in
theorem same19_any (w : World) (n m : Nd) (A B : Option Addr) (c d : Nat) (hnm : n.cs.length ≤ 9223372036854775807) (hmm : m.cs.length ≤ 9223372036854775807) (hA : RdCl w A n.cs) (hB : RdCl w B m.cs) (R : Ending → World → Prop) (hR : R = fun e w' => e = .returned (.bool (decide (n = m))) ∧ Below w.heap.size w w') :
    Calls Try.prog 45 #[n.val A c, m.val B d] w R := by
  have HR := Lib.hid hR; clear hR
  obtain ⟨W1, hW1⟩ : ∃ W, W = w.alloc (.cells #[.int .i64 n.kind, .slice A n.cs.length c, .int .i64 n.right] 69) := ⟨_, rfl⟩
  have hbx := Bx.of hW1 hA
  have hs1 : W1.heap.size = w.heap.size + 1 := by rw [hW1]; simp
  obtain ⟨W0, hW0⟩ : ∃ W, W = W1.alloc (.cells #[.int .i64 m.kind, .slice B m.cs.length d, .int .i64 m.right] 69) := ⟨_, rfl⟩
  have hby := Bx.of hW0 (hB.keep hbx.bel)
  have hB0 : Below w.heap.size w W0 := hbx.bel.trans (hby.bel.mono hbx.sz)
  have HX := Lib.hid (hbx.at_.keep hby.bel)
  have HXC := Lib.hid (hbx.cs.keep hby.bel)
  have HY := Lib.hid (show NdAt W0 (w.heap.size + 1) m B d by rw [← hs1]; exact hby.at_)
  have HYC := Lib.hid hby.cs
  have hs0 : w.heap.size ≤ W0.heap.size := hB0.size
  have HW := Lib.hid hW0
  rw [hW1] at HW
  clear hW0 hW1 hbx hby hs1 hA hB
  obtain ⟨x0, x1, x2⟩ := HX.out.all
  obtain ⟨y0, y1, y2⟩ := HY.out.all
  unfold Nd.val
  by_cases hk : n.kind = m.kind
  case neg =>
    have HF := Lib.hid (show decide (n = m) = false from decide_eq_false (fun h => hk (by rw [h])))
    have q1 : (n.kind != m.kind) = true := by simp [hk]
    clear hk
    go_enter Try.func45, Try.ntmps45
    go_upto_region 1 with fail
    rw [← HW.out]
    clear HW
    go_wp2_with fail
    rw [HR.out, HF.out]
    exact ⟨rfl, hB0⟩
  have q1 : (n.kind != m.kind) = false := by simp [hk]
  have HK := Lib.hid hk
  clear hk
  by_cases hr : n.right = m.right
  case neg =>
    have HF := Lib.hid (show decide (n = m) = false from decide_eq_false (fun h => hr (by rw [h])))
    have q2 : (n.right != m.right) = true := by simp [hr]
    clear hr
    go_enter Try.func45, Try.ntmps45
    go_upto_region 1 with fail
    rw [← HW.out]
    clear HW
    go_wp2_with fail
    rw [HR.out, HF.out]
    exact ⟨rfl, hB0⟩
  have q2 : (n.right != m.right) = false := by simp [hr]
  have HRT := Lib.hid hr
  clear hr
  by_cases hl : n.cs.length = m.cs.length
  case neg =>
    have HF := Lib.hid (show decide (n = m) = false from decide_eq_false (fun h => hl (by rw [h])))
    have q3 : ((n.cs.length : Int) != (m.cs.length : Int)) = true := by simp; omega
    clear hl
    go_enter Try.func45, Try.ntmps45
    go_upto_region 1 with fail
    rw [← HW.out]
    clear HW
    go_wp2_with fail
    rw [HR.out, HF.out]
    exact ⟨rfl, hB0⟩
  have q3 : ((n.cs.length : Int) != (m.cs.length : Int)) = false := by simp; omega
  have HLL := Lib.hid hl
  clear hl
  go_enter Try.func45, Try.ntmps45
  go_upto_region 1 with fail
  rw [← HW.out]
  clear HW
  go_wp2_with fail
  clear x0 x1 x2 y0 y1 y2 q1 q2 q3
  go_loopw [5] (fun i wr => ∃ j : Nat, j ≤ n.cs.length ∧ i = .int .i64 j ∧ (∀ t, t < j → cl_ n.cs t = cl_ m.cs t) ∧ Below W0.heap.size W0 wr) (fun i _ => n.cs.length - (intOf i).toNat)
  case atStart => exact ⟨0, Nat.zero_le _, rfl, fun t ht => by omega, Below.refl _ _⟩
  case round =>
    obtain ⟨j, hj, rfl, hall, hb⟩ := hrel
    have HALL := Lib.hid hall
    have x1 := (HX.out.keep hb).all.2.1
    clear hall
    by_cases hlt : j < n.cs.length
    · have hlt' : (j : Int) < (n.cs.length : Int) := by omega
      have i0 : (0 : Int) ≤ (j : Int) := by omega
      have hltm : j < m.cs.length := by rw [← HLL.out]; exact hlt
      have hltm' : (j : Int) < (m.cs.length : Int) := by omega
      obtain ⟨b, off, hAe, hcell⟩ := (HXC.out.keep hb).at (by omega)
      obtain ⟨LA, ld, hrg, hd1, hd2, hrd⟩ := hcell j hlt
      obtain ⟨b', off', hBe, hcell'⟩ := (HYC.out.keep hb).at (by omega)
      obtain ⟨MA, md, mrg, md1, md2, mrd⟩ := hcell' j hltm
      have HCX : Hid (cl_ n.cs j = cl_ n.cs j) := Lib.hid rfl
      obtain ⟨cl, hcl⟩ : ∃ x, cl_ n.cs j = x := ⟨_, rfl⟩
      obtain ⟨cm, hcm⟩ : ∃ x, cl_ m.cs j = x := ⟨_, rfl⟩
      rw [hcl] at hrg hd1 hrd
      rw [hcm] at mrg md1 mrd
      have HCL := Lib.hid hcl
      have HCM := Lib.hid hcm
      have HRD := Lib.hid hrd
      have MRD := Lib.hid mrd
      have hatx := HX.out.keep hb
      have haty := HY.out.keep hb
      have hle : cl.loc.length ≤ maxLen := Nat.le_trans hd1 hd2
      have F1 : ∀ W : World, Below wr.heap.size wr W → W.cell? ⟨w.heap.size, 1, none⟩ = some (.slice (some ⟨b, off, none⟩) n.cs.length c) := fun W hW => by rw [← hAe]; exact (hatx.keep hW).all.2.1
      have F2 : ∀ W : World, Below wr.heap.size wr W → W.cell? ⟨w.heap.size + 1, 1, none⟩ = some (.slice (some ⟨b', off', none⟩) m.cs.length d) := fun W hW => by rw [← hBe]; exact (haty.keep hW).all.2.1
      have G0 : ∀ W : World, Below wr.heap.size wr W → W.cell? ⟨b, off + j * 5, none⟩ = some (.int .i64 cl.key) := fun W hW => (rangeKept hrg hW) 0 _ rfl
      have G1 : ∀ W : World, Below wr.heap.size wr W → W.cell? ⟨b, off + j * 5 + 1, none⟩ = some (.int .i64 cl.child) := fun W hW => (rangeKept hrg hW) 1 _ rfl
      have G2 : ∀ W : World, Below wr.heap.size wr W → W.cell? ⟨b, off + j * 5 + 2, none⟩ = some (.int .i64 cl.total) := fun W hW => (rangeKept hrg hW) 2 _ rfl
      have G3 : ∀ W : World, Below wr.heap.size wr W → W.cell? ⟨b, off + j * 5 + 3, none⟩ = some (.slice LA cl.loc.length ld) := fun W hW => (rangeKept hrg hW) 3 _ rfl
      have G4 : ∀ W : World, Below wr.heap.size wr W → W.cell? ⟨b, off + j * 5 + 4, none⟩ = some (.int .i64 cl.spill) := fun W hW => (rangeKept hrg hW) 4 _ rfl
      have M0 : ∀ W : World, Below wr.heap.size wr W → W.cell? ⟨b', off' + j * 5, none⟩ = some (.int .i64 cm.key) := fun W hW => (rangeKept mrg hW) 0 _ rfl
      have M1 : ∀ W : World, Below wr.heap.size wr W → W.cell? ⟨b', off' + j * 5 + 1, none⟩ = some (.int .i64 cm.child) := fun W hW => (rangeKept mrg hW) 1 _ rfl
      have M2 : ∀ W : World, Below wr.heap.size wr W → W.cell? ⟨b', off' + j * 5 + 2, none⟩ = some (.int .i64 cm.total) := fun W hW => (rangeKept mrg hW) 2 _ rfl
      have M3 : ∀ W : World, Below wr.heap.size wr W → W.cell? ⟨b', off' + j * 5 + 3, none⟩ = some (.slice MA cm.loc.length md) := fun W hW => (rangeKept mrg hW) 3 _ rfl
      have M4 : ∀ W : World, Below wr.heap.size wr W → W.cell? ⟨b', off' + j * 5 + 4, none⟩ = some (.int .i64 cm.spill) := fun W hW => (rangeKept mrg hW) 4 _ rfl
      rw [hAe] at x1
      clear hcell hcell' hcl hcm hrd mrd hatx haty hAe hBe HCX
      go_upto_region 6 with fail
      clear x1
      refine wp_region_held_drew (S := (fun W => Below wr.heap.size wr W)) (by kernel_rfl) ?_ (fun hHeld => ?_)
      · exact (Below.refl _ wr).drew
      refine' wpAnyH_take (i := 0) (oi := _) (v := _) rfl (by kernel_rfl) (by kernel_rfl) (by kernel_rfl) (fun _ _ _ h => h) (Or.inl ⟨by rfl, ?hz1⟩) (by assumption) ?rezt1
      case hz1 => (intro w' hSw; (try dsimp only at hSw); go_simp; try with_reducible rfl)
      try simp only [Act.put, List.setIfInBounds_toArray, List.set_cons_zero, List.set_cons_succ, List.getElem_toArray, List.getElem_cons_zero, List.getElem_cons_succ]
      refine' wpAnyH_take (i := 1) (oi := _) (v := _) rfl (by kernel_rfl) (by kernel_rfl) (by kernel_rfl) (fun _ _ _ h => h) (Or.inl ⟨by rfl, ?hz2⟩) (by assumption) ?rezt2
      case hz2 => (intro w' hSw; (try dsimp only at hSw); go_simp; try with_reducible rfl)
      try simp only [Act.put, List.setIfInBounds_toArray, List.set_cons_zero, List.set_cons_succ, List.getElem_toArray, List.getElem_cons_zero, List.getElem_cons_succ]
      refine' wpAnyH_take (i := 2) (oi := _) (v := _) rfl (by kernel_rfl) (by kernel_rfl) (by kernel_rfl) (fun _ _ _ h => h) (Or.inl ⟨by rfl, ?hz3⟩) (by assumption) ?rezt3
      case hz3 => (intro w' hSw; (try dsimp only at hSw); go_simp; try with_reducible rfl)
      try simp only [Act.put, List.setIfInBounds_toArray, List.set_cons_zero, List.set_cons_succ, List.getElem_toArray, List.getElem_cons_zero, List.getElem_cons_succ]
      refine' wpAnyH_take (i := 3) (oi := _) (v := _) rfl (by kernel_rfl) (by kernel_rfl) (by kernel_rfl) (fun _ _ _ h => h) (Or.inl ⟨by rfl, ?hz4⟩) (by assumption) ?rezt4
      case hz4 => (intro w' hSw; (try dsimp only at hSw); go_simp; try with_reducible rfl)
      try simp only [Act.put, List.setIfInBounds_toArray, List.set_cons_zero, List.set_cons_succ, List.getElem_toArray, List.getElem_cons_zero, List.getElem_cons_succ]
      refine' wpAnyH_take (i := 4) (oi := _) (v := _) rfl (by kernel_rfl) (by kernel_rfl) (by kernel_rfl) (fun _ _ _ h => h) (Or.inl ⟨by rfl, ?hz5⟩) (by assumption) ?rezt5
      case hz5 => (intro w' hSw; (try dsimp only at hSw); go_simp; try with_reducible rfl)
      try simp only [Act.put, List.setIfInBounds_toArray, List.set_cons_zero, List.set_cons_succ, List.getElem_toArray, List.getElem_cons_zero, List.getElem_cons_succ]
      refine' wpAnyH_take (i := 5) (oi := _) (v := _) rfl (by kernel_rfl) (by kernel_rfl) (by kernel_rfl) (fun _ _ _ h => h) (Or.inl ⟨by rfl, ?hz6⟩) (by assumption) ?rezt6
      case hz6 => (intro w' hSw; (try dsimp only at hSw); go_simp; try with_reducible rfl)
      try simp only [Act.put, List.setIfInBounds_toArray, List.set_cons_zero, List.set_cons_succ, List.getElem_toArray, List.getElem_cons_zero, List.getElem_cons_succ]
      refine' wpAnyH_take (i := 6) (oi := _) (v := _) rfl (by kernel_rfl) (by kernel_rfl) (by kernel_rfl) (fun _ _ _ h => h) (Or.inl ⟨by rfl, ?hz7⟩) (by assumption) ?rezt7
      case hz7 => (intro w' hSw; (try dsimp only at hSw); go_simp; try with_reducible rfl)
      try simp only [Act.put, List.setIfInBounds_toArray, List.set_cons_zero, List.set_cons_succ, List.getElem_toArray, List.getElem_cons_zero, List.getElem_cons_succ]
      refine' wpAnyH_take (i := 7) (oi := _) (v := _) rfl (by kernel_rfl) (by kernel_rfl) (by kernel_rfl) (fun _ _ _ h => h) (Or.inl ⟨by rfl, ?hz8⟩) (by assumption) ?rezt8
      case hz8 => (intro w' hSw; (try dsimp only at hSw); go_simp; try with_reducible rfl)
      try simp only [Act.put, List.setIfInBounds_toArray, List.set_cons_zero, List.set_cons_succ, List.getElem_toArray, List.getElem_cons_zero, List.getElem_cons_succ]
      refine' wpAnyH_take (i := 8) (oi := _) (v := _) rfl (by kernel_rfl) (by kernel_rfl) (by kernel_rfl) (fun _ _ _ h => h) (Or.inl ⟨by rfl, ?hz9⟩) (by assumption) ?rezt9
      case hz9 => (intro w' hSw; (try dsimp only at hSw); go_simp; try with_reducible rfl)
      try simp only [Act.put, List.setIfInBounds_toArray, List.set_cons_zero, List.set_cons_succ, List.getElem_toArray, List.getElem_cons_zero, List.getElem_cons_succ]
      refine' wpAnyH_take (i := 9) (oi := _) (v := _) rfl (by kernel_rfl) (by kernel_rfl) (by kernel_rfl) (fun _ _ _ h => h) (Or.inl ⟨by rfl, ?hz10⟩) (by assumption) ?rezt10
      case hz10 => (intro w' hSw; (try dsimp only at hSw); go_simp; try with_reducible rfl)
      try simp only [Act.put, List.setIfInBounds_toArray, List.set_cons_zero, List.set_cons_succ, List.getElem_toArray, List.getElem_cons_zero, List.getElem_cons_succ]
      refine wpAnyH_ready (rs := [10]) (by kernel_rfl) (by simp) ?_
      refine AllReadyH.cons (o := _) rfl (fun K hK => ?_) AllReadyH.nil
      go_simp
      have hbd : Below wr.heap.size wr wr.drew := (Below.refl _ wr).drew
      go_at_call 34
      refine (sameC_any _ cl cm LA MA cl.loc.length ld cm.loc.length md rfl rfl hle (HRD.out.keep hbd) (MRD.out.keep hbd)).mono ?_
      rintro e w1 ⟨rfl, hb1⟩
      have hbr1 : Below wr.heap.size wr w1 := hbd.trans (hb1.mono (Nat.le_refl _))
      clear hb1 hbd
      refine hK.out _ _ ?_ (fun hHeld => ?_)
      · exact hbr1
      clear hK K
      try simp only [Act.put, List.setIfInBounds_toArray, List.set_cons_zero, List.set_cons_succ, List.getElem_toArray, List.getElem_cons_zero, List.getElem_cons_succ]
      clear F1 F2 G0 G1 G2 G3 G4 M0 M1 M2 M3 M4
      have hb01 : Below W0.heap.size W0 w1 := hb.trans (hbr1.mono hb.size)
      by_cases he : cl = cm
      · rw [decide_eq_true he]
        have HE := Lib.hid he
        clear he
        refine' wpAnyH_take (i := 11) (oi := _) (v := _) rfl (by kernel_rfl) (by kernel_rfl) (by kernel_rfl) (fun _ _ _ h => h) (Or.inl ⟨by rfl, ?hz11⟩) (by assumption) ?rezt11
        case hz11 => (intro w' hSw; (try dsimp only at hSw); go_simp; try with_reducible rfl)
        try simp only [Act.put, List.setIfInBounds_toArray, List.set_cons_zero, List.set_cons_succ, List.getElem_toArray, List.getElem_cons_zero, List.getElem_cons_succ]
        refine wpAnyH_done (by kernel_rfl) ?_ _
        go_wp2_with fail
        go_roundw
        case rel =>
          refine ⟨j + 1, by omega, by go_num, fun t ht => ?_, hb01⟩
          by_cases e : t = j
          · rw [e, HCL.out, HCM.out]; exact HE.out
          · exact HALL.out t (by omega)
        case measure => simp [intOf]; omega
      · rw [decide_eq_false he]
        have HF := Lib.hid (show decide (n = m) = false from decide_eq_false (fun h => he (by rw [← HCL.out, ← HCM.out, h])))
        clear he
        refine' wpAnyH_take (i := 11) (oi := _) (v := _) rfl (by kernel_rfl) (by kernel_rfl) (by kernel_rfl) (fun _ _ _ h => h) (Or.inl ⟨by rfl, ?hz12⟩) (by assumption) ?rezt12
        case hz12 => (intro w' hSw; (try dsimp only at hSw); go_simp; try with_reducible rfl)
        try simp only [Act.put, List.setIfInBounds_toArray, List.set_cons_zero, List.set_cons_succ, List.getElem_toArray, List.getElem_cons_zero, List.getElem_cons_succ]
        refine wpAnyH_done (by kernel_rfl) ?_ _
        go_wp2_with fail
        rw [HR.out, HF.out]
        exact ⟨rfl, hB0.trans (hb01.mono hs0)⟩
    · have hjn : j = n.cs.length := by omega
      have HF := Lib.hid (show decide (n = m) = true from decide_eq_true (by
        obtain ⟨nk, nr, nc⟩ := n
        obtain ⟨mk, mr, mc⟩ := m
        have h1 := HK.out
        have h2 := HRT.out
        have h3 := HLL.out
        have h4 := HALL.out
        simp only at h1 h2 h3 h4 hjn
        rw [h1, h2, cs_ext h3 (fun i hi => h4 i (by omega))]))
      have hjn2 : ¬ (j : Int) < (n.cs.length : Int) := by omega
      clear hjn
      go_wp2_with fail
      rw [HR.out, HF.out]
      exact ⟨rfl, hB0.trans (hb.mono hs0)⟩
end
section
open Go.RowKit
set_option maxRecDepth 100000
set_option linter.unusedVariables false
set_option linter.unusedSimpArgs false
theorem varL_isB (n : Int) : IsB (varL n) := vl_isB _
theorem isB_app {a b : List Int} (ha : IsB a) (hb : IsB b) : IsB (a ++ b) := by
  intro x hx
  rcases List.mem_append.1 hx with h | h
  · exact ha x h
  · exact hb x h
theorem isB_nil : IsB [] := fun x hx => by simp at hx
theorem cellB_isB (k : Int) (c : Cl) (h : IsB c.loc) : IsB (cellB k c) := by
  unfold cellB childB keyB loadB spillB
  refine isB_app ?_ (isB_app ?_ ?_)
  · split
    · exact varL_isB _
    · exact isB_nil
  · split
    · exact varL_isB _
    · exact isB_nil
  · split
    · exact isB_nil
    · refine isB_app (varL_isB _) (isB_app (varL_isB _) (isB_app h ?_))
      split
      · exact isB_nil
      · exact varL_isB _
end
section
open Go.RowKit
set_option maxRecDepth 100000
set_option linter.unusedVariables false
set_option linter.unusedSimpArgs false
set_option linter.unnecessarySimpa false
def putAll (M : Mdl) (bs : List (List Int)) : Mdl := bs.foldl (fun M b => (insM M (M.k : Int) b).1) M
theorem putAll_take {M : Mdl} {bs : List (List Int)} {j : Nat} (h : j < bs.length) : putAll M (bs.take (j + 1)) = (insM (putAll M (bs.take j)) ((putAll M (bs.take j)).k : Int) (bs.getD j [])).1 := by
  unfold putAll
  rw [List.take_succ_eq_append_getElem h, List.foldl_append]
  simp [h]
/-- What was put so far. -/
structure PutS (s : Nat) (bs : List (List Int)) (M : Mdl) : Prop where
  good : Good M
  n : M.n = s
  h : M.h = 8
  F : M.F = List.replicate 8 0
  C : M.C = bs
theorem PutS.left {s : Nat} {bs : List (List Int)} {M : Mdl} (p : PutS s bs M) : M.left = (s : Int) - 10 - takenC bs := by
  unfold Mdl.left
  rw [p.n, p.h, p.C]
  omega
theorem room1_same (M : Mdl) (m : Nat) : (M.room1 m).C = M.C ∧ (M.room1 m).n = M.n ∧ (M.room1 m).h = M.h ∧ (M.room1 m).F = M.F := by
  unfold Mdl.room1
  split <;> exact ⟨rfl, rfl, rfl, rfl⟩
theorem PutS.step {s : Nat} {bs : List (List Int)} {M : Mdl} (p : PutS s bs M) (b : List Int) (hB : IsB b) (hfit : takenC bs + (4 + b.length) + 10 ≤ s) :
    (insM M (M.k : Int) b).2 = 0 ∧ PutS s (bs ++ [b]) (insM M (M.k : Int) b).1 := by
  have hl := p.left
  have h4 : ¬ M.left < 4 + (b.length : Int) := by omega
  have e : insM M (M.k : Int) b = ((M.room1 b.length).ins M.k ((M.room1 b.length).top - 2 - b.length) b, 0) := by
    unfold insM
    rw [if_neg (by omega), if_neg h4, Int.toNat_natCast]
  obtain ⟨g1, g2, g3, g4, g5, g6, g7⟩ := room1_ok p.good h4
  obtain ⟨r1, r2, r3, r4⟩ := room1_same M b.length
  have hu1 : M.used (M.k + 1) = M.h + 2 + 2 * (M.k + 1) := rfl
  have hu2 : (M.room1 b.length).used ((M.room1 b.length).k + 1) = M.used (M.k + 1) := by
    show (M.room1 b.length).h + 2 + 2 * ((M.room1 b.length).k + 1) = _
    rw [g2, r3]; rfl
  rw [e]
  refine ⟨rfl, ?_, r2.trans p.n, r3.trans p.h, r4.trans p.F, ?_⟩
  · exact Good.ins g1 (by rw [g2]; exact Nat.le_refl _) (by omega) (by rw [hu2]; omega) (by rw [hu2, r1, r2]; exact g7) hB
  · show (M.room1 b.length).C.take M.k ++ b :: (M.room1 b.length).C.drop M.k = _
    rw [r1]
    have h1 : M.C.take M.k = M.C := List.take_length
    have h2 : M.C.drop M.k = [] := List.drop_length
    rw [h1, h2, p.C]
def fullP (n : Nd) : List (List Int) := n.cs.map (encC n.kind)
theorem taken_takes (k : Int) (cs : List Cl) : takenC (cs.map (encC k)) = takesN k cs := by
  induction cs with
  | nil => rfl
  | cons c cs ih =>
    have e1 : takenC ((c :: cs).map (encC k)) = (4 + (encC k c).length) + takenC (cs.map (encC k)) := by simp [takenC]
    have e2 : takesN k (c :: cs) = tkC k c + takesN k cs := by simp [takesN]
    rw [e1, e2, ih]
    unfold tkC
    omega
theorem encC_isB {k : Int} {c : Cl} (h : IsB c.loc) : IsB (encC k c) := by
  unfold encC
  split
  · exact cellB_isB k c h
  · exact isB_nil
theorem PutS.start {s : Nat} (hs : isSz (s : Int)) : PutS s [] (newM s 8) :=
  ⟨new_good (by unfold isSz at hs; unfold mayP; omega), rfl, new_h s 8, rfl, rfl⟩
/-- So far, all went in. -/
theorem put_at {s : Nat} (hs : isSz (s : Int)) {n : Nd} (hok : ∀ c ∈ n.cs, IsB c.loc) (hf : (takesN n.kind n.cs : Int) ≤ (s : Int) - 10) (j : Nat) (hj : j ≤ n.cs.length) :
    PutS s ((fullP n).take j) (putAll (newM s 8) ((fullP n).take j)) ∧ (putAll (newM s 8) ((fullP n).take j)).k = j := by
  have hs1 : 256 ≤ s ∧ s ≤ 4096 := by unfold isSz at hs; omega
  have hlen : (fullP n).length = n.cs.length := by simp [fullP]
  have key : PutS s ((fullP n).take j) (putAll (newM s 8) ((fullP n).take j)) := by
    induction j with
    | zero => exact PutS.start hs
    | succ j ih =>
      have hj' : j < (fullP n).length := by omega
      have p := ih (by omega)
      rw [putAll_take hj']
      have hB : IsB ((fullP n).getD j []) := by
        have e : (fullP n).getD j [] = encC n.kind n.cs[j] := by simp [fullP, show j < n.cs.length by omega]
        rw [e]
        exact encC_isB (hok _ (List.getElem_mem _))
      have e2 : (fullP n).take (j + 1) = (fullP n).take j ++ [(fullP n).getD j []] := by
        rw [List.take_succ_eq_append_getElem hj']
        simp [hj']
      have ht : takenC ((fullP n).take (j + 1)) ≤ takenC (fullP n) := by
        have := takenC_app ((fullP n).take (j + 1)) ((fullP n).drop (j + 1))
        rw [List.take_append_drop] at this
        omega
      have ht2 : takenC (fullP n) = takesN n.kind n.cs := taken_takes _ _
      rw [e2, takenC_app, takenC_one] at ht
      rw [e2]
      exact (p.step _ hB (by omega)).2
  refine ⟨key, ?_⟩
  show (putAll (newM s 8) ((fullP n).take j)).C.length = j
  rw [key.C, List.length_take, hlen]
  omega
theorem put_ok {s : Nat} (hs : isSz (s : Int)) {n : Nd} (hok : ∀ c ∈ n.cs, IsB c.loc) (hf : (takesN n.kind n.cs : Int) ≤ (s : Int) - 10) (j : Nat) (hj : j < n.cs.length) :
    (insM (putAll (newM s 8) ((fullP n).take j)) (j : Int) (encC n.kind (cl_ n.cs j))).2 = 0 ∧ (insM (putAll (newM s 8) ((fullP n).take j)) (j : Int) (encC n.kind (cl_ n.cs j))).1 = putAll (newM s 8) ((fullP n).take (j + 1)) := by
  obtain ⟨p, hk⟩ := put_at hs hok hf j (by omega)
  have hlen : (fullP n).length = n.cs.length := by simp [fullP]
  have hj' : j < (fullP n).length := by omega
  have e : (fullP n).getD j [] = encC n.kind (cl_ n.cs j) := by rw [cl_lt hj]; simp [fullP, hj]
  have hB : IsB (encC n.kind (cl_ n.cs j)) := by rw [cl_lt hj]; exact encC_isB (hok _ (List.getElem_mem _))
  have e2 : (fullP n).take (j + 1) = (fullP n).take j ++ [(fullP n).getD j []] := by
    rw [List.take_succ_eq_append_getElem hj']
    simp [hj']
  have ht : takenC ((fullP n).take (j + 1)) ≤ takenC (fullP n) := by
    have := takenC_app ((fullP n).take (j + 1)) ((fullP n).drop (j + 1))
    rw [List.take_append_drop] at this
    omega
  have ht2 : takenC (fullP n) = takesN n.kind n.cs := taken_takes _ _
  rw [e2, takenC_app, takenC_one, e] at ht
  have h := p.step (encC n.kind (cl_ n.cs j)) hB (by unfold isSz at hs; omega)
  rw [hk] at h
  refine ⟨h.1, ?_⟩
  have := putAll_take (M := newM s 8) hj'
  rw [hk, e] at this
  exact this.symm
def Mdl.setF (M : Mdl) (F : List Int) : Mdl := { M with F := F }
theorem Good.setF {M : Mdl} (g : Good M) {F : List Int} (h : F.length = M.h) (hB : IsB F) : Good (M.setF F) := by
  have eh : (M.setF F).h = M.h := h
  have eu : ∀ k, (M.setF F).used k = M.used k := fun k => by show (M.setF F).h + 2 + 2 * k = M.h + 2 + 2 * k; rw [eh]
  exact ⟨g.n0, g.n1, by rw [eh]; exact g.h1, g.same, by rw [eu]; exact g.fit, fun j hj => by rw [eu]; exact g.lo j hj, g.hi, g.apart, hB, g.cb, by rw [eu]; exact g.room⟩
theorem IsP.setF {L L' : List Int} {M : Mdl} (p : IsP L M) {F : List Int} (h : F.length = M.h) (hl : L'.length = L.length) (hB : IsB L') (h1 : ∀ i, i < M.h → bt L' i = bt F i) (h2 : ∀ i, M.h ≤ i → bt L' i = bt L i) (g : Good M) : IsP L' (M.setF F) := by
  have eh : (M.setF F).h = M.h := h
  have eu : ∀ k, (M.setF F).used k = M.used k := fun k => by show (M.setF F).h + 2 + 2 * k = M.h + 2 + 2 * k; rw [eh]
  have ht : ∀ i, M.h ≤ i → tw L' i = tw L i := fun i hi => by unfold tw; rw [h2 i hi, h2 (i + 1) (by omega)]
  have hu : M.used M.k = M.h + 2 + 2 * M.k := rfl
  refine ⟨hl.trans p.len, hB, fun i hi => ?_, ?_, fun j hj => ?_, fun j hj => ?_, fun j hj t htt => ?_, fun x h3 h4 h5 => ?_⟩
  · rw [eh] at hi; exact h1 i hi
  · rw [eh, ht _ (Nat.le_refl _)]; exact p.many
  · rw [eh, ht _ (by omega)]; exact p.slots j hj
  · have := g.lo j hj
    show tw L' (M.pl j) = ((M.cl j).length : Int)
    rw [ht _ (by omega)]
    exact p.lens j hj
  · have := g.lo j hj
    show bt L' (M.pl j + 2 + t) = bt (M.cl j) t
    rw [h2 _ (by omega)]
    exact p.body j hj t htt
  · have h3' : M.used M.k ≤ x := by have e : (M.setF F).used (M.setF F).k = M.used M.k := eu _; omega
    rw [h2 x (by omega)]
    exact p.zero x h3' h4 h5
def nodeF (n : Nd) : List Int := n.kind :: 0 :: 0 :: 0 :: fxL n.right 4
theorem nodeF_len (n : Nd) : (nodeF n).length = 8 := by simp [nodeF, fxL_length]
theorem nodeF_isB {n : Nd} (h : isK n.kind) : IsB (nodeF n) := by
  intro x hx
  unfold nodeF at hx
  unfold isK at h
  rcases List.mem_cons.1 hx with rfl | hx
  · omega
  · rcases List.mem_cons.1 hx with rfl | hx
    · omega
    · rcases List.mem_cons.1 hx with rfl | hx
      · omega
      · rcases List.mem_cons.1 hx with rfl | hx
        · omega
        · exact fxL_isB _ _ x hx
def nodeM (n : Nd) (s : Nat) : Mdl := (putAll (newM s 8) (fullP n)).setF (nodeF n)
def okN (n : Nd) (s : Int) : Prop := isSz s ∧ mayN n
instance (n : Nd) (s : Int) : Decidable (okN n s) := by unfold okN; infer_instance
def fitN (n : Nd) (s : Int) : Prop := (takesN n.kind n.cs : Int) ≤ s - 10
instance (n : Nd) (s : Int) : Decidable (fitN n s) := by unfold fitN; infer_instance
theorem put_full {s : Nat} (hs : isSz (s : Int)) {n : Nd} (hok : ∀ c ∈ n.cs, IsB c.loc) (hf : fitN n (s : Int)) : PutS s (fullP n) (putAll (newM s 8) (fullP n)) := by
  have := (put_at hs hok hf n.cs.length (Nat.le_refl _)).1
  rwa [show (fullP n).take n.cs.length = fullP n by rw [show n.cs.length = (fullP n).length by simp [fullP], List.take_length]] at this
theorem nodeM_good {s : Nat} (hs : isSz (s : Int)) {n : Nd} (hm : mayN n) (hok : ∀ c ∈ n.cs, IsB c.loc) (hf : fitN n (s : Int)) : Good (nodeM n s) := by
  have p := put_full hs hok hf
  exact p.good.setF (by rw [nodeF_len, p.h]) (nodeF_isB hm.1.1)
/-- What Encode tells. -/
def EncN (w : World) (n : Nd) (s : Int) (e : Ending) (w' : World) : Prop :=
  Below w.heap.size w w' ∧ ((¬ okN n s ∧ e = .returned (.tuple #[.slice none 0 0, .int .i64 1])) ∨ (okN n s ∧ ¬ fitN n s ∧ e = .returned (.tuple #[.slice none 0 0, .int .i64 5])) ∨
    (okN n s ∧ fitN n s ∧ ∃ A m c L, e = .returned (.tuple #[.slice A m c, .int .i64 0]) ∧ IsP L (nodeM n s.toNat) ∧ OwnB w' w.heap.size A m c L))
end
section
open Go.RowKit
set_option maxRecDepth 100000
set_option linter.unusedVariables false
set_option linter.unusedSimpArgs false
set_option linter.unnecessarySimpa false
def NeRel (w W0 : World) (n : Nd) (N g gb : Nat) (iv : Value) (wr : World) : Prop :=
  ∃ (j : Nat) (L : List Int), j ≤ n.cs.length ∧ iv = .int .i64 j ∧ Pg wr g gb N 8 L [] ∧ IsP L (putAll (newM N 8) ((fullP n).take j)) ∧ Below W0.heap.size W0 wr
def NeRel2 (W0 w4 : World) (n : Nd) (N ob c4 : Nat) (L : List Int) (iv : Value) (wr : World) : Prop :=
  ∃ j : Nat, j ≤ 4 ∧ iv = .int .i64 j ∧ OwnB wr W0.heap.size (some ⟨ob, 0, none⟩) N c4 (splice (L.set 0 n.kind) 4 ((fxL n.right 4).take j)) ∧ Below W0.heap.size W0 wr

theorem bt_set (L : List Int) (i x : Nat) (v : Int) (hi : i < L.length) : bt (L.set i v) x = if x = i then v else bt L x := by
  unfold bt
  simp only [List.getD_eq_getElem?_getD, List.getElem?_set]
  by_cases h : i = x
  · subst h
    rw [if_pos rfl, if_pos hi, if_pos rfl]
    rfl
  · rw [if_neg h, if_neg (Ne.symm h)]
theorem head_page {L : List Int} {n : Nd} {N : Nat} (hN : 256 ≤ N) (p : PutS N (fullP n) (putAll (newM N 8) (fullP n))) (h : IsP L (putAll (newM N 8) (fullP n))) (hm : mayN n) : IsP (splice (L.set 0 n.kind) 4 (fxL n.right 4)) (nodeM n N) := by
  have hL : L.length = N := by rw [h.len, p.n]
  have hf4 : (fxL n.right 4).length = 4 := fxL_length _ _
  have hsl : 4 + (fxL n.right 4).length ≤ (L.set 0 n.kind).length := by rw [List.length_set]; omega
  have hk := hm.1.1
  unfold isK at hk
  have hkB : IsB (L.set 0 n.kind) := by
    intro x hx
    obtain ⟨i, hi, rfl⟩ := List.getElem_of_mem hx
    rw [List.getElem_set]
    split
    · omega
    · exact h.byts _ (List.getElem_mem _)
  refine IsP.setF h (by rw [nodeF_len, p.h]) (by rw [splice_len hsl, List.length_set]) (splice_isB hkB (fxL_isB _ _) _) (fun i hi => ?_) (fun i hi => ?_) p.good
  · rw [p.h] at hi
    rw [bt_splice hsl, hf4]
    by_cases h4 : 4 ≤ i
    · rw [if_pos (by omega)]
      have e : nodeF n = [n.kind, 0, 0, 0] ++ fxL n.right 4 := rfl
      have e2 := bt_appR [n.kind, 0, 0, 0] (fxL n.right 4) (i - 4)
      rw [e, show i = [n.kind, 0, 0, 0].length + (i - 4) by simp; omega, e2]
      congr 1
      simp
    · rw [if_neg (by omega), bt_set _ _ _ _ (by omega)]
      have hfr : ∀ i, i < 8 → bt L i = 0 := fun i hi => by
        rw [h.front i (by rw [p.h]; exact hi), p.F, bt_zeros]
      rcases (by omega : i = 0 ∨ i = 1 ∨ i = 2 ∨ i = 3) with rfl | rfl | rfl | rfl
      · rfl
      · rw [if_neg (by omega), hfr 1 (by omega)]; rfl
      · rw [if_neg (by omega), hfr 2 (by omega)]; rfl
      · rw [if_neg (by omega), hfr 3 (by omega)]; rfl
  · rw [p.h] at hi
    rw [bt_splice hsl, hf4, if_neg (by omega), bt_set _ _ _ _ (by omega), if_neg (by omega)]
theorem fx4 (r : Int) : bt (fxL r 4) 0 = r / 16777216 % 256 ∧ bt (fxL r 4) 1 = r / 65536 % 256 ∧ bt (fxL r 4) 2 = r / 256 % 256 ∧ bt (fxL r 4) 3 = r % 256 := by
  simp [fxL, bt]

set_option maxHeartbeats 64000000 in
theorem nEncode_any (w : World) (n : Nd) (A : Option Addr) (c : Nat) (s : Int) (hs : i64b s) (hn : n.cs.length ≤ 5000) (hok : NdOk n) (hl : ∀ d ∈ n.cs, d.loc.length ≤ 16384) (hA : RdCl w A n.cs) (R : Ending → World → Prop) (hR : R = EncN w n s) :
    Calls Try.prog 41 #[n.val A c, .int .i64 s] w R := by
  have HR := Lib.hid hR; clear hR
  have HOK := Lib.hid hok
  have HL := Lib.hid hl
  obtain ⟨W0, hW0⟩ : ∃ W, W = w.alloc (.cells #[.int .i64 n.kind, .slice A n.cs.length c, .int .i64 n.right] 69) := ⟨_, rfl⟩
  have HBX := Lib.hid (Bx.of hW0 hA)
  have HW := Lib.hid hW0
  clear hW0 hok hl hA
  have hB0 := HBX.out.bel
  have hs0 := HBX.out.sz
  have HL63 := Lib.hid (show ∀ d ∈ n.cs, (d.loc.length : Int) ≤ 9223372036854775807 from fun d hd => by have := HL.out d hd; omega)
  have HCK := Lib.hid (show ∀ d ∈ n.cs, ClOk d ∧ d.loc.length ≤ 16384 from fun d hd => ⟨HOK.out.2.2 d hd, HL.out d hd⟩)
  unfold Nd.val
  go_enter Try.func41, Try.ntmps41
  go_upto_region 1 with fail
  rw [← HW.out]
  clear HW
  go_wp2_with fail
  refine (isSize_any _ s hs).mono ?_
  rintro e w1 ⟨rfl, rfl⟩
  by_cases hsz : isSz s
  case neg =>
    have HF := Lib.hid (show ¬ okN n s from fun h => hsz h.1)
    rw [decide_eq_false hsz]
    clear hsz
    go_wp2_with fail
    rw [HR.out]
    exact ⟨hB0, .inl ⟨HF.out, rfl⟩⟩
  rw [decide_eq_true hsz]
  simp only []
  iterate 7 go_step
  refine wp_load_ndg rfl _ rfl w.heap.size n A c rfl HBX.out.at_ ?_
  go_wp2_with fail
  refine (right_any _ n A c (by omega) HOK.out HL63.out HBX.out.cs _ rfl).mono ?_
  rintro e w1 ⟨rfl, hb1⟩
  by_cases hm : mayN n
  case neg =>
    have HF := Lib.hid (show ¬ okN n s from fun h => hm h.2)
    rw [decide_eq_false hm]
    clear hm
    go_wp2_with fail
    rw [HR.out]
    exact ⟨hB0.trans (hb1.mono hs0), .inl ⟨HF.out, rfl⟩⟩
  rw [decide_eq_true hm]
  have HO := Lib.hid (show okN n s from ⟨hsz, hm⟩)
  have HAT1 := Lib.hid (HBX.out.at_.keep hb1)
  have HCS1 := Lib.hid (HBX.out.cs.keep hb1)
  have HM := Lib.hid hm
  have HSZ := Lib.hid hsz
  clear hm
  go_upto_region 3 with fail
  go_step
  refine wp_load_nd rfl _ rfl w.heap.size n A c rfl HAT1.out ?_
  go_wp2_with fail
  refine (fits_any _ n A c s hsz hn HCK.out HCS1.out).mono ?_
  rintro e w2 ⟨rfl, hb2⟩
  have hb02 : Below W0.heap.size W0 w2 := hb1.trans (hb2.mono hb1.size)
  by_cases hf : (takesN n.kind n.cs : Int) ≤ s - 10
  case neg =>
    have HF := Lib.hid (show ¬ fitN n s from hf)
    rw [decide_eq_false hf]
    clear hf
    go_wp2_with fail
    rw [HR.out]
    exact ⟨hB0.trans (hb02.mono hs0), .inr (.inl ⟨HO.out, HF.out, rfl⟩)⟩
  rw [decide_eq_true hf]
  have HFIT := Lib.hid (show fitN n s from hf)
  clear hf hb1 hb2 HAT1 HCS1
  obtain ⟨N, rfl⟩ := Int.eq_ofNat_of_zero_le (show 0 ≤ s by unfold isSz at hsz; omega)
  have hN0 : 256 ≤ N ∧ N ≤ 4096 := by unfold isSz at hsz; omega
  have hmay : mayP (N : Int) 8 := ⟨by omega, by omega, by omega, by omega⟩
  have HIB := Lib.hid (show ∀ d ∈ n.cs, IsB d.loc from fun d hd => (HOK.out.2.2 d hd).2)
  clear hsz
  go_wp2_with fail
  refine (pNew_any _ (N : Int) 8 hs (by omega) _ rfl).mono ?_
  rintro e w3 ⟨hb3, ⟨hno, _⟩ | ⟨_, g, gb, rfl, hg0, hgb0, hp⟩⟩
  · exact absurd hmay hno
  rw [Int.toNat_natCast, show (8 : Int).toNat = 8 from rfl] at hp
  have hb03 : Below W0.heap.size W0 w3 := hb02.trans (hb3.mono hb02.size)
  have HP3 := Lib.hid hp
  have hgb1 : W0.heap.size ≤ gb := by have := hb02.size; omega
  have HI3 := Lib.hid (new_page hmay)
  have q0 : ((0 : Int) != 0) = false := rfl
  have m1 := (HBX.out.at_.keep hb03).all.2.1
  have HHJ := Lib.hid (show ∀ j, j ≤ n.cs.length → (putAll (newM N 8) ((fullP n).take j)).h = 8 from fun j hj => (put_at HSZ.out HIB.out HFIT.out j hj).1.h)
  clear hp hb3 hb02 hmay hg0 hgb0
  go_wp2_with fail
  clear m1
  go_loopw [39] (NeRel w W0 n N g gb) (fun i _ => n.cs.length - (intOf i).toNat)
  case atStart => exact ⟨0, _, Nat.zero_le _, rfl, HP3.out, HI3.out, hb03⟩
  case round =>
    obtain ⟨j, L, hj, rfl, hpg, hip, hb⟩ := hrel
    have HP := Lib.hid hpg
    have HI := Lib.hid hip
    have hbz := hb.size
    clear hpg hip HP3 HI3
    by_cases hlt : j < n.cs.length
    · have hlt' : (j : Int) < (n.cs.length : Int) := by omega
      have i0 : (0 : Int) ≤ (j : Int) := by omega
      obtain ⟨b, off, hAe, hcell⟩ := (HBX.out.cs.keep hb).at (by omega)
      obtain ⟨LA, d, hrg, hd1, hd2, hrd⟩ := hcell j hlt
      have hmem : cl_ n.cs j ∈ n.cs := by rw [cl_lt hlt]; exact List.getElem_mem hlt
      have HPO := Lib.hid (put_ok HSZ.out HIB.out HFIT.out j hlt)
      obtain ⟨cl, hcl⟩ : ∃ x, cl_ n.cs j = x := ⟨_, rfl⟩
      rw [hcl] at hrg hd1 hrd hmem HPO
      have HCO := Lib.hid (HCK.out cl hmem)
      have HGK := Lib.hid (HM.out.2 cl hmem)
      have HAT := Lib.hid (HBX.out.at_.keep hb)
      have HRG := Lib.hid hrg
      have HRD := Lib.hid hrd
      subst hAe
      clear hcell hcl hmem hrg hrd
      go_upto_region 10 with fail
      iterate 7 go_step
      refine wp_load_clo rfl _ rfl b (off + j * 5) cl LA cl.loc.length d rfl HRG.out ?_
      obtain ⟨W6, hW6⟩ : ∃ W, W = wr.alloc (.cells #[.int .i64 0, .int .i64 0, .int .i64 0, .slice none 0 0, .int .i64 0] 55) := ⟨_, rfl⟩
      have hb6 : Below wr.heap.size wr W6 := by rw [hW6]; exact (Below.refl _ _).alloc (Nat.le_refl _) _
      have HT6 := Lib.hid (show W6.there wr.heap.size 0 5 by rw [hW6]; exact there_new5 wr _ _ _ _ _ _)
      have HW6 := Lib.hid hW6
      clear hW6
      iterate 6 go_step
      rw [← HW6.out]
      clear HW6
      refine wp_store_cl rfl _ _ rfl wr.heap.size cl LA cl.loc.length d rfl rfl HT6.out ?_
      obtain ⟨w7, hw7⟩ : ∃ W, W = W6.setCells wr.heap.size 0 (clC cl LA cl.loc.length d) := ⟨_, rfl⟩
      have hb7 : Below wr.heap.size wr w7 := by rw [hw7]; exact below_setCellsR hb6 (Nat.le_refl _) _ _
      have HR7 := Lib.hid (show w7.rangeAt wr.heap.size 0 (clC cl LA cl.loc.length d) by rw [hw7]; exact World.rangeAt_setCells_same _ _ _ _ HT6.out)
      have HRD7 := Lib.hid (HRD.out.keep hb7)
      have m0 := (HAT.out.keep hb7).all.1
      have HP7 := Lib.hid (HP.out.keep hb7)
      have hb07 : Below W0.heap.size W0 w7 := hb.trans (hb7.mono hbz)
      have hz7 := hb7.size
      rw [← hw7]
      clear hw7 hb6 HT6 HRD HRG hb7 HP
      go_upto_region 11 with fail
      iterate 7 go_step
      refine wp_load_clo rfl _ rfl wr.heap.size 0 cl LA cl.loc.length d rfl HR7.out ?_
      go_wp2_with fail
      refine (cencC_any _ n.kind cl LA cl.loc.length d HCO.out.1.1 hd1 hd2 rfl HRD7.out).mono ?_
      rintro e w8 ⟨A8, n8, c8, rfl, hl8, hc8, hm8, hr8, hb8, hblk⟩
      rw [show checkZ n.kind cl cl.loc.length = 0 from if_pos HGK.out]
      have HL8 := Lib.hid hl8
      have HR8 := Lib.hid hr8
      have HP8 := Lib.hid (HP7.out.keep hb8)
      have hgl := HP7.out.lt
      have hb08 : Below W0.heap.size W0 w8 := hb07.trans (hb8.mono hb07.size)
      have hn8 : n8 ≤ 16444 := by rw [← hl8]; exact encC_len HCO.out.1.1 HCO.out.2
      have HBK := Lib.hid (show ∀ a, A8 = some a → encC n.kind cl ≠ [] → a.block ≠ gb from fun a ha _ => by have := (hblk a ha).1; omega)
      have HEB := Lib.hid (show IsB (encC n.kind cl) from encC_isB HCO.out.1.2)
      clear hl8 hr8 hb8 hblk m0 HR7 HRD7 HP7
      go_wp2_with fail
      have hh := HHJ.out j (by omega)
      obtain ⟨pg, phk⟩ := put_at HSZ.out HIB.out HFIT.out j (by omega)
      refine (pIns_any _ g gb N L [] (putAll (newM N 8) ((fullP n).take j)) (by rw [hh]; exact HP8.out) HI.out pg.good (j : Int) (by omega) (by omega) A8 n8 c8 (encC n.kind cl) HL8.out (by omega) HR8.out HEB.out HBK.out _ rfl).mono ?_
      clear hh pg phk
      rintro e w9 ⟨rfl, hg9, L9, ⟨hp9, hm9⟩, hi9⟩
      rw [HPO.out.2] at hg9 hp9 hi9
      rw [HPO.out.1]
      rw [HHJ.out (j + 1) (by omega)] at hp9
      have HP9 := Lib.hid hp9
      have HI9 := Lib.hid hi9
      have hb09 : Below W0.heap.size W0 w9 := hm9.below hb08 hgb1 hb08.size
      clear hp9 hi9 hg9 hm9 HP8 HR8
      go_wp2_with fail
      go_roundw
      case rel => exact ⟨j + 1, L9, by omega, by go_num, HP9.out, HI9.out, hb09⟩
      case measure => simp [intOf]; omega
    · have hjn : j = n.cs.length := by omega
      have HIF := Lib.hid (show IsP L (putAll (newM N 8) (fullP n)) by
        have := HI.out
        rwa [hjn, show (fullP n).take n.cs.length = fullP n by rw [show n.cs.length = (fullP n).length by simp [fullP], List.take_length]] at this)
      have HPF := Lib.hid (put_full HSZ.out HIB.out HFIT.out)
      have hjn2 : ¬ (j : Int) < (n.cs.length : Int) := by omega
      have HLN := Lib.hid (show L.length = N by rw [HIF.out.len, HPF.out.n])
      clear hjn HI
      go_wp2_with fail
      refine (pBytes_any _ g gb N 8 L [] HP.out (by rw [HLN.out]; omega)).mono ?_
      rintro e w4 ⟨A4, n4, c4, rfl, hown4, hb4⟩
      have hn4 : N = n4 := by rw [← HLN.out]; exact hown4.len
      subst hn4
      obtain ⟨ob, hA4, hob, hobl⟩ := hown4.at (by omega)
      subst hA4
      have HO4 := Lib.hid hown4
      have hb04 : Below W0.heap.size W0 w4 := hb.trans (hb4.mono hbz)
      have hob0 : W0.heap.size ≤ ob := by omega
      clear hown4 hb4 HP
      -- its head
      have m0 := (HBX.out.at_.keep hb04).all.1
      have hk : IntKind.u8.wrap n.kind = n.kind := by
        have := HM.out.1.1
        unfold isK at this
        rw [IntKind.wrap_u8]
        omega
      have hc0 := HO4.out.cellAt 0 (by omega)
      have hf0 := HO4.out.frozenAt 0
      obtain ⟨u0, hu0⟩ : ∃ u, bt L 0 = u := ⟨_, rfl⟩
      rw [hu0] at hc0
      clear hu0
      go_upto_region 20 with fail
      obtain ⟨w5, hw5⟩ : ∃ W, W = w4.setCell ⟨ob, 0, none⟩ (.int .u8 n.kind) := ⟨_, rfl⟩
      have HO5 := Lib.hid (show OwnB w5 W0.heap.size (some ⟨ob, 0, none⟩) N c4 (L.set 0 n.kind) by rw [hw5]; exact (HO4.out.stored 0 n.kind).mono hbz)
      have hb05 : Below W0.heap.size W0 w5 := by rw [hw5]; exact hb04.setCell (by exact hob0) _
      rw [← hw5]
      clear hw5 m0 hc0 hf0 hk HO4 hb04
      go_wp2_with fail
      go_loopw [69] (NeRel2 W0 w5 n N ob c4 L) (fun i _ => 4 - (intOf i).toNat)
      case atStart => exact ⟨0, by omega, rfl, by rw [List.take_zero, splice_nil]; exact HO5.out, hb05⟩
      case round =>
        rename World => wk
        obtain ⟨k, hk4, rfl, hown, hbk⟩ := hrel
        have HOK2 := Lib.hid hown
        clear hown
        have m2 := (HBX.out.at_.keep hbk).all.2.2
        by_cases hlt4 : k < 4
        · rcases (by omega : k = 0 ∨ k = 1 ∨ k = 2 ∨ k = 3) with rfl | rfl | rfl | rfl
          · have hc1 := HOK2.out.cellAt (4 + 0) (by omega)
            have hf1 := HOK2.out.frozenAt (4 + 0)
            obtain ⟨u, hu⟩ : ∃ u, bt (splice (L.set 0 n.kind) 4 ((fxL n.right 4).take 0)) (4 + 0) = u := ⟨_, rfl⟩
            rw [hu] at hc1
            rw [show 4 + 0 = 4 from rfl] at hc1 hf1
            clear hu
            go_wp2_with fail
            go_roundw
            case rel =>
              have hst := HOK2.out.stored (4 + 0) (bt (fxL n.right 4) 0)
              rw [splice_step (by rw [List.length_set, fxL_length, HLN.out]; omega) (by rw [fxL_length]; omega)] at hst
              rw [(fx4 n.right).1] at hst
              exact ⟨1, by omega, rfl, hst, hbk.setCell (by exact hob0) _⟩
            case measure => simp [intOf]
          · have hc1 := HOK2.out.cellAt (4 + 1) (by omega)
            have hf1 := HOK2.out.frozenAt (4 + 1)
            obtain ⟨u, hu⟩ : ∃ u, bt (splice (L.set 0 n.kind) 4 ((fxL n.right 4).take 1)) (4 + 1) = u := ⟨_, rfl⟩
            rw [hu] at hc1
            rw [show 4 + 1 = 5 from rfl] at hc1 hf1
            clear hu
            go_wp2_with fail
            go_roundw
            case rel =>
              have hst := HOK2.out.stored (4 + 1) (bt (fxL n.right 4) 1)
              rw [splice_step (by rw [List.length_set, fxL_length, HLN.out]; omega) (by rw [fxL_length]; omega)] at hst
              rw [(fx4 n.right).2.1] at hst
              exact ⟨2, by omega, rfl, hst, hbk.setCell (by exact hob0) _⟩
            case measure => simp [intOf]
          · have hc1 := HOK2.out.cellAt (4 + 2) (by omega)
            have hf1 := HOK2.out.frozenAt (4 + 2)
            obtain ⟨u, hu⟩ : ∃ u, bt (splice (L.set 0 n.kind) 4 ((fxL n.right 4).take 2)) (4 + 2) = u := ⟨_, rfl⟩
            rw [hu] at hc1
            rw [show 4 + 2 = 6 from rfl] at hc1 hf1
            clear hu
            go_wp2_with fail
            go_roundw
            case rel =>
              have hst := HOK2.out.stored (4 + 2) (bt (fxL n.right 4) 2)
              rw [splice_step (by rw [List.length_set, fxL_length, HLN.out]; omega) (by rw [fxL_length]; omega)] at hst
              rw [(fx4 n.right).2.2.1] at hst
              exact ⟨3, by omega, rfl, hst, hbk.setCell (by exact hob0) _⟩
            case measure => simp [intOf]
          · have hc1 := HOK2.out.cellAt (4 + 3) (by omega)
            have hf1 := HOK2.out.frozenAt (4 + 3)
            obtain ⟨u, hu⟩ : ∃ u, bt (splice (L.set 0 n.kind) 4 ((fxL n.right 4).take 3)) (4 + 3) = u := ⟨_, rfl⟩
            rw [hu] at hc1
            rw [show 4 + 3 = 7 from rfl] at hc1 hf1
            clear hu
            go_wp2_with fail
            go_roundw
            case rel =>
              have hst := HOK2.out.stored (4 + 3) (bt (fxL n.right 4) 3)
              rw [splice_step (by rw [List.length_set, fxL_length, HLN.out]; omega) (by rw [fxL_length]; omega)] at hst
              rw [(fx4 n.right).2.2.2] at hst
              exact ⟨4, by omega, rfl, hst, hbk.setCell (by exact hob0) _⟩
            case measure => simp [intOf]
        · obtain rfl : k = 4 := by omega
          have HOF := Lib.hid (show OwnB wk W0.heap.size (some ⟨ob, 0, none⟩) N c4 (splice (L.set 0 n.kind) 4 (fxL n.right 4)) by
            have := HOK2.out
            rwa [show (fxL n.right 4).take 4 = fxL n.right 4 from List.take_of_length_le (by rw [fxL_length]; exact Nat.le_refl _)] at this)
          clear HOK2
          go_wp2_with fail
          rw [HR.out]
          exact ⟨hB0.trans (hbk.mono hs0), .inr (.inr ⟨HO.out, HFIT.out, _, _, _, _, rfl, by rw [Int.toNat_natCast]; exact head_page (by omega) HPF.out HIF.out HM.out, HOF.out.mono hs0⟩)⟩
end
end Go.Proofs.Ytoeaffmlolapnaa
