/- Several texts of this proof as one: NeG. Laid by merge.py. -/
import Derived.Test.YtoeaffmlolapnaaNpA
import Derived.Test.YtoeaffmlolapnaaNpB
import Derived.Test.YtoeaffmlolapnaaNpC
import Derived.Test.YtoeaffmlolapnaaNpD
import Derived.Test.YtoeaffmlolapnaaNpE
import Derived.Test.YtoeaffmlolapnaaNpF
import Derived.Test.YtoeaffmlolapnaaNpG
import Derived.Test.YtoeaffmlolapnaaNpH
import Derived.Test.YtoeaffmlolapnaaNpI
import Derived.Test.YtoeaffmlolapnaaNpJ
import Derived.Test.YtoeaffmlolapnaaNpK
import Derived.Test.YtoeaffmlolapnaaNpL
import Derived.Test.YtoeaffmlolapnaaNpM
import Derived.Test.YtoeaffmlolapnaaNpN
import Derived.Test.YtoeaffmlolapnaaNpO
import Derived.Test.YtoeaffmlolapnaaNpP
import Derived.Test.YtoeaffmlolapnaaNpQ
import Derived.Test.YtoeaffmlolapnaaNpR
import Derived.Test.YtoeaffmlolapnaaNpS
import Derived.Test.YtoeaffmlolapnaaNpT
import Derived.Test.YtoeaffmlolapnaaNpU
import Derived.ArgAppend
import Derived.BigQuiet
import Derived.ChangeOld
import Derived.Deep.DeepCutAuto
import Derived.Deep.Matrix
import Derived.Deep.MidRow
import Derived.Deep.QuietTactic
import Derived.Deep.RegionHeld3
import Derived.Deep.Slices
import Derived.Handy
import Derived.Laws.CopyOwn
import Derived.Laws.Externs
import Derived.Laws.ResultCell
import Derived.Lib.AppendStr
import Derived.Lib.Hide
import Derived.Lib.MakeNoZero
import Derived.Lib.SlBuf
import Derived.Lib.SliceRun
import Derived.Lib.SmallJoins
import Derived.Maps.AppendAt
import Derived.OpenShut
import Derived.ProofKit
import Derived.ShutString
import Derived.SizedLaws
import Derived.Test.YtoeaffmlolapnaaProg
import Derived.WalkKit
import Derived.WalkSpells
namespace Go.Proofs.Ytoeaffmlolapnaa
section
open Go.RowKit
set_option maxRecDepth 100000
set_option linter.unusedVariables false
set_option linter.unusedSimpArgs false
set_option linter.unnecessarySimpa false
set_option maxHeartbeats 64000000 in
/-- Over few_any, split_any, rSize_any, rMay_any, rTakes_any, same19_any, short_any, parted_any, live19_any. -/
theorem nodeParts_walk (w : World) (n : Nd) (A : Option Addr) (c : Nat) (s : Int) (ok : NdOk n) (hl : n.cs.length ≤ c) (hm : c ≤ maxLen) (hA : RdCl w A n.cs) (hs : -9223372036854775808 ≤ s ∧ s ≤ 9223372036854775807) :
    Calls Try.prog 14 #[n.val A c, .int .i64 s] w fun e w' => e = .returned (.bool true) ∧ Below w.heap.size w w' := by
  have HOK := Lib.hid ok
  obtain ⟨W0, hW0⟩ : ∃ W, W = w.alloc (.cells #[.int .i64 n.kind, .slice A n.cs.length c, .int .i64 n.right] 69) := ⟨_, rfl⟩
  have HBX := Lib.hid (Bx.of hW0 hA)
  have HW := Lib.hid hW0
  clear hW0 ok hA
  have hB0 := HBX.out.bel
  have hs0 := HBX.out.sz
  unfold Nd.val
  go_enter Try.func14, Try.ntmps14
  go_upto_region 1 with fail
  rw [← HW.out]
  clear HW
  go_step
  refine wp_load_nd rfl _ rfl w.heap.size n A c rfl HBX.out.at_ ?_
  go_wp2_with fail
  refine (few_any _ n A c hl hm HBX.out.cs _ rfl).mono ?_
  rintro e w1 ⟨rfl, hb1⟩
  by_cases hfw : fewN n
  case neg =>
    rw [decide_eq_false hfw]
    clear hfw
    go_wp2_with fail
    refine (live19_any _ _ rfl).mono ?_
    rintro e w2 ⟨rfl, hb2⟩
    have hb02 : Below W0.heap.size W0 w2 := hb1.trans (hb2.mono hb1.size)
    have hbe := hB0.trans (hb02.mono hs0)
    go_wp2_with fail
    go_ret
    exact ⟨rfl, hbe⟩
  rw [decide_eq_true hfw]
  have HFW := Lib.hid hfw
  have hl4 : n.cs.length ≤ 400 := hfw.1
  clear hfw
  go_wp2_with fail
  go_loopw [5] (fun iv wr => ∃ i : Nat, 1 ≤ i ∧ iv = .int .i64 (i : Int) ∧ i ≤ n.cs.length + 1 ∧ Below W0.heap.size W0 wr) (fun i _ => n.cs.length + 1 - (intOf i).toNat)
  case atStart => exact ⟨1, Nat.le_refl _, rfl, by omega, hb1⟩
  case round =>
    obtain ⟨i, hi1, rfl, hi2, hbr⟩ := hrel
    have HAT := Lib.hid (HBX.out.at_.keep hbr)
    have HCS := Lib.hid (HBX.out.cs.keep hbr)
    have hlw : w.heap.size < wr.heap.size := HAT.out.lt
    by_cases hlt : i < n.cs.length
    · have hlt' : (i : Int) < (n.cs.length : Int) := by omega
      have i0 : (0 : Int) ≤ (i : Int) := by omega
      have m1 := HAT.out.all.2.1
      have F0 : ∀ W : World, Below wr.heap.size wr W → W.cell? ⟨w.heap.size, 0, none⟩ = some (.int .i64 n.kind) := fun W hW => (HAT.out.keep hW).all.1
      go_upto_region 6 with fail
      clear m1
      by_cases hk : n.kind = 1
      · have qk : (n.kind == 1) = true := by simp [hk]
        obtain ⟨b, off, hAe, hcell⟩ := HCS.out.at (by omega)
        obtain ⟨LA, d, hrg, _, _, _⟩ := hcell i hlt
        obtain ⟨LA2, d2, hrg2, _, _, _⟩ := hcell (i - 1) (by omega)
        have hk1 := hrg 0 _ rfl
        have hk0 := hrg2 0 _ rfl
        rw [Nat.add_zero] at hk1 hk0
        obtain ⟨j, hj⟩ : ∃ j, i - 1 = j := ⟨_, rfl⟩
        rw [hj] at hk0
        obtain ⟨y1, hy1⟩ : ∃ y, (cl_ n.cs i).key = y := ⟨_, rfl⟩
        obtain ⟨y0, hy0⟩ : ∃ y, (cl_ n.cs j).key = y := ⟨_, rfl⟩
        rw [hy1] at hk1
        rw [hy0] at hk0
        have hb : b < wr.heap.size := World.block_lt_of_cell? wr _ hk1
        have hsub : (i : Int) - 1 = (j : Int) := by omega
        have hwj : IntKind.i64.wrap (j : Int) = (j : Int) := IntWalk.i64_in _ (by omega)
        have j0 : (0 : Int) ≤ (j : Int) := by omega
        have hj1 : (j : Int) < (n.cs.length : Int) := by omega
        have F1 : ∀ W : World, Below wr.heap.size wr W → W.cell? ⟨w.heap.size, 1, none⟩ = some (.slice (some ⟨b, off, none⟩) n.cs.length c) := fun W hW => by rw [← hAe]; exact (HAT.out.keep hW).all.2.1
        have G1 : ∀ W : World, Below wr.heap.size wr W → W.cell? ⟨b, off + i * 5, none⟩ = some (.int .i64 y1) := fun W hW => (hW.cell (p := ⟨b, off + i * 5, none⟩) hb).trans hk1
        have G0 : ∀ W : World, Below wr.heap.size wr W → W.cell? ⟨b, off + j * 5, none⟩ = some (.int .i64 y0) := fun W hW => (hW.cell (p := ⟨b, off + j * 5, none⟩) hb).trans hk0
        clear hk hcell hrg hrg2 hk1 hk0 hj hy1 hy0 hAe
        by_cases hle : y1 ≤ y0
        · skip
          have hle' : y1 ≤ y0 := hle
          refine wp_region_held_drew (S := (fun W => Below wr.heap.size wr W)) (by kernel_rfl) ?_ (fun hHeld => ?_)
          · exact (Below.refl _ wr).drew
          refine' wpAnyH_take (i := 0) (oi := _) (v := _) rfl (by kernel_rfl) (by kernel_rfl) (by kernel_rfl) (fun _ _ _ h => h) (Or.inl ⟨by rfl, ?hz87⟩) (by assumption) ?rezt87
          case hz87 => (intro w' hSw; (try dsimp only at hSw); go_simp; try with_reducible rfl)
          try simp only [Act.put, List.setIfInBounds_toArray, List.set_cons_zero, List.set_cons_succ, List.getElem_toArray, List.getElem_cons_zero, List.getElem_cons_succ]
          refine' wpAnyH_take (i := 1) (oi := _) (v := _) rfl (by kernel_rfl) (by kernel_rfl) (by kernel_rfl) (fun _ _ _ h => h) (Or.inl ⟨by rfl, ?hz88⟩) (by assumption) ?rezt88
          case hz88 => (intro w' hSw; (try dsimp only at hSw); go_simp; try with_reducible rfl)
          try simp only [Act.put, List.setIfInBounds_toArray, List.set_cons_zero, List.set_cons_succ, List.getElem_toArray, List.getElem_cons_zero, List.getElem_cons_succ]
          refine' wpAnyH_take (i := 2) (oi := _) (v := _) rfl (by kernel_rfl) (by kernel_rfl) (by kernel_rfl) (fun _ _ _ h => h) (Or.inl ⟨by rfl, ?hz89⟩) (by assumption) ?rezt89
          case hz89 => (intro w' hSw; (try dsimp only at hSw); go_simp; try with_reducible rfl)
          try simp only [Act.put, List.setIfInBounds_toArray, List.set_cons_zero, List.set_cons_succ, List.getElem_toArray, List.getElem_cons_zero, List.getElem_cons_succ]
          refine' wpAnyH_take (i := 3) (oi := _) (v := _) rfl (by kernel_rfl) (by kernel_rfl) (by kernel_rfl) (fun _ _ _ h => h) (Or.inl ⟨by rfl, ?hz90⟩) (by assumption) ?rezt90
          case hz90 => (intro w' hSw; (try dsimp only at hSw); go_simp; try with_reducible rfl)
          try simp only [Act.put, List.setIfInBounds_toArray, List.set_cons_zero, List.set_cons_succ, List.getElem_toArray, List.getElem_cons_zero, List.getElem_cons_succ]
          refine' wpAnyH_take (i := 4) (oi := _) (v := _) rfl (by kernel_rfl) (by kernel_rfl) (by kernel_rfl) (fun _ _ _ h => h) (Or.inl ⟨by rfl, ?hz91⟩) (by assumption) ?rezt91
          case hz91 => (intro w' hSw; (try dsimp only at hSw); go_simp; try with_reducible rfl)
          try simp only [Act.put, List.setIfInBounds_toArray, List.set_cons_zero, List.set_cons_succ, List.getElem_toArray, List.getElem_cons_zero, List.getElem_cons_succ]
          refine' wpAnyH_take (i := 5) (oi := _) (v := _) rfl (by kernel_rfl) (by kernel_rfl) (by kernel_rfl) (fun _ _ _ h => h) (Or.inl ⟨by rfl, ?hz92⟩) (by assumption) ?rezt92
          case hz92 => (intro w' hSw; (try dsimp only at hSw); go_simp; try with_reducible rfl)
          try simp only [Act.put, List.setIfInBounds_toArray, List.set_cons_zero, List.set_cons_succ, List.getElem_toArray, List.getElem_cons_zero, List.getElem_cons_succ]
          refine' wpAnyH_take (i := 6) (oi := _) (v := _) rfl (by kernel_rfl) (by kernel_rfl) (by kernel_rfl) (fun _ _ _ h => h) (Or.inl ⟨by rfl, ?hz93⟩) (by assumption) ?rezt93
          case hz93 => (intro w' hSw; (try dsimp only at hSw); go_simp; try with_reducible rfl)
          try simp only [Act.put, List.setIfInBounds_toArray, List.set_cons_zero, List.set_cons_succ, List.getElem_toArray, List.getElem_cons_zero, List.getElem_cons_succ]
          refine' wpAnyH_take (i := 7) (oi := _) (v := _) rfl (by kernel_rfl) (by kernel_rfl) (by kernel_rfl) (fun _ _ _ h => h) (Or.inl ⟨by rfl, ?hz94⟩) (by assumption) ?rezt94
          case hz94 => (intro w' hSw; (try dsimp only at hSw); go_simp; try with_reducible rfl)
          try simp only [Act.put, List.setIfInBounds_toArray, List.set_cons_zero, List.set_cons_succ, List.getElem_toArray, List.getElem_cons_zero, List.getElem_cons_succ]
          refine' wpAnyH_take (i := 8) (oi := _) (v := _) rfl (by kernel_rfl) (by kernel_rfl) (by kernel_rfl) (fun _ _ _ h => h) (Or.inl ⟨by rfl, ?hz95⟩) (by assumption) ?rezt95
          case hz95 => (intro w' hSw; (try dsimp only at hSw); go_simp; try with_reducible rfl)
          try simp only [Act.put, List.setIfInBounds_toArray, List.set_cons_zero, List.set_cons_succ, List.getElem_toArray, List.getElem_cons_zero, List.getElem_cons_succ]
          refine' wpAnyH_take (i := 9) (oi := _) (v := _) rfl (by kernel_rfl) (by kernel_rfl) (by kernel_rfl) (fun _ _ _ h => h) (Or.inl ⟨by rfl, ?hz96⟩) (by assumption) ?rezt96
          case hz96 => (intro w' hSw; (try dsimp only at hSw); go_simp; try with_reducible rfl)
          try simp only [Act.put, List.setIfInBounds_toArray, List.set_cons_zero, List.set_cons_succ, List.getElem_toArray, List.getElem_cons_zero, List.getElem_cons_succ]
          refine' wpAnyH_take (i := 10) (oi := _) (v := _) rfl (by kernel_rfl) (by kernel_rfl) (by kernel_rfl) (fun _ _ _ h => h) (Or.inl ⟨by rfl, ?hz97⟩) (by assumption) ?rezt97
          case hz97 => (intro w' hSw; (try dsimp only at hSw); go_simp; try with_reducible rfl)
          try simp only [Act.put, List.setIfInBounds_toArray, List.set_cons_zero, List.set_cons_succ, List.getElem_toArray, List.getElem_cons_zero, List.getElem_cons_succ]
          refine' wpAnyH_take (i := 11) (oi := _) (v := _) rfl (by kernel_rfl) (by kernel_rfl) (by kernel_rfl) (fun _ _ _ h => h) (Or.inl ⟨by rfl, ?hz98⟩) (by assumption) ?rezt98
          case hz98 => (intro w' hSw; (try dsimp only at hSw); go_simp; try with_reducible rfl)
          try simp only [Act.put, List.setIfInBounds_toArray, List.set_cons_zero, List.set_cons_succ, List.getElem_toArray, List.getElem_cons_zero, List.getElem_cons_succ]
          refine' wpAnyH_take (i := 12) (oi := _) (v := _) rfl (by kernel_rfl) (by kernel_rfl) (by kernel_rfl) (fun _ _ _ h => h) (Or.inl ⟨by rfl, ?hz99⟩) (by assumption) ?rezt99
          case hz99 => (intro w' hSw; (try dsimp only at hSw); go_simp; try with_reducible rfl)
          try simp only [Act.put, List.setIfInBounds_toArray, List.set_cons_zero, List.set_cons_succ, List.getElem_toArray, List.getElem_cons_zero, List.getElem_cons_succ]
          refine' wpAnyH_take (i := 13) (oi := _) (v := _) rfl (by kernel_rfl) (by kernel_rfl) (by kernel_rfl) (fun _ _ _ h => h) (Or.inl ⟨by rfl, ?hz100⟩) (by assumption) ?rezt100
          case hz100 => (intro w' hSw; (try dsimp only at hSw); go_simp; try with_reducible rfl)
          try simp only [Act.put, List.setIfInBounds_toArray, List.set_cons_zero, List.set_cons_succ, List.getElem_toArray, List.getElem_cons_zero, List.getElem_cons_succ]
          refine' wpAnyH_take (i := 14) (oi := _) (v := _) rfl (by kernel_rfl) (by kernel_rfl) (by kernel_rfl) (fun _ _ _ h => h) (Or.inl ⟨by rfl, ?hz101⟩) (by assumption) ?rezt101
          case hz101 => (intro w' hSw; (try dsimp only at hSw); go_simp; try with_reducible rfl)
          try simp only [Act.put, List.setIfInBounds_toArray, List.set_cons_zero, List.set_cons_succ, List.getElem_toArray, List.getElem_cons_zero, List.getElem_cons_succ]
          refine' wpAnyH_take (i := 15) (oi := _) (v := _) rfl (by kernel_rfl) (by kernel_rfl) (by kernel_rfl) (fun _ _ _ h => h) (Or.inl ⟨by rfl, ?hz102⟩) (by assumption) ?rezt102
          case hz102 => (intro w' hSw; (try dsimp only at hSw); go_simp; try with_reducible rfl)
          try simp only [Act.put, List.setIfInBounds_toArray, List.set_cons_zero, List.set_cons_succ, List.getElem_toArray, List.getElem_cons_zero, List.getElem_cons_succ]
          refine' wpAnyH_take (i := 16) (oi := _) (v := _) rfl (by kernel_rfl) (by kernel_rfl) (by kernel_rfl) (fun _ _ _ h => h) (Or.inl ⟨by rfl, ?hz103⟩) (by assumption) ?rezt103
          case hz103 => (intro w' hSw; (try dsimp only at hSw); go_simp; try with_reducible rfl)
          try simp only [Act.put, List.setIfInBounds_toArray, List.set_cons_zero, List.set_cons_succ, List.getElem_toArray, List.getElem_cons_zero, List.getElem_cons_succ]
          refine' wpAnyH_take (i := 17) (oi := _) (v := _) rfl (by kernel_rfl) (by kernel_rfl) (by kernel_rfl) (fun _ _ _ h => h) (Or.inl ⟨by rfl, ?hz104⟩) (by assumption) ?rezt104
          case hz104 => (intro w' hSw; (try dsimp only at hSw); go_simp; try with_reducible rfl)
          try simp only [Act.put, List.setIfInBounds_toArray, List.set_cons_zero, List.set_cons_succ, List.getElem_toArray, List.getElem_cons_zero, List.getElem_cons_succ]
          refine' wpAnyH_take (i := 18) (oi := _) (v := _) rfl (by kernel_rfl) (by kernel_rfl) (by kernel_rfl) (fun _ _ _ h => h) (Or.inl ⟨by rfl, ?hz105⟩) (by assumption) ?rezt105
          case hz105 => (intro w' hSw; (try dsimp only at hSw); go_simp; try with_reducible rfl)
          try simp only [Act.put, List.setIfInBounds_toArray, List.set_cons_zero, List.set_cons_succ, List.getElem_toArray, List.getElem_cons_zero, List.getElem_cons_succ]
          refine wpAnyH_done (by kernel_rfl) ?_ _
          clear F0 F1 G0 G1
          go_wp2_with fail
          refine (live19_any _ _ rfl).mono ?_
          rintro e w2 ⟨rfl, hb2⟩
          have hbd : Below W0.heap.size W0 wr.drew := hbr.drew
          have hbe := hB0.trans ((hbd.trans (hb2.mono hbd.size)).mono hs0)
          go_wp2_with fail
          go_ret
          exact ⟨rfl, hbe⟩
        · skip
          have hle' : ¬ y1 ≤ y0 := hle
          refine wp_region_held_drew (S := (fun W => Below wr.heap.size wr W)) (by kernel_rfl) ?_ (fun hHeld => ?_)
          · exact (Below.refl _ wr).drew
          refine' wpAnyH_take (i := 0) (oi := _) (v := _) rfl (by kernel_rfl) (by kernel_rfl) (by kernel_rfl) (fun _ _ _ h => h) (Or.inl ⟨by rfl, ?hz106⟩) (by assumption) ?rezt106
          case hz106 => (intro w' hSw; (try dsimp only at hSw); go_simp; try with_reducible rfl)
          try simp only [Act.put, List.setIfInBounds_toArray, List.set_cons_zero, List.set_cons_succ, List.getElem_toArray, List.getElem_cons_zero, List.getElem_cons_succ]
          refine' wpAnyH_take (i := 1) (oi := _) (v := _) rfl (by kernel_rfl) (by kernel_rfl) (by kernel_rfl) (fun _ _ _ h => h) (Or.inl ⟨by rfl, ?hz107⟩) (by assumption) ?rezt107
          case hz107 => (intro w' hSw; (try dsimp only at hSw); go_simp; try with_reducible rfl)
          try simp only [Act.put, List.setIfInBounds_toArray, List.set_cons_zero, List.set_cons_succ, List.getElem_toArray, List.getElem_cons_zero, List.getElem_cons_succ]
          refine' wpAnyH_take (i := 2) (oi := _) (v := _) rfl (by kernel_rfl) (by kernel_rfl) (by kernel_rfl) (fun _ _ _ h => h) (Or.inl ⟨by rfl, ?hz108⟩) (by assumption) ?rezt108
          case hz108 => (intro w' hSw; (try dsimp only at hSw); go_simp; try with_reducible rfl)
          try simp only [Act.put, List.setIfInBounds_toArray, List.set_cons_zero, List.set_cons_succ, List.getElem_toArray, List.getElem_cons_zero, List.getElem_cons_succ]
          refine' wpAnyH_take (i := 3) (oi := _) (v := _) rfl (by kernel_rfl) (by kernel_rfl) (by kernel_rfl) (fun _ _ _ h => h) (Or.inl ⟨by rfl, ?hz109⟩) (by assumption) ?rezt109
          case hz109 => (intro w' hSw; (try dsimp only at hSw); go_simp; try with_reducible rfl)
          try simp only [Act.put, List.setIfInBounds_toArray, List.set_cons_zero, List.set_cons_succ, List.getElem_toArray, List.getElem_cons_zero, List.getElem_cons_succ]
          refine' wpAnyH_take (i := 4) (oi := _) (v := _) rfl (by kernel_rfl) (by kernel_rfl) (by kernel_rfl) (fun _ _ _ h => h) (Or.inl ⟨by rfl, ?hz110⟩) (by assumption) ?rezt110
          case hz110 => (intro w' hSw; (try dsimp only at hSw); go_simp; try with_reducible rfl)
          try simp only [Act.put, List.setIfInBounds_toArray, List.set_cons_zero, List.set_cons_succ, List.getElem_toArray, List.getElem_cons_zero, List.getElem_cons_succ]
          refine' wpAnyH_take (i := 5) (oi := _) (v := _) rfl (by kernel_rfl) (by kernel_rfl) (by kernel_rfl) (fun _ _ _ h => h) (Or.inl ⟨by rfl, ?hz111⟩) (by assumption) ?rezt111
          case hz111 => (intro w' hSw; (try dsimp only at hSw); go_simp; try with_reducible rfl)
          try simp only [Act.put, List.setIfInBounds_toArray, List.set_cons_zero, List.set_cons_succ, List.getElem_toArray, List.getElem_cons_zero, List.getElem_cons_succ]
          refine' wpAnyH_take (i := 6) (oi := _) (v := _) rfl (by kernel_rfl) (by kernel_rfl) (by kernel_rfl) (fun _ _ _ h => h) (Or.inl ⟨by rfl, ?hz112⟩) (by assumption) ?rezt112
          case hz112 => (intro w' hSw; (try dsimp only at hSw); go_simp; try with_reducible rfl)
          try simp only [Act.put, List.setIfInBounds_toArray, List.set_cons_zero, List.set_cons_succ, List.getElem_toArray, List.getElem_cons_zero, List.getElem_cons_succ]
          refine' wpAnyH_take (i := 7) (oi := _) (v := _) rfl (by kernel_rfl) (by kernel_rfl) (by kernel_rfl) (fun _ _ _ h => h) (Or.inl ⟨by rfl, ?hz113⟩) (by assumption) ?rezt113
          case hz113 => (intro w' hSw; (try dsimp only at hSw); go_simp; try with_reducible rfl)
          try simp only [Act.put, List.setIfInBounds_toArray, List.set_cons_zero, List.set_cons_succ, List.getElem_toArray, List.getElem_cons_zero, List.getElem_cons_succ]
          refine' wpAnyH_take (i := 8) (oi := _) (v := _) rfl (by kernel_rfl) (by kernel_rfl) (by kernel_rfl) (fun _ _ _ h => h) (Or.inl ⟨by rfl, ?hz114⟩) (by assumption) ?rezt114
          case hz114 => (intro w' hSw; (try dsimp only at hSw); go_simp; try with_reducible rfl)
          try simp only [Act.put, List.setIfInBounds_toArray, List.set_cons_zero, List.set_cons_succ, List.getElem_toArray, List.getElem_cons_zero, List.getElem_cons_succ]
          refine' wpAnyH_take (i := 9) (oi := _) (v := _) rfl (by kernel_rfl) (by kernel_rfl) (by kernel_rfl) (fun _ _ _ h => h) (Or.inl ⟨by rfl, ?hz115⟩) (by assumption) ?rezt115
          case hz115 => (intro w' hSw; (try dsimp only at hSw); go_simp; try with_reducible rfl)
          try simp only [Act.put, List.setIfInBounds_toArray, List.set_cons_zero, List.set_cons_succ, List.getElem_toArray, List.getElem_cons_zero, List.getElem_cons_succ]
          refine' wpAnyH_take (i := 10) (oi := _) (v := _) rfl (by kernel_rfl) (by kernel_rfl) (by kernel_rfl) (fun _ _ _ h => h) (Or.inl ⟨by rfl, ?hz116⟩) (by assumption) ?rezt116
          case hz116 => (intro w' hSw; (try dsimp only at hSw); go_simp; try with_reducible rfl)
          try simp only [Act.put, List.setIfInBounds_toArray, List.set_cons_zero, List.set_cons_succ, List.getElem_toArray, List.getElem_cons_zero, List.getElem_cons_succ]
          refine' wpAnyH_take (i := 11) (oi := _) (v := _) rfl (by kernel_rfl) (by kernel_rfl) (by kernel_rfl) (fun _ _ _ h => h) (Or.inl ⟨by rfl, ?hz117⟩) (by assumption) ?rezt117
          case hz117 => (intro w' hSw; (try dsimp only at hSw); go_simp; try with_reducible rfl)
          try simp only [Act.put, List.setIfInBounds_toArray, List.set_cons_zero, List.set_cons_succ, List.getElem_toArray, List.getElem_cons_zero, List.getElem_cons_succ]
          refine' wpAnyH_take (i := 12) (oi := _) (v := _) rfl (by kernel_rfl) (by kernel_rfl) (by kernel_rfl) (fun _ _ _ h => h) (Or.inl ⟨by rfl, ?hz118⟩) (by assumption) ?rezt118
          case hz118 => (intro w' hSw; (try dsimp only at hSw); go_simp; try with_reducible rfl)
          try simp only [Act.put, List.setIfInBounds_toArray, List.set_cons_zero, List.set_cons_succ, List.getElem_toArray, List.getElem_cons_zero, List.getElem_cons_succ]
          refine' wpAnyH_take (i := 13) (oi := _) (v := _) rfl (by kernel_rfl) (by kernel_rfl) (by kernel_rfl) (fun _ _ _ h => h) (Or.inl ⟨by rfl, ?hz119⟩) (by assumption) ?rezt119
          case hz119 => (intro w' hSw; (try dsimp only at hSw); go_simp; try with_reducible rfl)
          try simp only [Act.put, List.setIfInBounds_toArray, List.set_cons_zero, List.set_cons_succ, List.getElem_toArray, List.getElem_cons_zero, List.getElem_cons_succ]
          refine' wpAnyH_take (i := 14) (oi := _) (v := _) rfl (by kernel_rfl) (by kernel_rfl) (by kernel_rfl) (fun _ _ _ h => h) (Or.inl ⟨by rfl, ?hz120⟩) (by assumption) ?rezt120
          case hz120 => (intro w' hSw; (try dsimp only at hSw); go_simp; try with_reducible rfl)
          try simp only [Act.put, List.setIfInBounds_toArray, List.set_cons_zero, List.set_cons_succ, List.getElem_toArray, List.getElem_cons_zero, List.getElem_cons_succ]
          refine' wpAnyH_take (i := 15) (oi := _) (v := _) rfl (by kernel_rfl) (by kernel_rfl) (by kernel_rfl) (fun _ _ _ h => h) (Or.inl ⟨by rfl, ?hz121⟩) (by assumption) ?rezt121
          case hz121 => (intro w' hSw; (try dsimp only at hSw); go_simp; try with_reducible rfl)
          try simp only [Act.put, List.setIfInBounds_toArray, List.set_cons_zero, List.set_cons_succ, List.getElem_toArray, List.getElem_cons_zero, List.getElem_cons_succ]
          refine' wpAnyH_take (i := 16) (oi := _) (v := _) rfl (by kernel_rfl) (by kernel_rfl) (by kernel_rfl) (fun _ _ _ h => h) (Or.inl ⟨by rfl, ?hz122⟩) (by assumption) ?rezt122
          case hz122 => (intro w' hSw; (try dsimp only at hSw); go_simp; try with_reducible rfl)
          try simp only [Act.put, List.setIfInBounds_toArray, List.set_cons_zero, List.set_cons_succ, List.getElem_toArray, List.getElem_cons_zero, List.getElem_cons_succ]
          refine' wpAnyH_take (i := 17) (oi := _) (v := _) rfl (by kernel_rfl) (by kernel_rfl) (by kernel_rfl) (fun _ _ _ h => h) (Or.inl ⟨by rfl, ?hz123⟩) (by assumption) ?rezt123
          case hz123 => (intro w' hSw; (try dsimp only at hSw); go_simp; try with_reducible rfl)
          try simp only [Act.put, List.setIfInBounds_toArray, List.set_cons_zero, List.set_cons_succ, List.getElem_toArray, List.getElem_cons_zero, List.getElem_cons_succ]
          refine' wpAnyH_take (i := 18) (oi := _) (v := _) rfl (by kernel_rfl) (by kernel_rfl) (by kernel_rfl) (fun _ _ _ h => h) (Or.inl ⟨by rfl, ?hz124⟩) (by assumption) ?rezt124
          case hz124 => (intro w' hSw; (try dsimp only at hSw); go_simp; try with_reducible rfl)
          try simp only [Act.put, List.setIfInBounds_toArray, List.set_cons_zero, List.set_cons_succ, List.getElem_toArray, List.getElem_cons_zero, List.getElem_cons_succ]
          refine wpAnyH_done (by kernel_rfl) ?_ _
          clear F0 F1 G0 G1
          have hbd : Below W0.heap.size W0 wr.drew := hbr.drew
          go_wp2_with fail
          go_roundw
          case rel => exact ⟨i + 1, by omega, by go_num, by omega, hbd⟩
          case measure => simp [intOf]; omega
      · have qk : (n.kind == 1) = false := by simp [hk]
        clear hk
        refine wp_region_held_drew (S := (fun W => Below wr.heap.size wr W)) (by kernel_rfl) ?_ (fun hHeld => ?_)
        · exact (Below.refl _ wr).drew
        refine' wpAnyH_take (i := 0) (oi := _) (v := _) rfl (by kernel_rfl) (by kernel_rfl) (by kernel_rfl) (fun _ _ _ h => h) (Or.inl ⟨by rfl, ?hz125⟩) (by assumption) ?rezt125
        case hz125 => (intro w' hSw; (try dsimp only at hSw); go_simp; try with_reducible rfl)
        try simp only [Act.put, List.setIfInBounds_toArray, List.set_cons_zero, List.set_cons_succ, List.getElem_toArray, List.getElem_cons_zero, List.getElem_cons_succ]
        refine' wpAnyH_take (i := 1) (oi := _) (v := _) rfl (by kernel_rfl) (by kernel_rfl) (by kernel_rfl) (fun _ _ _ h => h) (Or.inl ⟨by rfl, ?hz126⟩) (by assumption) ?rezt126
        case hz126 => (intro w' hSw; (try dsimp only at hSw); go_simp; try with_reducible rfl)
        try simp only [Act.put, List.setIfInBounds_toArray, List.set_cons_zero, List.set_cons_succ, List.getElem_toArray, List.getElem_cons_zero, List.getElem_cons_succ]
        refine' wpAnyH_take (i := 2) (oi := _) (v := _) rfl (by kernel_rfl) (by kernel_rfl) (by kernel_rfl) (fun _ _ _ h => h) (Or.inl ⟨by rfl, ?hz127⟩) (by assumption) ?rezt127
        case hz127 => (intro w' hSw; (try dsimp only at hSw); go_simp; try with_reducible rfl)
        try simp only [Act.put, List.setIfInBounds_toArray, List.set_cons_zero, List.set_cons_succ, List.getElem_toArray, List.getElem_cons_zero, List.getElem_cons_succ]
        refine' wpAnyH_take (i := 3) (oi := _) (v := _) rfl (by kernel_rfl) (by kernel_rfl) (by kernel_rfl) (fun _ _ _ h => h) (Or.inl ⟨by rfl, ?hz128⟩) (by assumption) ?rezt128
        case hz128 => (intro w' hSw; (try dsimp only at hSw); go_simp; try with_reducible rfl)
        try simp only [Act.put, List.setIfInBounds_toArray, List.set_cons_zero, List.set_cons_succ, List.getElem_toArray, List.getElem_cons_zero, List.getElem_cons_succ]
        refine' wpAnyH_take (i := 4) (oi := _) (v := _) rfl (by kernel_rfl) (by kernel_rfl) (by kernel_rfl) (fun _ _ _ h => h) (Or.inr ⟨by rfl, rfl⟩) (by assumption) ?rezn18
        try simp only [Act.put, List.setIfInBounds_toArray, List.set_cons_zero, List.set_cons_succ, List.getElem_toArray, List.getElem_cons_zero, List.getElem_cons_succ]
        refine' wpAnyH_take (i := 5) (oi := _) (v := _) rfl (by kernel_rfl) (by kernel_rfl) (by kernel_rfl) (fun _ _ _ h => h) (Or.inr ⟨by rfl, rfl⟩) (by assumption) ?rezn19
        try simp only [Act.put, List.setIfInBounds_toArray, List.set_cons_zero, List.set_cons_succ, List.getElem_toArray, List.getElem_cons_zero, List.getElem_cons_succ]
        refine' wpAnyH_take (i := 6) (oi := _) (v := _) rfl (by kernel_rfl) (by kernel_rfl) (by kernel_rfl) (fun _ _ _ h => h) (Or.inr ⟨by rfl, rfl⟩) (by assumption) ?rezn20
        try simp only [Act.put, List.setIfInBounds_toArray, List.set_cons_zero, List.set_cons_succ, List.getElem_toArray, List.getElem_cons_zero, List.getElem_cons_succ]
        refine' wpAnyH_take (i := 7) (oi := _) (v := _) rfl (by kernel_rfl) (by kernel_rfl) (by kernel_rfl) (fun _ _ _ h => h) (Or.inr ⟨by rfl, rfl⟩) (by assumption) ?rezn21
        try simp only [Act.put, List.setIfInBounds_toArray, List.set_cons_zero, List.set_cons_succ, List.getElem_toArray, List.getElem_cons_zero, List.getElem_cons_succ]
        refine' wpAnyH_take (i := 8) (oi := _) (v := _) rfl (by kernel_rfl) (by kernel_rfl) (by kernel_rfl) (fun _ _ _ h => h) (Or.inr ⟨by rfl, rfl⟩) (by assumption) ?rezn22
        try simp only [Act.put, List.setIfInBounds_toArray, List.set_cons_zero, List.set_cons_succ, List.getElem_toArray, List.getElem_cons_zero, List.getElem_cons_succ]
        refine' wpAnyH_take (i := 9) (oi := _) (v := _) rfl (by kernel_rfl) (by kernel_rfl) (by kernel_rfl) (fun _ _ _ h => h) (Or.inr ⟨by rfl, rfl⟩) (by assumption) ?rezn23
        try simp only [Act.put, List.setIfInBounds_toArray, List.set_cons_zero, List.set_cons_succ, List.getElem_toArray, List.getElem_cons_zero, List.getElem_cons_succ]
        refine' wpAnyH_take (i := 10) (oi := _) (v := _) rfl (by kernel_rfl) (by kernel_rfl) (by kernel_rfl) (fun _ _ _ h => h) (Or.inr ⟨by rfl, rfl⟩) (by assumption) ?rezn24
        try simp only [Act.put, List.setIfInBounds_toArray, List.set_cons_zero, List.set_cons_succ, List.getElem_toArray, List.getElem_cons_zero, List.getElem_cons_succ]
        refine' wpAnyH_take (i := 11) (oi := _) (v := _) rfl (by kernel_rfl) (by kernel_rfl) (by kernel_rfl) (fun _ _ _ h => h) (Or.inr ⟨by rfl, rfl⟩) (by assumption) ?rezn25
        try simp only [Act.put, List.setIfInBounds_toArray, List.set_cons_zero, List.set_cons_succ, List.getElem_toArray, List.getElem_cons_zero, List.getElem_cons_succ]
        refine' wpAnyH_take (i := 12) (oi := _) (v := _) rfl (by kernel_rfl) (by kernel_rfl) (by kernel_rfl) (fun _ _ _ h => h) (Or.inr ⟨by rfl, rfl⟩) (by assumption) ?rezn26
        try simp only [Act.put, List.setIfInBounds_toArray, List.set_cons_zero, List.set_cons_succ, List.getElem_toArray, List.getElem_cons_zero, List.getElem_cons_succ]
        refine' wpAnyH_take (i := 13) (oi := _) (v := _) rfl (by kernel_rfl) (by kernel_rfl) (by kernel_rfl) (fun _ _ _ h => h) (Or.inr ⟨by rfl, rfl⟩) (by assumption) ?rezn27
        try simp only [Act.put, List.setIfInBounds_toArray, List.set_cons_zero, List.set_cons_succ, List.getElem_toArray, List.getElem_cons_zero, List.getElem_cons_succ]
        refine' wpAnyH_take (i := 14) (oi := _) (v := _) rfl (by kernel_rfl) (by kernel_rfl) (by kernel_rfl) (fun _ _ _ h => h) (Or.inr ⟨by rfl, rfl⟩) (by assumption) ?rezn28
        try simp only [Act.put, List.setIfInBounds_toArray, List.set_cons_zero, List.set_cons_succ, List.getElem_toArray, List.getElem_cons_zero, List.getElem_cons_succ]
        refine' wpAnyH_take (i := 15) (oi := _) (v := _) rfl (by kernel_rfl) (by kernel_rfl) (by kernel_rfl) (fun _ _ _ h => h) (Or.inr ⟨by rfl, rfl⟩) (by assumption) ?rezn29
        try simp only [Act.put, List.setIfInBounds_toArray, List.set_cons_zero, List.set_cons_succ, List.getElem_toArray, List.getElem_cons_zero, List.getElem_cons_succ]
        refine' wpAnyH_take (i := 16) (oi := _) (v := _) rfl (by kernel_rfl) (by kernel_rfl) (by kernel_rfl) (fun _ _ _ h => h) (Or.inr ⟨by rfl, rfl⟩) (by assumption) ?rezn30
        try simp only [Act.put, List.setIfInBounds_toArray, List.set_cons_zero, List.set_cons_succ, List.getElem_toArray, List.getElem_cons_zero, List.getElem_cons_succ]
        refine' wpAnyH_take (i := 17) (oi := _) (v := _) rfl (by kernel_rfl) (by kernel_rfl) (by kernel_rfl) (fun _ _ _ h => h) (Or.inr ⟨by rfl, rfl⟩) (by assumption) ?rezn31
        try simp only [Act.put, List.setIfInBounds_toArray, List.set_cons_zero, List.set_cons_succ, List.getElem_toArray, List.getElem_cons_zero, List.getElem_cons_succ]
        refine' wpAnyH_take (i := 18) (oi := _) (v := _) rfl (by kernel_rfl) (by kernel_rfl) (by kernel_rfl) (fun _ _ _ h => h) (Or.inl ⟨by rfl, ?hz129⟩) (by assumption) ?rezt129
        case hz129 => (intro w' hSw; (try dsimp only at hSw); go_simp; try with_reducible rfl)
        try simp only [Act.put, List.setIfInBounds_toArray, List.set_cons_zero, List.set_cons_succ, List.getElem_toArray, List.getElem_cons_zero, List.getElem_cons_succ]
        refine wpAnyH_done (by kernel_rfl) ?_ _
        clear F0
        have hbd : Below W0.heap.size W0 wr.drew := hbr.drew
        go_wp2_with fail
        go_roundw
        case rel => exact ⟨i + 1, by omega, by go_num, by omega, hbd⟩
        case measure => simp [intOf]; omega
    · have hlt' : ¬ (i : Int) < (n.cs.length : Int) := by omega
      have m1 := HAT.out.all.2.1
      have hbw : Below w.heap.size w wr := hB0.trans (hbr.mono hs0)
      go_upto_region 8 with fail
      clear m1 hlt' hlt hi1 hi2
      go_step
      refine wp_load_nd rfl _ rfl w.heap.size n A c rfl HAT.out ?_
      go_wp2_with fail
      refine (split_any _ n A c s hs hl4 hl hm HOK.out HFW.out.2 HCS.out _ rfl).mono ?_
      rintro e w2 ⟨hb2, ⟨hno, rfl⟩ | ⟨hokn, NA, nc, ns, SA, sc, ss, z, rfl, hst, hcs⟩⟩
      · have HAT2 := Lib.hid (HAT.out.keep hb2)
        have HCS2 := Lib.hid (HCS.out.keep hb2)
        have hbw2 : Below w.heap.size w w2 := hbw.trans (hb2.mono hbw.size)
        have HNO := Lib.hid hno
        clear hno hb2 HAT HCS
        go_wp2_with fail
        refine (rSize_any _ s hs _ rfl).mono ?_
        rintro e w3 ⟨rfl, rfl⟩
        by_cases hz : isSz s
        · rw [decide_eq_true hz]
          have HF := Lib.hid (show ¬ mayN n from fun h => HNO.out ⟨hz, h⟩)
          clear hz
          simp only []
          iterate 7 go_step
          refine wp_load_ndg rfl _ rfl w.heap.size n A c rfl HAT2.out ?_
          go_wp2_with fail
          refine (rMay_any _ n A c (by omega) HOK.out (fun d hd => by have := HFW.out.2 d hd; omega) HCS2.out _ rfl).mono ?_
          rintro e w4 ⟨rfl, hb4⟩
          rw [decide_eq_false HF.out]
          have hbw4 : Below w.heap.size w w4 := hbw2.trans (hb4.mono hbw2.size)
          go_wp2_with fail
          refine (live19_any _ _ rfl).mono ?_
          rintro e w5 ⟨rfl, hb5⟩
          have hbe := hbw4.trans (hb5.mono hbw4.size)
          go_wp2_with fail
          go_ret
          exact ⟨rfl, hbe⟩
        · rw [decide_eq_false hz]
          clear hz
          go_wp2_with fail
          refine (live19_any _ _ rfl).mono ?_
          rintro e w5 ⟨rfl, hb5⟩
          have hbe := hbw2.trans (hb5.mono hbw2.size)
          go_wp2_with fail
          go_ret
          exact ⟨rfl, hbe⟩
      have HAT2 := Lib.hid (HAT.out.keep hb2)
      have HCS2 := Lib.hid (HCS.out.keep hb2)
      have hbw2 : Below w.heap.size w w2 := hbw.trans (hb2.mono hbw.size)
      have HSZ := Lib.hid hokn.1
      have HM := Lib.hid hokn.2
      have hN : ∃ N : Nat, s = N ∧ 256 ≤ N ∧ N ≤ 4096 := ⟨s.toNat, by have := hokn.1; unfold isSz at this; omega, by have := hokn.1; unfold isSz at this; omega, by have := hokn.1; unfold isSz at this; omega⟩
      obtain ⟨N, rfl, hN1, hN2⟩ := hN
      rw [Int.toNat_natCast] at hcs
      obtain ⟨most, hms⟩ : ∃ m, N - 10 = m := ⟨_, rfl⟩
      have HMO := Lib.hid hms
      have hms' : IntKind.i64.wrap ((N : Int) - 10) = (most : Int) := by rw [IntWalk.i64_in _ (by omega)]; omega
      have hmsi : (N : Int) - 10 = (most : Int) := by omega
      have HMS := Lib.hid hms'
      have HMI := Lib.hid hmsi
      have HST := Lib.hid hst
      have hlenN : ∀ x : List Nd, x.length = x.length := fun _ => rfl
      obtain ⟨tk, htk⟩ : ∃ t, takesN n.kind n.cs = t := ⟨_, rfl⟩
      have HTK := Lib.hid htk
      have htkb : tk ≤ 100000000 := by rw [← htk]; have := takesN_bd (k := n.kind) (cs := n.cs) (by omega) (fun d hd => ⟨HOK.out.2.2 d hd, HFW.out.2 d hd⟩); omega
      have HFIT := Lib.hid (show fitN n (N : Int) ↔ tk ≤ most by unfold fitN; rw [htk, hmsi]; omega)
      have HCSS := Lib.hid hcs
      clear hokn hb2 HAT HCS hst hms hms' hmsi htk hcs hlenN
      go_wp2_with fail
      refine (rSize_any _ (N : Int) hs _ rfl).mono ?_
      rintro e w3 ⟨rfl, rfl⟩
      rw [decide_eq_true HSZ.out]
      simp only []
      iterate 7 go_step
      refine wp_load_ndg rfl _ rfl w.heap.size n A c rfl HAT2.out ?_
      go_wp2_with fail
      refine (rMay_any _ n A c (by omega) HOK.out (fun d hd => by have := HFW.out.2 d hd; omega) HCS2.out _ rfl).mono ?_
      rintro e w4 ⟨rfl, hb4⟩
      rw [decide_eq_true HM.out]
      have hbw4 : Below w.heap.size w w4 := hbw2.trans (hb4.mono hbw2.size)
      have HAT4 := Lib.hid (HAT2.out.keep hb4)
      have HCS4 := Lib.hid (HCS2.out.keep hb4)
      have HST4 := Lib.hid (HST.out.keep hb4)
      clear hb4 HAT2 HCS2 HST
      go_upto_region 11 with fail
      go_step
      refine wp_load_nd rfl _ rfl w.heap.size n A c rfl HAT4.out ?_
      go_wp2_with fail
      refine (rTakes_any _ n A c (by omega) (fun d hd => ⟨HOK.out.2.2 d hd, HFW.out.2 d hd⟩) HCS4.out _ rfl).mono ?_
      rintro e w5 ⟨rfl, hb5⟩
      rw [HTK.out]
      have hbw5 : Below w.heap.size w w5 := hbw4.trans (hb5.mono hbw4.size)
      have HAT5 := Lib.hid (HAT4.out.keep hb5)
      have HCS5 := Lib.hid (HCS4.out.keep hb5)
      have HST5 := Lib.hid (HST4.out.keep hb5)
      have hms' := HMS.out
      clear hb5 HAT4 HCS4 HST4
      rcases HCSS.out with ⟨hf, hns, hss, hz⟩ | ⟨hf, hsh, hns, hss, hz⟩ | ⟨hf, hsh, hz, ps, hps, hns, hss⟩
      · subst hz
        subst hns
        subst hss
        have hle : (tk : Int) ≤ (most : Int) := by have := HFIT.out.1 hf; omega
        obtain ⟨g, A1, c1, hNA, hg, hrg, _, _, hrd⟩ := HST5.out.nodeAt (i := 0) (by simp)
        subst hNA
        have e0 : nd_ [n] 0 = n := rfl
        rw [e0] at hrg hrd
        have HRG := Lib.hid hrg
        have HRD := Lib.hid hrd
        have hlw5 : w.heap.size < w5.heap.size := HAT5.out.lt
        have hlen1 : ([n] : List Nd).length = 1 := rfl
        have hlen0 : ([] : List Cl).length = 0 := rfl
        rw [hlen1, hlen0]
        clear hf hrg hrd e0 HCSS hlen1 hlen0
        go_upto_region 12 with fail
        clear hms' 
        refine wp_region_held_drew (S := (fun W => Below w5.heap.size w5 W)) (by kernel_rfl) ?_ (fun hHeld => ?_)
        · exact (Below.refl _ w5).drew
        refine wpAnyH_ready (rs := [0]) (by kernel_rfl) (by simp) ?_
        refine AllReadyH.cons (o := _) rfl (fun K hK => ?_) AllReadyH.nil
        go_simp
        have hbd : Below w5.heap.size w5 w5.drew := (Below.refl _ w5).drew
        go_at_call 40
        refine (live19_any _ _ rfl).mono ?_
        rintro e w6 ⟨rfl, hb6⟩
        have hb56 : Below w5.heap.size w5 w6 := hbd.trans (hb6.mono (Nat.le_refl _))
        clear hb6 hbd
        refine hK.out _ _ ?_ (fun hHeld => ?_)
        · exact hb56
        clear hK K
        try simp only [Act.put, List.setIfInBounds_toArray, List.set_cons_zero, List.set_cons_succ, List.getElem_toArray, List.getElem_cons_zero, List.getElem_cons_succ]
        refine' wpAnyH_take (i := 1) (oi := _) (v := _) rfl (by kernel_rfl) (by kernel_rfl) (by kernel_rfl) (fun _ _ _ h => h) (Or.inl ⟨by rfl, ?hz130⟩) (by assumption) ?rezt130
        case hz130 => (intro w' hSw; (try dsimp only at hSw); go_simp; try with_reducible rfl)
        try simp only [Act.put, List.setIfInBounds_toArray, List.set_cons_zero, List.set_cons_succ, List.getElem_toArray, List.getElem_cons_zero, List.getElem_cons_succ]
        refine' wpAnyH_take (i := 2) (oi := _) (v := _) rfl (by kernel_rfl) (by kernel_rfl) (by kernel_rfl) (fun _ _ _ h => h) (Or.inl ⟨by rfl, ?hz131⟩) (by assumption) ?rezt131
        case hz131 => (intro w' hSw; (try dsimp only at hSw); go_simp; try with_reducible rfl)
        try simp only [Act.put, List.setIfInBounds_toArray, List.set_cons_zero, List.set_cons_succ, List.getElem_toArray, List.getElem_cons_zero, List.getElem_cons_succ]
        refine' wpAnyH_take (i := 3) (oi := _) (v := _) rfl (by kernel_rfl) (by kernel_rfl) (by kernel_rfl) (fun _ _ _ h => h) (Or.inl ⟨by rfl, ?hz132⟩) (by assumption) ?rezt132
        case hz132 => (intro w' hSw; (try dsimp only at hSw); go_simp; try with_reducible rfl)
        try simp only [Act.put, List.setIfInBounds_toArray, List.set_cons_zero, List.set_cons_succ, List.getElem_toArray, List.getElem_cons_zero, List.getElem_cons_succ]
        refine' wpAnyH_take (i := 4) (oi := _) (v := _) rfl (by kernel_rfl) (by kernel_rfl) (by kernel_rfl) (fun _ _ _ h => h) (Or.inl ⟨by rfl, ?hz133⟩) (by assumption) ?rezt133
        case hz133 => (intro w' hSw; (try dsimp only at hSw); go_simp; try with_reducible rfl)
        try simp only [Act.put, List.setIfInBounds_toArray, List.set_cons_zero, List.set_cons_succ, List.getElem_toArray, List.getElem_cons_zero, List.getElem_cons_succ]
        refine' wpAnyH_take (i := 5) (oi := _) (v := _) rfl (by kernel_rfl) (by kernel_rfl) (by kernel_rfl) (fun _ _ _ h => h) (Or.inl ⟨by rfl, ?hz134⟩) (by assumption) ?rezt134
        case hz134 => (intro w' hSw; (try dsimp only at hSw); go_simp; try with_reducible rfl)
        try simp only [Act.put, List.setIfInBounds_toArray, List.set_cons_zero, List.set_cons_succ, List.getElem_toArray, List.getElem_cons_zero, List.getElem_cons_succ]
        refine' wpAnyH_take (i := 6) (oi := _) (v := _) rfl (by kernel_rfl) (by kernel_rfl) (by kernel_rfl) (fun _ _ _ h => h) (Or.inl ⟨by rfl, ?hz135⟩) (by assumption) ?rezt135
        case hz135 => (intro w' hSw; (try dsimp only at hSw); go_simp; try with_reducible rfl)
        try simp only [Act.put, List.setIfInBounds_toArray, List.set_cons_zero, List.set_cons_succ, List.getElem_toArray, List.getElem_cons_zero, List.getElem_cons_succ]
        refine' wpAnyH_take (i := 7) (oi := _) (v := _) rfl (by kernel_rfl) (by kernel_rfl) (by kernel_rfl) (fun _ _ _ h => h) (Or.inl ⟨by rfl, ?hz136⟩) (by assumption) ?rezt136
        case hz136 => (intro w' hSw; (try dsimp only at hSw); go_simp; try with_reducible rfl)
        try simp only [Act.put, List.setIfInBounds_toArray, List.set_cons_zero, List.set_cons_succ, List.getElem_toArray, List.getElem_cons_zero, List.getElem_cons_succ]
        refine' wpAnyH_take (i := 8) (oi := _) (v := _) rfl (by kernel_rfl) (by kernel_rfl) (by kernel_rfl) (fun _ _ _ h => h) (Or.inl ⟨by rfl, ?hz137⟩) (by assumption) ?rezt137
        case hz137 => (intro w' hSw; (try dsimp only at hSw); go_simp; try with_reducible rfl)
        try simp only [Act.put, List.setIfInBounds_toArray, List.set_cons_zero, List.set_cons_succ, List.getElem_toArray, List.getElem_cons_zero, List.getElem_cons_succ]
        refine' wpAnyH_take (i := 9) (oi := _) (v := n.val A1 c1) rfl (by kernel_rfl) (by kernel_rfl) (by kernel_rfl) (fun _ _ _ h => h) (yieldsIf_load_mid (by rfl) 69 _ rfl g 0 rfl (ndC n A1 c1) _ (fun W hW => rangeKeep HRG.out hW hg) Try.underlying69 rfl size_nd) (by assumption) ?rezl10
        try simp only [Act.put, List.setIfInBounds_toArray, List.set_cons_zero, List.set_cons_succ, List.getElem_toArray, List.getElem_cons_zero, List.getElem_cons_succ]
        refine' wpAnyH_take (i := 10) (oi := _) (v := n.val A c) rfl (by kernel_rfl) (by kernel_rfl) (by kernel_rfl) (fun _ _ _ h => h) (yieldsIf_load_mid (by rfl) 69 _ rfl w.heap.size 0 rfl (ndC n A c) _ (fun W hW => HAT5.out.keep hW) Try.underlying69 rfl size_nd) (by assumption) ?rezl11
        try simp only [Act.put, List.setIfInBounds_toArray, List.set_cons_zero, List.set_cons_succ, List.getElem_toArray, List.getElem_cons_zero, List.getElem_cons_succ]
        refine wpAnyH_ready (rs := [11]) (by kernel_rfl) (by simp) ?_
        refine AllReadyH.cons (o := _) rfl (fun K hK => ?_) AllReadyH.nil
        go_simp
        go_at_call 45
        refine (same19_any _ n n A1 A c1 c (by omega) (by omega) (HRD.out.keep hb56) (HCS5.out.keep hb56) _ rfl).mono ?_
        rintro e w7 ⟨rfl, hb7⟩
        rw [decide_eq_true (show n = n from rfl)]
        have hb57 : Below w5.heap.size w5 w7 := hb56.trans (hb7.mono hb56.size)
        clear hb7
        refine hK.out _ _ ?_ (fun hHeld => ?_)
        · exact hb57
        clear hK K
        try simp only [Act.put, List.setIfInBounds_toArray, List.set_cons_zero, List.set_cons_succ, List.getElem_toArray, List.getElem_cons_zero, List.getElem_cons_succ]
        refine' wpAnyH_take (i := 12) (oi := _) (v := _) rfl (by kernel_rfl) (by kernel_rfl) (by kernel_rfl) (fun _ _ _ h => h) (Or.inl ⟨by rfl, ?hz138⟩) (by assumption) ?rezt138
        case hz138 => (intro w' hSw; (try dsimp only at hSw); go_simp; try with_reducible rfl)
        try simp only [Act.put, List.setIfInBounds_toArray, List.set_cons_zero, List.set_cons_succ, List.getElem_toArray, List.getElem_cons_zero, List.getElem_cons_succ]
        refine' wpAnyH_take (i := 13) (oi := _) (v := _) rfl (by kernel_rfl) (by kernel_rfl) (by kernel_rfl) (fun _ _ _ h => h) (Or.inl ⟨by rfl, ?hz139⟩) (by assumption) ?rezt139
        case hz139 => (intro w' hSw; (try dsimp only at hSw); go_simp; try with_reducible rfl)
        try simp only [Act.put, List.setIfInBounds_toArray, List.set_cons_zero, List.set_cons_succ, List.getElem_toArray, List.getElem_cons_zero, List.getElem_cons_succ]
        refine' wpAnyH_take (i := 14) (oi := _) (v := _) rfl (by kernel_rfl) (by kernel_rfl) (by kernel_rfl) (fun _ _ _ h => h) (Or.inl ⟨by rfl, ?hz140⟩) (by assumption) ?rezt140
        case hz140 => (intro w' hSw; (try dsimp only at hSw); go_simp; try with_reducible rfl)
        try simp only [Act.put, List.setIfInBounds_toArray, List.set_cons_zero, List.set_cons_succ, List.getElem_toArray, List.getElem_cons_zero, List.getElem_cons_succ]
        refine' wpAnyH_take (i := 15) (oi := _) (v := _) rfl (by kernel_rfl) (by kernel_rfl) (by kernel_rfl) (fun _ _ _ h => h) (Or.inl ⟨by rfl, ?hz141⟩) (by assumption) ?rezt141
        case hz141 => (intro w' hSw; (try dsimp only at hSw); go_simp; try with_reducible rfl)
        try simp only [Act.put, List.setIfInBounds_toArray, List.set_cons_zero, List.set_cons_succ, List.getElem_toArray, List.getElem_cons_zero, List.getElem_cons_succ]
        refine' wpAnyH_take (i := 16) (oi := _) (v := _) rfl (by kernel_rfl) (by kernel_rfl) (by kernel_rfl) (fun _ _ _ h => h) (Or.inl ⟨by rfl, ?hz142⟩) (by assumption) ?rezt142
        case hz142 => (intro w' hSw; (try dsimp only at hSw); go_simp; try with_reducible rfl)
        try simp only [Act.put, List.setIfInBounds_toArray, List.set_cons_zero, List.set_cons_succ, List.getElem_toArray, List.getElem_cons_zero, List.getElem_cons_succ]
        refine' wpAnyH_take (i := 17) (oi := _) (v := _) rfl (by kernel_rfl) (by kernel_rfl) (by kernel_rfl) (fun _ _ _ h => h) (Or.inl ⟨by rfl, ?hz143⟩) (by assumption) ?rezt143
        case hz143 => (intro w' hSw; (try dsimp only at hSw); go_simp; try with_reducible rfl)
        try simp only [Act.put, List.setIfInBounds_toArray, List.set_cons_zero, List.set_cons_succ, List.getElem_toArray, List.getElem_cons_zero, List.getElem_cons_succ]
        refine' wpAnyH_take (i := 18) (oi := _) (v := _) rfl (by kernel_rfl) (by kernel_rfl) (by kernel_rfl) (fun _ _ _ h => h) (Or.inl ⟨by rfl, ?hz144⟩) (by assumption) ?rezt144
        case hz144 => (intro w' hSw; (try dsimp only at hSw); go_simp; try with_reducible rfl)
        try simp only [Act.put, List.setIfInBounds_toArray, List.set_cons_zero, List.set_cons_succ, List.getElem_toArray, List.getElem_cons_zero, List.getElem_cons_succ]
        refine' wpAnyH_take (i := 19) (oi := _) (v := _) rfl (by kernel_rfl) (by kernel_rfl) (by kernel_rfl) (fun _ _ _ h => h) (Or.inl ⟨by rfl, ?hz145⟩) (by assumption) ?rezt145
        case hz145 => (intro w' hSw; (try dsimp only at hSw); go_simp; try with_reducible rfl)
        try simp only [Act.put, List.setIfInBounds_toArray, List.set_cons_zero, List.set_cons_succ, List.getElem_toArray, List.getElem_cons_zero, List.getElem_cons_succ]
        refine' wpAnyH_take (i := 20) (oi := _) (v := _) rfl (by kernel_rfl) (by kernel_rfl) (by kernel_rfl) (fun _ _ _ h => h) (Or.inl ⟨by rfl, ?hz146⟩) (by assumption) ?rezt146
        case hz146 => (intro w' hSw; (try dsimp only at hSw); go_simp; try with_reducible rfl)
        try simp only [Act.put, List.setIfInBounds_toArray, List.set_cons_zero, List.set_cons_succ, List.getElem_toArray, List.getElem_cons_zero, List.getElem_cons_succ]
        refine' wpAnyH_take (i := 21) (oi := _) (v := _) rfl (by kernel_rfl) (by kernel_rfl) (by kernel_rfl) (fun _ _ _ h => h) (Or.inl ⟨by rfl, ?hz147⟩) (by assumption) ?rezt147
        case hz147 => (intro w' hSw; (try dsimp only at hSw); go_simp; try with_reducible rfl)
        try simp only [Act.put, List.setIfInBounds_toArray, List.set_cons_zero, List.set_cons_succ, List.getElem_toArray, List.getElem_cons_zero, List.getElem_cons_succ]
        refine' wpAnyH_take (i := 22) (oi := _) (v := _) rfl (by kernel_rfl) (by kernel_rfl) (by kernel_rfl) (fun _ _ _ h => h) (Or.inl ⟨by rfl, ?hz148⟩) (by assumption) ?rezt148
        case hz148 => (intro w' hSw; (try dsimp only at hSw); go_simp; try with_reducible rfl)
        try simp only [Act.put, List.setIfInBounds_toArray, List.set_cons_zero, List.set_cons_succ, List.getElem_toArray, List.getElem_cons_zero, List.getElem_cons_succ]
        refine wpAnyH_done (by kernel_rfl) ?_ _
        have hbe := hbw5.trans (hb57.mono hbw5.size)
        go_wp2_with fail
        go_ret
        exact ⟨rfl, hbe⟩
      · subst hz
        subst hns
        subst hss
        have hle : ¬ (tk : Int) ≤ (most : Int) := by have := HFIT.out; have h2 := mt this.2 hf; omega
        obtain ⟨q, hq⟩ : ∃ q, N / 4 = q := ⟨_, rfl⟩
        have hqd : (N : Int).tdiv 4 = (q : Int) := by rw [← hq]; rfl
        have HSH := Lib.hid (show ¬ ∀ d ∈ n.cs, (encC n.kind d).length ≤ q - 8 by rw [← hq]; exact hsh)
        have hq1 : 64 ≤ q ∧ q ≤ 1024 := by omega
        have e1 : IntKind.i64.wrap (q : Int) = (q : Int) := IntWalk.i64_in _ (by omega)
        have e2 : (q : Int) - 8 = ((q - 8 : Nat) : Int) := by omega
        have HE2 := Lib.hid e2
        clear hq hsh hf HCSS e2
        go_upto_region 13 with fail
        clear hms' hle
        go_step
        refine wp_load_nd rfl _ rfl w.heap.size n A c rfl HAT5.out ?_
        go_wp2_with fail
        rw [HE2.out]
        refine (short_any _ n A c (q - 8) (by omega) (by omega) (fun d hd => ⟨HOK.out.2.2 d hd, HFW.out.2 d hd⟩) HCS5.out _ rfl).mono ?_
        rintro e w6 ⟨rfl, hb6⟩
        rw [decide_eq_false HSH.out]
        have hbw6 : Below w.heap.size w w6 := hbw5.trans (hb6.mono hbw5.size)
        clear hqd e1
        go_wp2_with fail
        refine (live19_any _ _ rfl).mono ?_
        rintro e w7 ⟨rfl, hb7⟩
        have hbe := hbw6.trans (hb7.mono hbw6.size)
        go_wp2_with fail
        go_ret
        exact ⟨rfl, hbe⟩
      · subst hz
        subst hns
        subst hss
        have hle : ¬ (tk : Int) ≤ (most : Int) := by have := HFIT.out; have h2 := mt this.2 hf; omega
        obtain ⟨q, hq⟩ : ∃ q, N / 4 = q := ⟨_, rfl⟩
        have hqd : (N : Int).tdiv 4 = (q : Int) := by rw [← hq]; rfl
        have HSH := Lib.hid (show ∀ d ∈ n.cs, (encC n.kind d).length ≤ q - 8 by rw [← hq]; exact hsh)
        have hq1 : 64 ≤ q ∧ q ≤ 1024 := by omega
        have e1 : IntKind.i64.wrap (q : Int) = (q : Int) := IntWalk.i64_in _ (by omega)
        have e2 : (q : Int) - 8 = ((q - 8 : Nat) : Int) := by omega
        have HE2 := Lib.hid e2
        have HPS := Lib.hid (show Parts n most ps by rw [← HMO.out]; exact hps)
        clear hq hsh hf HCSS e2 hps
        go_upto_region 13 with fail
        clear hms' hle
        go_step
        refine wp_load_nd rfl _ rfl w.heap.size n A c rfl HAT5.out ?_
        go_wp2_with fail
        rw [HE2.out]
        refine (short_any _ n A c (q - 8) (by omega) (by omega) (fun d hd => ⟨HOK.out.2.2 d hd, HFW.out.2 d hd⟩) HCS5.out _ rfl).mono ?_
        rintro e w6 ⟨rfl, hb6⟩
        rw [decide_eq_true HSH.out]
        have hbw6 : Below w.heap.size w w6 := hbw5.trans (hb6.mono hbw5.size)
        have HAT6 := Lib.hid (HAT5.out.keep hb6)
        have HCS6 := Lib.hid (HCS5.out.keep hb6)
        have HST6 := Lib.hid (HST5.out.keep hb6)
        clear hqd e1 hb6 HAT5 HCS5 HST5
        go_wp2_with fail
        refine (live19_any _ _ rfl).mono ?_
        rintro e w7 ⟨rfl, hb7⟩
        have hbw7 : Below w.heap.size w w7 := hbw6.trans (hb7.mono hbw6.size)
        have HAT7 := Lib.hid (HAT6.out.keep hb7)
        have HCS7 := Lib.hid (HCS6.out.keep hb7)
        have HST7 := Lib.hid (HST6.out.keep hb7)
        clear hb7 HAT6 HCS6 HST6
        simp only []
        iterate 14 go_step
        refine wp_load_ndg rfl _ rfl w.heap.size n A c rfl HAT7.out ?_
        go_wp2_with fail
        refine (parted_any _ n A c N most wr.heap.size NA nc SA sc ps ⟨hN1, hN2⟩ HMO.out hl4 HOK.out HFW.out.2 HM.out HCS7.out HST7.out HPS.out _ rfl).mono ?_
        rintro e w8 ⟨rfl, hb8⟩
        have hbe := hbw7.trans (hb8.mono hbw7.size)
        go_wp2_with fail
        go_ret
        exact ⟨rfl, hbe⟩
end
end Go.Proofs.Ytoeaffmlolapnaa
