/- Several texts of this proof as one: NeD, NeE, NeF. Laid by merge.py. -/
import Derived.Test.YtoeaffmlolapnaaNpA
import Derived.Test.YtoeaffmlolapnaaNpB
import Derived.Test.YtoeaffmlolapnaaNpC
import Derived.Test.YtoeaffmlolapnaaNpD
import Derived.Test.YtoeaffmlolapnaaNpE
import Derived.Test.YtoeaffmlolapnaaNpF
import Derived.Test.YtoeaffmlolapnaaNpG
import Derived.Test.YtoeaffmlolapnaaNpH
import Derived.Test.YtoeaffmlolapnaaNpI
import Derived.Test.YtoeaffmlolapnaaNpJ
import Derived.Test.YtoeaffmlolapnaaNpK
import Derived.Test.YtoeaffmlolapnaaNpL
import Derived.Test.YtoeaffmlolapnaaNpM
import Derived.Test.YtoeaffmlolapnaaNpN
import Derived.Test.YtoeaffmlolapnaaNpO
import Derived.Test.YtoeaffmlolapnaaNpP
import Derived.Test.YtoeaffmlolapnaaNpQ
import Derived.Test.YtoeaffmlolapnaaNpR
import Derived.Test.YtoeaffmlolapnaaNpS
import Derived.Test.YtoeaffmlolapnaaNpT
import Derived.ArgAppend
import Derived.BigQuiet
import Derived.ChangeOld
import Derived.Deep.DeepCutAuto
import Derived.Deep.Matrix
import Derived.Deep.MidRow
import Derived.Deep.QuietTactic
import Derived.Deep.RegionHeld3
import Derived.Deep.Slices
import Derived.Handy
import Derived.Laws.CopyOwn
import Derived.Laws.Externs
import Derived.Laws.ResultCell
import Derived.Lib.AppendStr
import Derived.Lib.Hide
import Derived.Lib.MakeNoZero
import Derived.Lib.SlBuf
import Derived.Lib.SliceRun
import Derived.Lib.SmallJoins
import Derived.Maps.AppendAt
import Derived.OpenShut
import Derived.ProofKit
import Derived.ShutString
import Derived.SizedLaws
import Derived.Test.YtoeaffmlolapnaaProg
import Derived.WalkKit
import Derived.WalkSpells
namespace Go.Proofs.Ytoeaffmlolapnaa
section
open Go.RowKit
set_option maxRecDepth 100000
set_option linter.unusedVariables false
set_option linter.unusedSimpArgs false
set_option linter.unnecessarySimpa false
theorem SpSt.nodeAt {base : Nat} {W : World} {NA : Option Addr} {nc : Nat} {ns : List Nd} {SA : Option Addr} {sc : Nat} {ss : List Cl} (h : SpSt base W NA nc ns SA sc ss) {i : Nat} (hi : i < ns.length) : ∃ g A c, NA = some ⟨g, 0, none⟩ ∧ g < W.heap.size ∧ W.rangeAt g (i * 3) (ndC (nd_ ns i) A c) ∧ (nd_ ns i).cs.length ≤ c ∧ c ≤ maxLen ∧ RdCl W A (nd_ ns i).cs := by
  obtain ⟨vs, h1, h2, h3⟩ := h.nrow
  obtain ⟨A, c, k1, k2, k3, k4⟩ := h3 i hi
  rcases h1.2 with ⟨hv, hn⟩ | ⟨g, cap, cur, hv, _, hg, _⟩
  · omega
  · injection hv with e1
    refine ⟨g, A, c, e1, (Array.getElem?_eq_some_iff.1 hg).1, fun j u hu => ?_, k2, k3, k4.rd⟩
    subst e1
    have := World.ownsRow.cells h1 (g := g) rfl _ u (k1 j u hu)
    simpa [Addr.add_lit] using this
theorem SpSt.sepAt {base : Nat} {W : World} {NA : Option Addr} {nc : Nat} {ns : List Nd} {SA : Option Addr} {sc : Nat} {ss : List Cl} (h : SpSt base W NA nc ns SA sc ss) {i : Nat} (hi : i < ss.length) : ∃ g A d, SA = some ⟨g, 0, none⟩ ∧ g < W.heap.size ∧ W.rangeAt g (i * 5) (clC (cl_ ss i) A (cl_ ss i).loc.length d) ∧ (cl_ ss i).loc.length ≤ d ∧ d ≤ maxLen ∧ Rd W A (cl_ ss i).loc := by
  obtain ⟨vs, h1, h2, h3⟩ := h.srow
  obtain ⟨A, c, k1, k2, k3, k4⟩ := h3 i hi
  rcases h1.2 with ⟨hv, hn⟩ | ⟨g, cap, cur, hv, _, hg, _⟩
  · omega
  · injection hv with e1
    refine ⟨g, A, c, e1, (Array.getElem?_eq_some_iff.1 hg).1, fun j u hu => ?_, k2, k3, k4.rd⟩
    subst e1
    have := World.ownsRow.cells h1 (g := g) rfl _ u (k1 j u hu)
    simpa [Addr.add_lit] using this
/-- A node's box, and nothing else. -/
def Box3 (w : World) (g : Nat) : Prop := ∃ (a e : Int) (B : Option Addr) (m d : Nat) (T : TypeId) (fr : Nat × Nat), w.heap[g]? = some (.cells #[.int .i64 a, .slice B m d, .int .i64 e] T fr)
theorem Box3.new (w : World) (T : TypeId) : Box3 (w.alloc (.cells #[.int .i64 0, .slice none 0 0, .int .i64 0] T)) w.heap.size := ⟨0, 0, none, 0, 0, T, _, heap_alloc_new w _⟩
theorem Box3.same {w w' : World} {g : Nat} (h : Box3 w g) (e : w'.heap[g]? = w.heap[g]?) : Box3 w' g := by
  obtain ⟨a, b, B, m, d, T, fr, h⟩ := h
  exact ⟨a, b, B, m, d, T, fr, e.trans h⟩
theorem Box3.lt {w : World} {g : Nat} (h : Box3 w g) : g < w.heap.size := by
  obtain ⟨a, b, B, m, d, T, fr, h⟩ := h
  exact (Array.getElem?_eq_some_iff.1 h).1
theorem Box3.there {w : World} {g : Nat} (h : Box3 w g) (hf : ∀ j, w.frozen? ⟨g, j, none⟩ = false) : w.there g 0 3 := by
  obtain ⟨a, b, B, m, d, T, fr, h⟩ := h
  intro j hj
  refine ⟨?_, hf _⟩
  rcases (by omega : j = 0 ∨ j = 1 ∨ j = 2) with rfl | rfl | rfl <;> simp [World.cell?, h]
theorem Box3.sets {w : World} {g : Nat} (h : Box3 w g) (n : Nd) (A : Option Addr) (c : Nat) : Box3 (w.setCells g 0 (ndC n A c)) g := by
  obtain ⟨a, b, B, m, d, T, fr, h⟩ := h
  have hg := (Array.getElem?_eq_some_iff.1 h).1
  have hv := (Array.getElem?_eq_some_iff.1 h).2
  refine ⟨n.kind, n.right, A, n.cs.length, c, T, fr, ?_⟩
  simp [ndC, World.setCells, World.setCell, Array.getElem?_modify, h]
theorem RdCl.box {w w' : World} {A : Option Addr} {cs : List Cl} {g : Nat} (h : RdCl w A cs) (hb : Box3 w g) (e : ∀ i, i ≠ g → i < w.heap.size → w'.heap[i]? = w.heap[i]?) : RdCl w' A cs := by
  obtain ⟨a, b, B, m, d, T, fr, hg⟩ := hb
  have same : ∀ {x o : Nat} {v : Value}, x ≠ g → w.cell? ⟨x, o, none⟩ = some v → w'.cell? ⟨x, o, none⟩ = some v := fun {x o v} hx hc => by
    rw [← hc]
    simp [World.cell?, e x hx (World.block_lt_of_cell? w ⟨x, o, none⟩ hc)]
  rcases h with h | ⟨bl, off, rfl, h⟩
  · exact .inl h
  · refine .inr ⟨bl, off, rfl, fun i hi => ?_⟩
    obtain ⟨LA, dd, h1, h2, h3, h4⟩ := h i hi
    have hne : bl ≠ g := fun q => by
      subst q
      have h5 := h1 3 _ rfl
      have h6 : w.cell? ⟨bl, off + i * 5 + 3, none⟩ = none := by simp [World.cell?, hg]
      rw [h6] at h5
      cases h5
    refine ⟨LA, dd, fun j u hu => same hne (h1 j u hu), h2, h3, ?_⟩
    rcases h4 with h4 | ⟨bb, o2, rfl, h4⟩
    · exact .inl h4
    · by_cases h0 : (cl_ cs i).loc = []
      · exact .inl h0
      · refine .inr ⟨bb, o2, rfl, fun j hj => ?_⟩
        have h5 := h4 j hj
        refine same (fun q => ?_) h5
        subst q
        have h6 : ∀ o : Nat, w.cell? ⟨bb, o, none⟩ = #[Value.int .i64 a, .slice B m d, .int .i64 b][o]? := fun o => by simp [World.cell?, hg]
        rw [h6] at h5
        rcases (by omega : o2 + j = 0 ∨ o2 + j = 1 ∨ o2 + j = 2 ∨ 3 ≤ o2 + j) with q | q | q | q
        · rw [q] at h5; simp at h5
        · rw [q] at h5; simp at h5
        · rw [q] at h5; simp at h5
        · rw [Array.getElem?_eq_none (by simpa using q)] at h5; cases h5

set_option maxHeartbeats 16000000 in
theorem short_any (w : World) (n : Nd) (A : Option Addr) (c q : Nat) (hq : q ≤ 1000000) (hn : n.cs.length ≤ 5000) (hok : ∀ d ∈ n.cs, ClOk d ∧ d.loc.length ≤ 16384) (hA : RdCl w A n.cs) (R : Ending → World → Prop) (hR : R = fun e w' => e = .returned (.bool (decide (∀ d ∈ n.cs, (encC n.kind d).length ≤ q))) ∧ Below w.heap.size w w') :
    Calls Try.prog 53 #[n.val A c, .int .i64 (q : Int)] w R := by
  have HR := Lib.hid hR; clear hR
  have HOK := Lib.hid hok
  obtain ⟨W0, hW0⟩ : ∃ W, W = w.alloc (.cells #[.int .i64 n.kind, .slice A n.cs.length c, .int .i64 n.right] 69) := ⟨_, rfl⟩
  have HBX := Lib.hid (Bx.of hW0 hA)
  have HW := Lib.hid hW0
  clear hW0 hok hA
  have hB0 := HBX.out.bel
  unfold Nd.val
  go_enter Try.func53, Try.ntmps53
  go_upto_region 1 with fail
  rw [← HW.out]
  clear HW
  go_wp2_with fail
  go_loopw [5] (fun i wr => ∃ j : Nat, j ≤ n.cs.length ∧ i = .int .i64 j ∧ (∀ d ∈ n.cs.take j, (encC n.kind d).length ≤ q) ∧ Below W0.heap.size W0 wr) (fun i _ => n.cs.length - (intOf i).toNat)
  case atStart => exact ⟨0, Nat.zero_le _, rfl, by simp, Below.refl _ _⟩
  case round =>
    obtain ⟨j, hj, rfl, hall, hb⟩ := hrel
    have HALL := Lib.hid hall
    clear hall
    have m1 := (HBX.out.at_.keep hb).all.2.1
    by_cases hlt : j < n.cs.length
    · have hlt' : (j : Int) < (n.cs.length : Int) := by omega
      have i0 : (0 : Int) ≤ (j : Int) := by omega
      obtain ⟨b, off, hAe, hcell⟩ := (HBX.out.cs.keep hb).at (by omega)
      obtain ⟨LA, d, hrg, hd1, hd2, hrd⟩ := hcell j hlt
      have hmem : cl_ n.cs j ∈ n.cs := by rw [cl_lt hlt]; exact List.getElem_mem hlt
      have HCT := Lib.hid (show n.cs.take (j + 1) = n.cs.take j ++ [cl_ n.cs j] by rw [List.take_succ_eq_append_getElem hlt, cl_lt hlt])
      obtain ⟨cl, hcl⟩ : ∃ x, cl_ n.cs j = x := ⟨_, rfl⟩
      rw [hcl] at hrg hd1 hrd hmem HCT
      have HCO := Lib.hid (HOK.out cl hmem)
      have HRD := Lib.hid hrd
      have hat := HBX.out.at_.keep hb
      have F0 : ∀ W : World, Below wr.heap.size wr W → W.cell? ⟨w.heap.size, 0, none⟩ = some (.int .i64 n.kind) := fun W hW => (hat.keep hW).all.1
      have F1 : ∀ W : World, Below wr.heap.size wr W → W.cell? ⟨w.heap.size, 1, none⟩ = some (.slice (some ⟨b, off, none⟩) n.cs.length c) := fun W hW => by rw [← hAe]; exact (hat.keep hW).all.2.1
      have G0 : ∀ W : World, Below wr.heap.size wr W → W.cell? ⟨b, off + j * 5, none⟩ = some (.int .i64 cl.key) := fun W hW => (rangeKept hrg hW) 0 _ rfl
      have G1 : ∀ W : World, Below wr.heap.size wr W → W.cell? ⟨b, off + j * 5 + 1, none⟩ = some (.int .i64 cl.child) := fun W hW => (rangeKept hrg hW) 1 _ rfl
      have G2 : ∀ W : World, Below wr.heap.size wr W → W.cell? ⟨b, off + j * 5 + 2, none⟩ = some (.int .i64 cl.total) := fun W hW => (rangeKept hrg hW) 2 _ rfl
      have G3 : ∀ W : World, Below wr.heap.size wr W → W.cell? ⟨b, off + j * 5 + 3, none⟩ = some (.slice LA cl.loc.length d) := fun W hW => (rangeKept hrg hW) 3 _ rfl
      have G4 : ∀ W : World, Below wr.heap.size wr W → W.cell? ⟨b, off + j * 5 + 4, none⟩ = some (.int .i64 cl.spill) := fun W hW => (rangeKept hrg hW) 4 _ rfl
      rw [hAe] at m1
      clear hcell hcl hrd hat hAe
      go_upto_region 4 with fail
      clear m1
      refine wp_region_held_drew (S := (fun W => Below wr.heap.size wr W)) (by kernel_rfl) ?_ (fun hHeld => ?_)
      · exact (Below.refl _ wr).drew
      refine' wpAnyH_take (i := 0) (oi := _) (v := _) rfl (by kernel_rfl) (by kernel_rfl) (by kernel_rfl) (fun _ _ _ h => h) (Or.inl ⟨by rfl, ?hz1⟩) (by assumption) ?rezt1
      case hz1 => (intro w' hSw; (try dsimp only at hSw); go_simp; try with_reducible rfl)
      try simp only [Act.put, List.setIfInBounds_toArray, List.set_cons_zero, List.set_cons_succ, List.getElem_toArray, List.getElem_cons_zero, List.getElem_cons_succ]
      refine' wpAnyH_take (i := 1) (oi := _) (v := _) rfl (by kernel_rfl) (by kernel_rfl) (by kernel_rfl) (fun _ _ _ h => h) (Or.inl ⟨by rfl, ?hz2⟩) (by assumption) ?rezt2
      case hz2 => (intro w' hSw; (try dsimp only at hSw); go_simp; try with_reducible rfl)
      try simp only [Act.put, List.setIfInBounds_toArray, List.set_cons_zero, List.set_cons_succ, List.getElem_toArray, List.getElem_cons_zero, List.getElem_cons_succ]
      refine' wpAnyH_take (i := 2) (oi := _) (v := _) rfl (by kernel_rfl) (by kernel_rfl) (by kernel_rfl) (fun _ _ _ h => h) (Or.inl ⟨by rfl, ?hz3⟩) (by assumption) ?rezt3
      case hz3 => (intro w' hSw; (try dsimp only at hSw); go_simp; try with_reducible rfl)
      try simp only [Act.put, List.setIfInBounds_toArray, List.set_cons_zero, List.set_cons_succ, List.getElem_toArray, List.getElem_cons_zero, List.getElem_cons_succ]
      refine' wpAnyH_take (i := 3) (oi := _) (v := _) rfl (by kernel_rfl) (by kernel_rfl) (by kernel_rfl) (fun _ _ _ h => h) (Or.inl ⟨by rfl, ?hz4⟩) (by assumption) ?rezt4
      case hz4 => (intro w' hSw; (try dsimp only at hSw); go_simp; try with_reducible rfl)
      try simp only [Act.put, List.setIfInBounds_toArray, List.set_cons_zero, List.set_cons_succ, List.getElem_toArray, List.getElem_cons_zero, List.getElem_cons_succ]
      refine' wpAnyH_take (i := 4) (oi := _) (v := _) rfl (by kernel_rfl) (by kernel_rfl) (by kernel_rfl) (fun _ _ _ h => h) (Or.inl ⟨by rfl, ?hz5⟩) (by assumption) ?rezt5
      case hz5 => (intro w' hSw; (try dsimp only at hSw); go_simp; try with_reducible rfl)
      try simp only [Act.put, List.setIfInBounds_toArray, List.set_cons_zero, List.set_cons_succ, List.getElem_toArray, List.getElem_cons_zero, List.getElem_cons_succ]
      refine' wpAnyH_take (i := 5) (oi := _) (v := _) rfl (by kernel_rfl) (by kernel_rfl) (by kernel_rfl) (fun _ _ _ h => h) (Or.inl ⟨by rfl, ?hz6⟩) (by assumption) ?rezt6
      case hz6 => (intro w' hSw; (try dsimp only at hSw); go_simp; try with_reducible rfl)
      try simp only [Act.put, List.setIfInBounds_toArray, List.set_cons_zero, List.set_cons_succ, List.getElem_toArray, List.getElem_cons_zero, List.getElem_cons_succ]
      refine' wpAnyH_take (i := 6) (oi := _) (v := _) rfl (by kernel_rfl) (by kernel_rfl) (by kernel_rfl) (fun _ _ _ h => h) (Or.inl ⟨by rfl, ?hz7⟩) (by assumption) ?rezt7
      case hz7 => (intro w' hSw; (try dsimp only at hSw); go_simp; try with_reducible rfl)
      try simp only [Act.put, List.setIfInBounds_toArray, List.set_cons_zero, List.set_cons_succ, List.getElem_toArray, List.getElem_cons_zero, List.getElem_cons_succ]
      refine wpAnyH_ready (rs := [7]) (by kernel_rfl) (by simp) ?_
      refine AllReadyH.cons (o := _) rfl (fun K hK => ?_) AllReadyH.nil
      go_simp
      have hbd : Below wr.heap.size wr wr.drew := (Below.refl _ wr).drew
      go_at_call 36
      refine (rcencC_any _ n.kind cl LA cl.loc.length d HCO.out.1.1 hd1 hd2 rfl (HRD.out.keep hbd)).mono ?_
      rintro e w1 ⟨B1, n1, c1, rfl, hown1, hb1⟩
      have hbr1 : Below wr.heap.size wr w1 := hbd.trans (hb1.mono (Nat.le_refl _))
      have HL1 := Lib.hid hown1.len
      clear hb1 hbd hown1
      refine hK.out _ _ ?_ (fun hHeld => ?_)
      · exact hbr1
      clear hK K
      try simp only [Act.put, List.setIfInBounds_toArray, List.set_cons_zero, List.set_cons_succ, List.getElem_toArray, List.getElem_cons_zero, List.getElem_cons_succ]
      refine' wpAnyH_take (i := 8) (oi := _) (v := _) rfl (by kernel_rfl) (by kernel_rfl) (by kernel_rfl) (fun _ _ _ h => h) (Or.inl ⟨by rfl, ?hz8⟩) (by assumption) ?rezt8
      case hz8 => (intro w' hSw; (try dsimp only at hSw); go_simp; try with_reducible rfl)
      try simp only [Act.put, List.setIfInBounds_toArray, List.set_cons_zero, List.set_cons_succ, List.getElem_toArray, List.getElem_cons_zero, List.getElem_cons_succ]
      refine' wpAnyH_take (i := 9) (oi := _) (v := _) rfl (by kernel_rfl) (by kernel_rfl) (by kernel_rfl) (fun _ _ _ h => h) (Or.inl ⟨by rfl, ?hz9⟩) (by assumption) ?rezt9
      case hz9 => (intro w' hSw; (try dsimp only at hSw); go_simp; try with_reducible rfl)
      try simp only [Act.put, List.setIfInBounds_toArray, List.set_cons_zero, List.set_cons_succ, List.getElem_toArray, List.getElem_cons_zero, List.getElem_cons_succ]
      refine' wpAnyH_take (i := 10) (oi := _) (v := _) rfl (by kernel_rfl) (by kernel_rfl) (by kernel_rfl) (fun _ _ _ h => h) (Or.inl ⟨by rfl, ?hz10⟩) (by assumption) ?rezt10
      case hz10 => (intro w' hSw; (try dsimp only at hSw); go_simp; try with_reducible rfl)
      try simp only [Act.put, List.setIfInBounds_toArray, List.set_cons_zero, List.set_cons_succ, List.getElem_toArray, List.getElem_cons_zero, List.getElem_cons_succ]
      refine' wpAnyH_take (i := 11) (oi := _) (v := _) rfl (by kernel_rfl) (by kernel_rfl) (by kernel_rfl) (fun _ _ _ h => h) (Or.inl ⟨by rfl, ?hz11⟩) (by assumption) ?rezt11
      case hz11 => (intro w' hSw; (try dsimp only at hSw); go_simp; try with_reducible rfl)
      try simp only [Act.put, List.setIfInBounds_toArray, List.set_cons_zero, List.set_cons_succ, List.getElem_toArray, List.getElem_cons_zero, List.getElem_cons_succ]
      refine' wpAnyH_take (i := 12) (oi := _) (v := _) rfl (by kernel_rfl) (by kernel_rfl) (by kernel_rfl) (fun _ _ _ h => h) (Or.inl ⟨by rfl, ?hz12⟩) (by assumption) ?rezt12
      case hz12 => (intro w' hSw; (try dsimp only at hSw); go_simp; try with_reducible rfl)
      try simp only [Act.put, List.setIfInBounds_toArray, List.set_cons_zero, List.set_cons_succ, List.getElem_toArray, List.getElem_cons_zero, List.getElem_cons_succ]
      refine wpAnyH_done (by kernel_rfl) ?_ _
      clear F0 F1 G0 G1 G2 G3 G4
      have hb01 : Below W0.heap.size W0 w1 := hb.trans (hbr1.mono hb.size)
      have hn1b : n1 ≤ 100000 := by have h1 := encC_len (k := n.kind) HCO.out.1.1 HCO.out.2; have h2 := HL1.out; omega
      have HMEM := Lib.hid hmem
      clear hmem
      by_cases hgt : q < n1
      · have hgt' : (q : Int) < (n1 : Int) := by omega
        have HF := Lib.hid (decide_eq_false (show ¬ ∀ d ∈ n.cs, (encC n.kind d).length ≤ q from fun h => by have := h cl HMEM.out; have := HL1.out; omega))
        go_wp2_with fail
        rw [HR.out]
        exact ⟨by rw [HF.out] <;> rfl, hB0.trans (hb01.mono HBX.out.sz)⟩
      · have hgt' : ¬ (q : Int) < (n1 : Int) := by omega
        go_wp2_with fail
        go_roundw
        case rel =>
          refine ⟨j + 1, by omega, by go_num, fun d hd => ?_, hb01⟩
          rw [HCT.out] at hd
          rcases List.mem_append.1 hd with h | h
          · exact HALL.out d h
          · obtain rfl : d = cl := by simpa using h
            have := HL1.out
            omega
        case measure => simp [intOf]; omega
    · have hjn : j = n.cs.length := by omega
      have HF := Lib.hid (decide_eq_true (show ∀ d ∈ n.cs, (encC n.kind d).length ≤ q from fun d hd => HALL.out d (by rw [hjn, List.take_length]; exact hd)))
      have hjn2 : ¬ (j : Int) < (n.cs.length : Int) := by omega
      clear hjn
      go_wp2_with fail
      rw [HR.out]
      exact ⟨by rw [HF.out] <;> rfl, hB0.trans (hb.mono HBX.out.sz)⟩
end
section
open Go.RowKit
set_option maxRecDepth 100000
set_option linter.unusedVariables false
set_option linter.unusedSimpArgs false
set_option linter.unnecessarySimpa false
theorem nodesOf_at {n : Nd} {ps : List (Nat × Nat)} {i : Nat} (h : i < ps.length) : nd_ (nodesOf n ps) i = nodeI n (pr ps i).1 (pr ps i).2 := by
  rw [nd_lt (by rw [nodesOf_len]; exact h)]
  simp [nodesOf, pr, h]
theorem pr_eq {ps : List (Nat × Nat)} {i : Nat} (h : i < ps.length) : pr ps i = ps[i] := by simp [pr, h]
theorem sepsOf_parts {n : Nd} {most : Nat} {ps : List (Nat × Nat)} (h : Parts n most ps) : (sepsOf n ps).length = ps.length - 1 ∧ ∀ i, i + 1 < ps.length → cl_ (sepsOf n ps) i = sepI n (pr ps i).2 := by
  obtain ⟨h2, _, _, hl, hs⟩ := h
  have hne : ps ≠ [] := by rintro rfl; simp at h2
  have e : ps = ps.dropLast ++ [ps.getLast hne] := (List.dropLast_concat_getLast hne).symm
  have hlast : (ps.getLast hne).2 = n.cs.length := by
    rw [← hl, pr_eq (by omega), List.getLast_eq_getElem]
  have hall : ∀ p ∈ ps.dropLast, p.2 < n.cs.length := by
    intro p hp
    obtain ⟨i, hi, rfl⟩ := List.getElem_of_mem hp
    rw [List.length_dropLast] at hi
    have := (hs i (by omega)).2.1
    rw [pr_eq (by omega)] at this
    rw [List.getElem_dropLast]
    exact this
  have hf : sepsOf n ps = ps.dropLast.map fun p => sepI n p.2 := by
    unfold sepsOf
    rw [e, List.filter_append]
    have e1 : ps.dropLast.filter (fun p => decide (p.2 < n.cs.length)) = ps.dropLast := List.filter_eq_self.2 (fun p hp => decide_eq_true (hall p hp))
    have e2 : List.filter (fun p : Nat × Nat => decide (p.2 < n.cs.length)) [ps.getLast hne] = [] := by simp [List.filter, hlast]
    rw [← e, e1, e2, List.append_nil]
  refine ⟨by rw [hf, List.length_map, List.length_dropLast], fun i hi => ?_⟩
  rw [hf, cl_lt (by rw [List.length_map, List.length_dropLast]; omega), List.getElem_map, List.getElem_dropLast, pr_eq (by omega)]
theorem nodeI_ok {n : Nd} (hok : NdOk n) {a b : Nat} (hb : b ≤ n.cs.length) : NdOk (nodeI n a b) := by
  refine ⟨hok.1, ?_, fun c hc => hok.2.2 c (sgC_mem hc)⟩
  show i64b (rtI n b)
  unfold rtI
  split
  · exact hok.2.1
  · rename_i h
    have hlt : b < n.cs.length := by
      have : b ≠ n.cs.length := fun e => h (.inr e)
      omega
    have := (hok.2.2 (cl_ n.cs b) (by rw [cl_lt hlt]; exact List.getElem_mem hlt)).1.2.1
    exact this
theorem nodeI_few {n : Nd} (hl : n.cs.length ≤ 400) (hloc : ∀ d ∈ n.cs, d.loc.length ≤ 16384) {a b : Nat} (hb : b ≤ n.cs.length) : fewN (nodeI n a b) := by
  refine ⟨?_, fun c hc => hloc c (sgC_mem hc)⟩
  show (sgC n.cs a b).length ≤ 400
  rw [sgC_len hb]
  omega
theorem sepI_ok {n : Nd} (hok : NdOk n) (hloc : ∀ d ∈ n.cs, d.loc.length ≤ 16384) {b : Nat} (hb : b < n.cs.length) : ClOk (sepI n b) ∧ (sepI n b).loc.length ≤ 16384 := by
  have hmem : cl_ n.cs b ∈ n.cs := by rw [cl_lt hb]; exact List.getElem_mem hb
  have h1 : cl_ n.cs (b - 1) ∈ n.cs := by rw [cl_lt (by omega)]; exact List.getElem_mem _
  have k1 := hok.2.2 _ hmem
  have k2 := hok.2.2 _ h1
  unfold sepI
  split
  · exact ⟨⟨⟨k2.1.1, by simp [zeroC], by simp [zeroC], by simp [zeroC]⟩, isB_nil⟩, by simp [zeroC]⟩
  · exact ⟨⟨⟨k1.1.1, by simp, k1.1.2.2.1, k1.1.2.2.2⟩, k1.2⟩, hloc (cl_ n.cs b) hmem⟩
theorem sepI_child (n : Nd) (b : Nat) : (sepI n b).child = 0 := by
  unfold sepI
  split <;> rfl
theorem nodeI_last {n : Nd} {a b : Nat} (h : a < b) (hb : b ≤ n.cs.length) : cl_ (nodeI n a b).cs ((nodeI n a b).cs.length - 1) = cl_ n.cs (b - 1) := by
  show cl_ (sgC n.cs a b) ((sgC n.cs a b).length - 1) = _
  rw [sgC_len hb, sgC_get (by omega) hb, show a + (b - a - 1) = b - 1 by omega]
end
section
open Go.RowKit
set_option maxRecDepth 100000
set_option linter.unusedVariables false
set_option linter.unusedSimpArgs false
set_option linter.unnecessarySimpa false
theorem wp_load_ndo {ops : Array Oper} {rest : List Oper} {op : Oper} {a : Act} {w : World} {Q : Exit → Act → World → Prop} (hgd : op.guard = none) (x : Operand) (ho : op.op = .load 69 x) (g o : Nat) (n : Nd) (A : Option Addr) (c : Nat)
    (hx : a.eval x = .pointer (some ⟨g, o, none⟩)) (hc : w.rangeAt g o (ndC n A c)) (h : wpList Try.prog ops Q rest (a.put op.dst (n.val A c)) w) : wpList Try.prog ops Q (op :: rest) a w :=
  wpList_load_mid hgd 69 x ho g o hx (ndC n A c) _ hc Try.underlying69 rfl size_nd h
def allI (n : Nd) (ps : List (Nat × Nat)) (i : Nat) : Nd := nodeI n 0 (pr ps (i - 1)).2
def PdRel (wl : World) (n : Nd) (ps : List (Nat × Nat)) (g9 : Nat) (iv : Value) (wr : World) : Prop :=
  ∃ (i : Nat) (Aa : Option Addr) (ca : Nat), i ≤ ps.length ∧ iv = .int .i64 (i : Int) ∧ NdAt wr g9 (allI n ps i) Aa ca ∧ RdCl wr Aa (allI n ps i).cs ∧ wr.there g9 0 3 ∧ Box3 wr g9 ∧ Below g9 wl wr

set_option maxHeartbeats 64000000 in
theorem parted_any (w : World) (n : Nd) (A : Option Addr) (c N most : Nat) (base : Nat) (NA : Option Addr) (nc : Nat) (SA : Option Addr) (sc : Nat) (ps : List (Nat × Nat)) (hN : 256 ≤ N ∧ N ≤ 4096) (hms : N - 10 = most) (hl : n.cs.length ≤ 400) (hok : NdOk n) (hloc : ∀ d ∈ n.cs, d.loc.length ≤ 16384) (hm : mayN n) (hA : RdCl w A n.cs)
    (hst : SpSt base w NA nc (nodesOf n ps) SA sc (sepsOf n ps)) (hps : Parts n most ps) (R : Ending → World → Prop) (hR : R = fun e w' => e = .returned (.bool true) ∧ Below w.heap.size w w') :
    Calls Try.prog 54 #[n.val A c, .int .i64 (N : Int), .slice NA (nodesOf n ps).length nc, .slice SA (sepsOf n ps).length sc] w R := by
  have HR := Lib.hid hR; clear hR
  have HOK := Lib.hid hok
  have HLOC := Lib.hid hloc
  have HM := Lib.hid hm
  have HST := Lib.hid hst
  have HPS := Lib.hid hps
  obtain ⟨hsl, hsat⟩ := sepsOf_parts hps
  have HSAT := Lib.hid hsat
  have h2 := hps.1
  obtain ⟨m, hmL⟩ : ∃ m, ps.length = m := ⟨_, rfl⟩
  have HML := Lib.hid hmL
  have hnl := nodesOf_len n ps
  rw [hmL] at hsl hnl h2
  have HSL := Lib.hid hsl
  have HNL := Lib.hid hnl
  rw [hnl, hsl]
  have hmb : m ≤ 400 := by
    -- the parts rise
    have key : ∀ i, i < m → i < (pr ps i).2 := fun i => by
      induction i with
      | zero => intro hi; have := (hps.2.1 0 (by omega)).1; omega
      | succ i ih =>
        intro hi
        have h1 := ih (by omega)
        have h3 := (hps.2.2.2.2 i (by omega)).1
        have h4 := (hps.2.1 (i + 1) (by omega)).1
        have h5 := nxt_le n (pr ps i).2
        omega
    have h1 := key (m - 1) (by omega)
    have h3 := (hps.2.1 (m - 1) (by omega)).2.1
    omega
  obtain ⟨gN, A0, c0, hNA, hgN, hrg0, _, _, hrd0⟩ := hst.nodeAt (i := 0) (by rw [hnl]; omega)
  obtain ⟨gS, _, _, hSA, hgS, _, _, _, _⟩ := hst.sepAt (i := 0) (by rw [hsl]; omega)
  subst hNA
  subst hSA
  have e0 : nd_ (nodesOf n ps) 0 = allI n ps 0 := by
    rw [nodesOf_at (by omega)]
    show nodeI n (pr ps 0).1 (pr ps 0).2 = nodeI n 0 (pr ps 0).2
    rw [hps.2.2.1]
  rw [e0] at hrg0 hrd0
  obtain ⟨W0, hW0⟩ : ∃ W, W = w.alloc (.cells #[.int .i64 n.kind, .slice A n.cs.length c, .int .i64 n.right] 69) := ⟨_, rfl⟩
  have HBX := Lib.hid (Bx.of hW0 hA)
  have hs00 : w.heap.size < W0.heap.size := by rw [hW0]; simp
  have hB0 := HBX.out.bel
  have hs0 := HBX.out.sz
  have HRG0 := Lib.hid (rangeKeep hrg0 hB0 hgN)
  have HRD0 := Lib.hid (hrd0.keep hB0)
  have HW := Lib.hid hW0
  have hms' : IntKind.i64.wrap ((N : Int) - 10) = (most : Int) := by rw [IntWalk.i64_in _ (by omega)]; omega
  have HMS := Lib.hid hms'
  have hmost : most ≤ 4096 := by omega
  have hm2 : ¬ (m : Int) < 2 := by omega
  have q1 : (((m - 1 : Nat) : Int) != (m : Int) - 1) = false := by
    rw [show ((m - 1 : Nat) : Int) = (m : Int) - 1 by omega]
    simp
  clear hW0 hok hloc hm hst hps hsl hsat hnl hmL hrg0 hrd0 e0 hms hms' hA
  unfold Nd.val
  go_enter Try.func54, Try.ntmps54
  go_upto_region 1 with fail
  rw [← HW.out]
  clear HW
  go_upto_region 3 with fail
  iterate 7 go_step
  refine wp_load_ndo rfl _ rfl gN 0 (allI n ps 0) A0 c0 rfl HRG0.out ?_
  iterate 3 go_step
  obtain ⟨W1, hW1⟩ : ∃ W, W = W0.alloc (.cells #[.int .i64 0, .slice none 0 0, .int .i64 0] 69) := ⟨_, rfl⟩
  have hb1 : Below W0.heap.size W0 W1 := by rw [hW1]; exact (Below.refl _ _).alloc (Nat.le_refl _) _
  have HT1 := Lib.hid (show W1.there W0.heap.size 0 3 by rw [hW1]; exact there_new3 W0 _ _ _ _)
  have HB1 := Lib.hid (show Box3 W1 W0.heap.size by rw [hW1]; exact Box3.new W0 _)
  rw [← hW1]
  clear hW1
  refine wp_store_nd rfl _ _ rfl W0.heap.size (allI n ps 0) A0 c0 rfl rfl HT1.out ?_
  obtain ⟨wl, hwl⟩ : ∃ W, W = W1.setCells W0.heap.size 0 (ndC (allI n ps 0) A0 c0) := ⟨_, rfl⟩
  have hbl : Below W0.heap.size W0 wl := by rw [hwl]; exact below_setCellsR hb1 (Nat.le_refl _) _ _
  have HNl := Lib.hid (show NdAt wl W0.heap.size (allI n ps 0) A0 c0 by rw [hwl]; exact NdAt.stored HT1.out _ _ _)
  have HTl := Lib.hid (show wl.there W0.heap.size 0 3 by rw [hwl]; exact World.there_setCells HT1.out _ _ _)
  have HBl := Lib.hid (show Box3 wl W0.heap.size by rw [hwl]; exact HB1.out.sets _ _ _)
  have HRDl := Lib.hid (HRD0.out.keep hbl)
  rw [← hwl]
  obtain ⟨g9, hg9⟩ : ∃ x, W0.heap.size = x := ⟨_, rfl⟩
  have HG9 := Lib.hid hg9
  have hl9 : w.heap.size < g9 := by omega
  rw [hg9] at HNl HTl HBl hbl ⊢
  have hb0l : Below w.heap.size w wl := hB0.trans (hbl.mono (by omega))
  clear hwl hb1 HT1 HB1 hg9 HRG0 HRD0
  go_wp2_with fail
  go_loopw [10] (PdRel wl n ps g9) (fun i _ => m - (intOf i).toNat)
  case atStart => exact ⟨0, A0, c0, Nat.zero_le _, rfl, HNl.out, HRDl.out, HTl.out, HBl.out, Below.refl _ _⟩
  case round =>
    obtain ⟨i, Aa, ca, hi, rfl, hna, hrda, hta, hba, hbw⟩ := hrel
    rw [HML.out] at hi
    have HNa := Lib.hid hna
    have HRDa := Lib.hid hrda
    have HTa := Lib.hid hta
    have HBa := Lib.hid hba
    have hbw0 : Below w.heap.size w wr := hb0l.trans (hbw.mono (Nat.le_of_lt hl9))
    have hbr0 : Below g9 W0 wr := hbl.trans hbw
    have hzw : g9 < wr.heap.size := hba.lt
    clear hna hrda hta hba
    by_cases hlt : i < m
    · have hlt' : (i : Int) < (m : Int) := by omega
      have i0 : (0 : Int) ≤ (i : Int) := by omega
      have hpi := HPS.out.2.1 i (by rw [HML.out]; exact hlt)
      obtain ⟨gN', Ai, ci, hgg, _, hrgi, hci, hcim, hrdi⟩ := HST.out.nodeAt (i := i) (by rw [HNL.out]; exact hlt)
      injection hgg with hgg
      injection hgg with hgg
      subst hgg
      rw [nodesOf_at (by rw [HML.out]; exact hlt)] at hrgi hci hrdi
      obtain ⟨x, hx⟩ : ∃ x, nodeI n (pr ps i).1 (pr ps i).2 = x := ⟨_, rfl⟩
      have hxk : x.kind = n.kind := by rw [← hx]; rfl
      have hxl : 0 < x.cs.length := by
        rw [← hx]
        show 0 < (sgC n.cs (pr ps i).1 (pr ps i).2).length
        rw [sgC_len hpi.2.1]
        have := hpi.1
        omega
      have HXT := Lib.hid (show takesN x.kind x.cs ≤ most by rw [← hx]; exact hpi.2.2)
      have HXM := Lib.hid (show mayN x by rw [← hx]; exact nodeI_may HM.out hpi.2.1)
      have HXO := Lib.hid (show NdOk x by rw [← hx]; exact nodeI_ok HOK.out hpi.2.1)
      have HXF := Lib.hid (show fewN x by rw [← hx]; exact nodeI_few hl HLOC.out hpi.2.1)
      have HXK := Lib.hid hxk
      have HX := Lib.hid hx
      rw [hx] at hrgi hci hrdi
      have HRGi := Lib.hid hrgi
      have HRDi := Lib.hid hrdi
      have hgNr : gN < wr.heap.size := Nat.lt_of_lt_of_le hgN hbw0.size
      have HRGr := Lib.hid (rangeKeep hrgi hbw0 hgN)
      have hx400 : x.cs.length ≤ 400 := HXF.out.1
      have hxl' : ((x.cs.length : Int) == 0) = false := by rw [beq_eq_false_iff_ne]; omega
      obtain ⟨tx, htx⟩ : ∃ t, takesN x.kind x.cs = t := ⟨_, rfl⟩
      have HTX := Lib.hid htx
      have htxm : ¬ (most : Int) < (tx : Int) := by have := HXT.out; omega
      have HKw := Lib.hid (HBX.out.at_)
      have G0 : ∀ W : World, Below wr.heap.size wr W → W.cell? ⟨gN, i * 3, none⟩ = some (.int .i64 n.kind) := fun W hW => by
        have := (rangeKeep HRGr.out hW hgNr) 0 _ rfl
        rw [Nat.add_zero, HXK.out] at this
        exact this
      have G1 : ∀ W : World, Below wr.heap.size wr W → W.cell? ⟨gN, i * 3 + 1, none⟩ = some (.slice Ai x.cs.length ci) := fun W hW => (rangeKeep HRGr.out hW hgNr) 1 _ rfl
      have FK : ∀ W : World, Below wr.heap.size wr W → W.cell? ⟨w.heap.size, 0, none⟩ = some (.int .i64 n.kind) := fun W hW => ((HKw.out.keepB hbr0 hl9).keep hW).all.1
      clear hpi hx hxk hrgi hrdi htx
      have hms' := HMS.out
      go_upto_region 7 with fail
      refine wp_region_held_drew (S := (fun W => Below wr.heap.size wr W)) (by kernel_rfl) ?_ (fun hHeld => ?_)
      · exact (Below.refl _ wr).drew
      refine' wpAnyH_take (i := 0) (oi := _) (v := _) rfl (by kernel_rfl) (by kernel_rfl) (by kernel_rfl) (fun _ _ _ h => h) (Or.inl ⟨by rfl, ?hz1⟩) (by assumption) ?rezt1
      case hz1 => (intro w' hSw; (try dsimp only at hSw); go_simp; try with_reducible rfl)
      try simp only [Act.put, List.setIfInBounds_toArray, List.set_cons_zero, List.set_cons_succ, List.getElem_toArray, List.getElem_cons_zero, List.getElem_cons_succ]
      refine' wpAnyH_take (i := 1) (oi := _) (v := _) rfl (by kernel_rfl) (by kernel_rfl) (by kernel_rfl) (fun _ _ _ h => h) (Or.inl ⟨by rfl, ?hz2⟩) (by assumption) ?rezt2
      case hz2 => (intro w' hSw; (try dsimp only at hSw); go_simp; try with_reducible rfl)
      try simp only [Act.put, List.setIfInBounds_toArray, List.set_cons_zero, List.set_cons_succ, List.getElem_toArray, List.getElem_cons_zero, List.getElem_cons_succ]
      refine' wpAnyH_take (i := 2) (oi := _) (v := _) rfl (by kernel_rfl) (by kernel_rfl) (by kernel_rfl) (fun _ _ _ h => h) (Or.inl ⟨by rfl, ?hz3⟩) (by assumption) ?rezt3
      case hz3 => (intro w' hSw; (try dsimp only at hSw); go_simp; try with_reducible rfl)
      try simp only [Act.put, List.setIfInBounds_toArray, List.set_cons_zero, List.set_cons_succ, List.getElem_toArray, List.getElem_cons_zero, List.getElem_cons_succ]
      refine' wpAnyH_take (i := 3) (oi := _) (v := x.val Ai ci) rfl (by kernel_rfl) (by kernel_rfl) (by kernel_rfl) (fun _ _ _ h => h) (yieldsIf_load_mid (by rfl) 69 _ rfl gN (i * 3) rfl (ndC x Ai ci) _ (fun W hW => rangeKeep HRGr.out hW hgNr) Try.underlying69 rfl size_nd) (by assumption) ?rezl1
      try simp only [Act.put, List.setIfInBounds_toArray, List.set_cons_zero, List.set_cons_succ, List.getElem_toArray, List.getElem_cons_zero, List.getElem_cons_succ]
      refine wpAnyH_ready (rs := [4]) (by kernel_rfl) (by simp) ?_
      refine AllReadyH.cons (o := _) rfl (fun K hK => ?_) AllReadyH.nil
      go_simp
      have hbd : Below wr.heap.size wr wr.drew := (Below.refl _ wr).drew
      go_at_call 51
      refine (rMay_any _ x Ai ci (by omega) HXO.out (fun d hd => by have := HXF.out.2 d hd; omega) (HRDi.out.keep (hbw0.trans (hbd.mono hbw0.size))) _ rfl).mono ?_
      rintro e w2 ⟨rfl, hb2⟩
      rw [decide_eq_true HXM.out]
      have hbr2 : Below wr.heap.size wr w2 := hbd.trans (hb2.mono (Nat.le_refl _))
      clear hb2 hbd
      refine hK.out _ _ ?_ (fun hHeld => ?_)
      · exact hbr2
      clear hK K
      try simp only [Act.put, List.setIfInBounds_toArray, List.set_cons_zero, List.set_cons_succ, List.getElem_toArray, List.getElem_cons_zero, List.getElem_cons_succ]
      refine' wpAnyH_take (i := 5) (oi := _) (v := _) rfl (by kernel_rfl) (by kernel_rfl) (by kernel_rfl) (fun _ _ _ h => h) (Or.inl ⟨by rfl, ?hz4⟩) (by assumption) ?rezt4
      case hz4 => (intro w' hSw; (try dsimp only at hSw); go_simp; try with_reducible rfl)
      try simp only [Act.put, List.setIfInBounds_toArray, List.set_cons_zero, List.set_cons_succ, List.getElem_toArray, List.getElem_cons_zero, List.getElem_cons_succ]
      refine' wpAnyH_take (i := 6) (oi := _) (v := _) rfl (by kernel_rfl) (by kernel_rfl) (by kernel_rfl) (fun _ _ _ h => h) (Or.inl ⟨by rfl, ?hz5⟩) (by assumption) ?rezt5
      case hz5 => (intro w' hSw; (try dsimp only at hSw); go_simp; try with_reducible rfl)
      try simp only [Act.put, List.setIfInBounds_toArray, List.set_cons_zero, List.set_cons_succ, List.getElem_toArray, List.getElem_cons_zero, List.getElem_cons_succ]
      refine' wpAnyH_take (i := 7) (oi := _) (v := _) rfl (by kernel_rfl) (by kernel_rfl) (by kernel_rfl) (fun _ _ _ h => h) (Or.inl ⟨by rfl, ?hz6⟩) (by assumption) ?rezt6
      case hz6 => (intro w' hSw; (try dsimp only at hSw); go_simp; try with_reducible rfl)
      try simp only [Act.put, List.setIfInBounds_toArray, List.set_cons_zero, List.set_cons_succ, List.getElem_toArray, List.getElem_cons_zero, List.getElem_cons_succ]
      refine' wpAnyH_take (i := 8) (oi := _) (v := _) rfl (by kernel_rfl) (by kernel_rfl) (by kernel_rfl) (fun _ _ _ h => h) (Or.inl ⟨by rfl, ?hz7⟩) (by assumption) ?rezt7
      case hz7 => (intro w' hSw; (try dsimp only at hSw); go_simp; try with_reducible rfl)
      try simp only [Act.put, List.setIfInBounds_toArray, List.set_cons_zero, List.set_cons_succ, List.getElem_toArray, List.getElem_cons_zero, List.getElem_cons_succ]
      refine' wpAnyH_take (i := 9) (oi := _) (v := _) rfl (by kernel_rfl) (by kernel_rfl) (by kernel_rfl) (fun _ _ _ h => h) (Or.inl ⟨by rfl, ?hz8⟩) (by assumption) ?rezt8
      case hz8 => (intro w' hSw; (try dsimp only at hSw); go_simp; try with_reducible rfl)
      try simp only [Act.put, List.setIfInBounds_toArray, List.set_cons_zero, List.set_cons_succ, List.getElem_toArray, List.getElem_cons_zero, List.getElem_cons_succ]
      refine' wpAnyH_take (i := 10) (oi := _) (v := _) rfl (by kernel_rfl) (by kernel_rfl) (by kernel_rfl) (fun _ _ _ h => h) (Or.inl ⟨by rfl, ?hz9⟩) (by assumption) ?rezt9
      case hz9 => (intro w' hSw; (try dsimp only at hSw); go_simp; try with_reducible rfl)
      try simp only [Act.put, List.setIfInBounds_toArray, List.set_cons_zero, List.set_cons_succ, List.getElem_toArray, List.getElem_cons_zero, List.getElem_cons_succ]
      refine' wpAnyH_take (i := 11) (oi := _) (v := _) rfl (by kernel_rfl) (by kernel_rfl) (by kernel_rfl) (fun _ _ _ h => h) (Or.inl ⟨by rfl, ?hz10⟩) (by assumption) ?rezt10
      case hz10 => (intro w' hSw; (try dsimp only at hSw); go_simp; try with_reducible rfl)
      try simp only [Act.put, List.setIfInBounds_toArray, List.set_cons_zero, List.set_cons_succ, List.getElem_toArray, List.getElem_cons_zero, List.getElem_cons_succ]
      refine' wpAnyH_take (i := 12) (oi := _) (v := _) rfl (by kernel_rfl) (by kernel_rfl) (by kernel_rfl) (fun _ _ _ h => h) (Or.inl ⟨by rfl, ?hz11⟩) (by assumption) ?rezt11
      case hz11 => (intro w' hSw; (try dsimp only at hSw); go_simp; try with_reducible rfl)
      try simp only [Act.put, List.setIfInBounds_toArray, List.set_cons_zero, List.set_cons_succ, List.getElem_toArray, List.getElem_cons_zero, List.getElem_cons_succ]
      refine' wpAnyH_take (i := 13) (oi := _) (v := _) rfl (by kernel_rfl) (by kernel_rfl) (by kernel_rfl) (fun _ _ _ h => h) (Or.inl ⟨by rfl, ?hz12⟩) (by assumption) ?rezt12
      case hz12 => (intro w' hSw; (try dsimp only at hSw); go_simp; try with_reducible rfl)
      try simp only [Act.put, List.setIfInBounds_toArray, List.set_cons_zero, List.set_cons_succ, List.getElem_toArray, List.getElem_cons_zero, List.getElem_cons_succ]
      refine' wpAnyH_take (i := 14) (oi := _) (v := _) rfl (by kernel_rfl) (by kernel_rfl) (by kernel_rfl) (fun _ _ _ h => h) (Or.inl ⟨by rfl, ?hz13⟩) (by assumption) ?rezt13
      case hz13 => (intro w' hSw; (try dsimp only at hSw); go_simp; try with_reducible rfl)
      try simp only [Act.put, List.setIfInBounds_toArray, List.set_cons_zero, List.set_cons_succ, List.getElem_toArray, List.getElem_cons_zero, List.getElem_cons_succ]
      refine' wpAnyH_take (i := 15) (oi := _) (v := _) rfl (by kernel_rfl) (by kernel_rfl) (by kernel_rfl) (fun _ _ _ h => h) (Or.inl ⟨by rfl, ?hz14⟩) (by assumption) ?rezt14
      case hz14 => (intro w' hSw; (try dsimp only at hSw); go_simp; try with_reducible rfl)
      try simp only [Act.put, List.setIfInBounds_toArray, List.set_cons_zero, List.set_cons_succ, List.getElem_toArray, List.getElem_cons_zero, List.getElem_cons_succ]
      refine' wpAnyH_take (i := 16) (oi := _) (v := _) rfl (by kernel_rfl) (by kernel_rfl) (by kernel_rfl) (fun _ _ _ h => h) (Or.inl ⟨by rfl, ?hz15⟩) (by assumption) ?rezt15
      case hz15 => (intro w' hSw; (try dsimp only at hSw); go_simp; try with_reducible rfl)
      try simp only [Act.put, List.setIfInBounds_toArray, List.set_cons_zero, List.set_cons_succ, List.getElem_toArray, List.getElem_cons_zero, List.getElem_cons_succ]
      refine' wpAnyH_take (i := 17) (oi := _) (v := _) rfl (by kernel_rfl) (by kernel_rfl) (by kernel_rfl) (fun _ _ _ h => h) (Or.inl ⟨by rfl, ?hz16⟩) (by assumption) ?rezt16
      case hz16 => (intro w' hSw; (try dsimp only at hSw); go_simp; try with_reducible rfl)
      try simp only [Act.put, List.setIfInBounds_toArray, List.set_cons_zero, List.set_cons_succ, List.getElem_toArray, List.getElem_cons_zero, List.getElem_cons_succ]
      refine' wpAnyH_take (i := 18) (oi := _) (v := _) rfl (by kernel_rfl) (by kernel_rfl) (by kernel_rfl) (fun _ _ _ h => h) (Or.inl ⟨by rfl, ?hz17⟩) (by assumption) ?rezt17
      case hz17 => (intro w' hSw; (try dsimp only at hSw); go_simp; try with_reducible rfl)
      try simp only [Act.put, List.setIfInBounds_toArray, List.set_cons_zero, List.set_cons_succ, List.getElem_toArray, List.getElem_cons_zero, List.getElem_cons_succ]
      refine' wpAnyH_take (i := 19) (oi := _) (v := _) rfl (by kernel_rfl) (by kernel_rfl) (by kernel_rfl) (fun _ _ _ h => h) (Or.inl ⟨by rfl, ?hz18⟩) (by assumption) ?rezt18
      case hz18 => (intro w' hSw; (try dsimp only at hSw); go_simp; try with_reducible rfl)
      try simp only [Act.put, List.setIfInBounds_toArray, List.set_cons_zero, List.set_cons_succ, List.getElem_toArray, List.getElem_cons_zero, List.getElem_cons_succ]
      refine' wpAnyH_take (i := 20) (oi := _) (v := _) rfl (by kernel_rfl) (by kernel_rfl) (by kernel_rfl) (fun _ _ _ h => h) (Or.inl ⟨by rfl, ?hz19⟩) (by assumption) ?rezt19
      case hz19 => (intro w' hSw; (try dsimp only at hSw); go_simp; try with_reducible rfl)
      try simp only [Act.put, List.setIfInBounds_toArray, List.set_cons_zero, List.set_cons_succ, List.getElem_toArray, List.getElem_cons_zero, List.getElem_cons_succ]
      refine' wpAnyH_take (i := 21) (oi := _) (v := _) rfl (by kernel_rfl) (by kernel_rfl) (by kernel_rfl) (fun _ _ _ h => h) (Or.inl ⟨by rfl, ?hz20⟩) (by assumption) ?rezt20
      case hz20 => (intro w' hSw; (try dsimp only at hSw); go_simp; try with_reducible rfl)
      try simp only [Act.put, List.setIfInBounds_toArray, List.set_cons_zero, List.set_cons_succ, List.getElem_toArray, List.getElem_cons_zero, List.getElem_cons_succ]
      refine' wpAnyH_take (i := 22) (oi := _) (v := _) rfl (by kernel_rfl) (by kernel_rfl) (by kernel_rfl) (fun _ _ _ h => h) (Or.inl ⟨by rfl, ?hz21⟩) (by assumption) ?rezt21
      case hz21 => (intro w' hSw; (try dsimp only at hSw); go_simp; try with_reducible rfl)
      try simp only [Act.put, List.setIfInBounds_toArray, List.set_cons_zero, List.set_cons_succ, List.getElem_toArray, List.getElem_cons_zero, List.getElem_cons_succ]
      refine' wpAnyH_take (i := 23) (oi := _) (v := _) rfl (by kernel_rfl) (by kernel_rfl) (by kernel_rfl) (fun _ _ _ h => h) (Or.inl ⟨by rfl, ?hz22⟩) (by assumption) ?rezt22
      case hz22 => (intro w' hSw; (try dsimp only at hSw); go_simp; try with_reducible rfl)
      try simp only [Act.put, List.setIfInBounds_toArray, List.set_cons_zero, List.set_cons_succ, List.getElem_toArray, List.getElem_cons_zero, List.getElem_cons_succ]
      refine' wpAnyH_take (i := 24) (oi := _) (v := _) rfl (by kernel_rfl) (by kernel_rfl) (by kernel_rfl) (fun _ _ _ h => h) (Or.inl ⟨by rfl, ?hz23⟩) (by assumption) ?rezt23
      case hz23 => (intro w' hSw; (try dsimp only at hSw); go_simp; try with_reducible rfl)
      try simp only [Act.put, List.setIfInBounds_toArray, List.set_cons_zero, List.set_cons_succ, List.getElem_toArray, List.getElem_cons_zero, List.getElem_cons_succ]
      refine' wpAnyH_take (i := 25) (oi := _) (v := _) rfl (by kernel_rfl) (by kernel_rfl) (by kernel_rfl) (fun _ _ _ h => h) (Or.inl ⟨by rfl, ?hz24⟩) (by assumption) ?rezt24
      case hz24 => (intro w' hSw; (try dsimp only at hSw); go_simp; try with_reducible rfl)
      try simp only [Act.put, List.setIfInBounds_toArray, List.set_cons_zero, List.set_cons_succ, List.getElem_toArray, List.getElem_cons_zero, List.getElem_cons_succ]
      refine' wpAnyH_take (i := 26) (oi := _) (v := _) rfl (by kernel_rfl) (by kernel_rfl) (by kernel_rfl) (fun _ _ _ h => h) (Or.inl ⟨by rfl, ?hz25⟩) (by assumption) ?rezt25
      case hz25 => (intro w' hSw; (try dsimp only at hSw); go_simp; try with_reducible rfl)
      try simp only [Act.put, List.setIfInBounds_toArray, List.set_cons_zero, List.set_cons_succ, List.getElem_toArray, List.getElem_cons_zero, List.getElem_cons_succ]
      refine' wpAnyH_take (i := 27) (oi := _) (v := _) rfl (by kernel_rfl) (by kernel_rfl) (by kernel_rfl) (fun _ _ _ h => h) (Or.inl ⟨by rfl, ?hz26⟩) (by assumption) ?rezt26
      case hz26 => (intro w' hSw; (try dsimp only at hSw); go_simp; try with_reducible rfl)
      try simp only [Act.put, List.setIfInBounds_toArray, List.set_cons_zero, List.set_cons_succ, List.getElem_toArray, List.getElem_cons_zero, List.getElem_cons_succ]
      refine' wpAnyH_take (i := 28) (oi := _) (v := _) rfl (by kernel_rfl) (by kernel_rfl) (by kernel_rfl) (fun _ _ _ h => h) (Or.inl ⟨by rfl, ?hz27⟩) (by assumption) ?rezt27
      case hz27 => (intro w' hSw; (try dsimp only at hSw); go_simp; try with_reducible rfl)
      try simp only [Act.put, List.setIfInBounds_toArray, List.set_cons_zero, List.set_cons_succ, List.getElem_toArray, List.getElem_cons_zero, List.getElem_cons_succ]
      refine' wpAnyH_take (i := 31) (oi := _) (v := _) rfl (by kernel_rfl) (by kernel_rfl) (by kernel_rfl) (fun _ _ _ h => h) (Or.inl ⟨by rfl, ?hz28⟩) (by assumption) ?rezt28
      case hz28 => (intro w' hSw; (try dsimp only at hSw); go_simp; try with_reducible rfl)
      try simp only [Act.put, List.setIfInBounds_toArray, List.set_cons_zero, List.set_cons_succ, List.getElem_toArray, List.getElem_cons_zero, List.getElem_cons_succ]
      refine' wpAnyH_take (i := 32) (oi := _) (v := _) rfl (by kernel_rfl) (by kernel_rfl) (by kernel_rfl) (fun _ _ _ h => h) (Or.inl ⟨by rfl, ?hz29⟩) (by assumption) ?rezt29
      case hz29 => (intro w' hSw; (try dsimp only at hSw); go_simp; try with_reducible rfl)
      try simp only [Act.put, List.setIfInBounds_toArray, List.set_cons_zero, List.set_cons_succ, List.getElem_toArray, List.getElem_cons_zero, List.getElem_cons_succ]
      refine' wpAnyH_take (i := 29) (oi := _) (v := x.val Ai ci) rfl (by kernel_rfl) (by kernel_rfl) (by kernel_rfl) (fun _ _ _ h => h) (yieldsIf_load_mid (by rfl) 69 _ rfl gN (i * 3) rfl (ndC x Ai ci) _ (fun W hW => rangeKeep HRGr.out hW hgNr) Try.underlying69 rfl size_nd) (by assumption) ?rezl2
      try simp only [Act.put, List.setIfInBounds_toArray, List.set_cons_zero, List.set_cons_succ, List.getElem_toArray, List.getElem_cons_zero, List.getElem_cons_succ]
      refine wpAnyH_ready (rs := [30]) (by kernel_rfl) (by simp) ?_
      refine AllReadyH.cons (o := _) rfl (fun K hK => ?_) AllReadyH.nil
      go_simp
      go_at_call 52
      refine (rTakes_any _ x Ai ci (by omega) (fun d hd => ⟨HXO.out.2.2 d hd, HXF.out.2 d hd⟩) (HRDi.out.keep (hbw0.trans (hbr2.mono hbw0.size))) _ rfl).mono ?_
      rintro e w3 ⟨rfl, hb3⟩
      rw [HTX.out]
      have hbr3 : Below wr.heap.size wr w3 := hbr2.trans (hb3.mono hbr2.size)
      clear hb3
      refine hK.out _ _ ?_ (fun hHeld => ?_)
      · exact hbr3
      clear hK K
      try simp only [Act.put, List.setIfInBounds_toArray, List.set_cons_zero, List.set_cons_succ, List.getElem_toArray, List.getElem_cons_zero, List.getElem_cons_succ]
      refine' wpAnyH_take (i := 33) (oi := _) (v := _) rfl (by kernel_rfl) (by kernel_rfl) (by kernel_rfl) (fun _ _ _ h => h) (Or.inl ⟨by rfl, ?hz30⟩) (by assumption) ?rezt30
      case hz30 => (intro w' hSw; (try dsimp only at hSw); go_simp; try with_reducible rfl)
      try simp only [Act.put, List.setIfInBounds_toArray, List.set_cons_zero, List.set_cons_succ, List.getElem_toArray, List.getElem_cons_zero, List.getElem_cons_succ]
      refine' wpAnyH_take (i := 34) (oi := _) (v := _) rfl (by kernel_rfl) (by kernel_rfl) (by kernel_rfl) (fun _ _ _ h => h) (Or.inl ⟨by rfl, ?hz31⟩) (by assumption) ?rezt31
      case hz31 => (intro w' hSw; (try dsimp only at hSw); go_simp; try with_reducible rfl)
      try simp only [Act.put, List.setIfInBounds_toArray, List.set_cons_zero, List.set_cons_succ, List.getElem_toArray, List.getElem_cons_zero, List.getElem_cons_succ]
      refine wpAnyH_done (by kernel_rfl) ?_ _
      clear G0 G1 FK hms'
      have hbw3 : Below g9 wl w3 := hbw.trans (hbr3.mono (Nat.le_of_lt hzw))
      by_cases hi0 : i = 0
      · subst hi0
        have HN3 := Lib.hid (HNa.out.keep hbr3)
        have HR3 := Lib.hid (HRDa.out.keep hbr3)
        have HT3 := Lib.hid (there_keepR HTa.out hbr3 hzw)
        have HB3 := Lib.hid (HBa.out.same (hbr3.block g9 hzw))
        clear HNa HRDa HTa HBa
        go_wp2_with fail
        go_roundw
        case rel => exact ⟨1, Aa, ca, by rw [HML.out]; omega, by go_num, HN3.out, HR3.out, HT3.out, HB3.out, hbw3⟩
        case measure => simp [intOf]; omega
      obtain ⟨j, rfl⟩ : ∃ j, i = j + 1 := ⟨i - 1, by omega⟩
      have q0 : (((j + 1 : Nat) : Int) == 0) = false := by simp; omega
      have hsub : ((j + 1 : Nat) : Int) - 1 = (j : Int) := by omega
      have hwj : IntKind.i64.wrap (j : Int) = (j : Int) := IntWalk.i64_in _ (by omega)
      have j0 : (0 : Int) ≤ (j : Int) := by omega
      have hlt2 : (j : Int) + 1 < (m : Int) := by omega
      have i02 : (0 : Int) ≤ (j : Int) + 1 := by omega
      have hjm : (j : Int) < (m : Int) := by omega
      have hjs : (j : Int) < ((m - 1 : Nat) : Int) := by omega
      have hpj := HPS.out.2.1 j (by rw [HML.out]; omega)
      have hpj2 := HPS.out.2.2.2.2 j (by rw [HML.out]; omega)
      have hpi := HPS.out.2.1 (j + 1) (by rw [HML.out]; omega)
      -- the node ahead
      obtain ⟨gN', Aj, cj, hgg, _, hrgj, hcj, hcjm, hrdj⟩ := HST.out.nodeAt (i := j) (by rw [HNL.out]; omega)
      injection hgg with hgg
      injection hgg with hgg
      subst hgg
      rw [nodesOf_at (by rw [HML.out]; omega)] at hrgj hcj hrdj
      obtain ⟨y, hy⟩ : ∃ y, nodeI n (pr ps j).1 (pr ps j).2 = y := ⟨_, rfl⟩
      rw [hy] at hrgj hcj hrdj
      have HY := Lib.hid hy
      have HYO := Lib.hid (show NdOk y by rw [← hy]; exact nodeI_ok HOK.out hpj.2.1)
      have HYF := Lib.hid (show fewN y by rw [← hy]; exact nodeI_few hl HLOC.out hpj.2.1)
      have HRGj := Lib.hid (rangeKeep hrgj hbw0 hgN)
      have HRDj := Lib.hid hrdj
      -- what stands between
      obtain ⟨gS', Sj, dj, hgg, _, hrgs, hds, hdsm, hrds⟩ := HST.out.sepAt (i := j) (by rw [HSL.out]; omega)
      injection hgg with hgg
      injection hgg with hgg
      subst hgg
      rw [HSAT.out j (by rw [HML.out]; omega)] at hrgs hds hrds
      obtain ⟨sp, hsp⟩ : ∃ y, sepI n (pr ps j).2 = y := ⟨_, rfl⟩
      rw [hsp] at hrgs hds hrds
      have HSP := Lib.hid hsp
      have HSO := Lib.hid (show ClOk sp ∧ sp.loc.length ≤ 16384 by rw [← hsp]; exact sepI_ok HOK.out HLOC.out hpj2.2.1)
      have HSC := Lib.hid (show sp.child = 0 by rw [← hsp]; exact sepI_child _ _)
      have HRGs := Lib.hid (rangeKeep hrgs hbw0 hgS)
      have HRDs := Lib.hid hrds
      have hgSr : gS < wr.heap.size := Nat.lt_of_lt_of_le hgS hbw0.size
      -- all so far
      have hall : allI n ps (j + 1) = nodeI n 0 (pr ps j).2 := rfl
      obtain ⟨al, hal⟩ : ∃ y, allI n ps (j + 1) = y := ⟨_, rfl⟩
      rw [hal] at HNa HRDa
      have HAO := Lib.hid (show NdOk al by rw [← hal, hall]; exact nodeI_ok HOK.out hpj.2.1)
      have HAF := Lib.hid (show fewN al by rw [← hal, hall]; exact nodeI_few hl HLOC.out hpj.2.1)
      -- both joins
      obtain ⟨two, htwo⟩ : ∃ y, nodeI n (pr ps j).1 (pr ps (j + 1)).2 = y := ⟨_, rfl⟩
      have HTW := Lib.hid htwo
      have HTWJ := Lib.hid (show joinOk y sp x ∧ joinM y sp x = two by
        rw [← HY.out, ← HSP.out, ← HX.out, ← htwo, hpj2.1]
        exact join_seg HM.out (Nat.le_of_lt hpj.1) hpj2.2.1 (by have := hpi.1; have := hpj2.1; omega) hpi.2.1)
      have HTWT := Lib.hid (show most < takesN two.kind two.cs by rw [← htwo]; exact hpj2.2.2)
      have HTWO := Lib.hid (show NdOk two by rw [← htwo]; exact nodeI_ok HOK.out hpi.2.1)
      have HTWF := Lib.hid (show fewN two by rw [← htwo]; exact nodeI_few hl HLOC.out hpi.2.1)
      obtain ⟨nx, hnx⟩ : ∃ y, allI n ps (j + 1 + 1) = y := ⟨_, rfl⟩
      have hnx2 : nodeI n 0 (pr ps (j + 1)).2 = nx := hnx
      have HNX := Lib.hid hnx
      have HNXJ := Lib.hid (show joinOk al sp x ∧ joinM al sp x = nx by
        rw [← hal, hall, ← HSP.out, ← HX.out, ← hnx2, hpj2.1]
        exact join_seg HM.out (Nat.zero_le _) hpj2.2.1 (by have := hpi.1; have := hpj2.1; omega) hpi.2.1)
      have HLEAF := Lib.hid (show n.kind = 1 → sp = { zeroC with key := (cl_ y.cs (y.cs.length - 1)).key } from fun hk => by
        rw [← HSP.out, ← HY.out, nodeI_last hpj.1 hpj.2.1]
        unfold sepI
        rw [if_pos hk])
      have hyl : 0 < y.cs.length := by
        rw [← hy]
        show 0 < (sgC n.cs (pr ps j).1 (pr ps j).2).length
        rw [sgC_len hpj.2.1]
        have := hpj.1
        omega
      clear hpj hpj2 hpi hrgj hrdj hrgs hrds hy hsp hall hal htwo hnx hnx2
      have HRGj3 := Lib.hid (rangeKeep HRGj.out hbr3 hgNr)
      have hb03 : Below w.heap.size w w3 := hbw0.trans (hbr3.mono hbw0.size)
      go_upto_region 10 with fail
      iterate 13 go_step
      refine wp_load_ndo rfl _ rfl gN (j * 3) y Aj cj rfl HRGj3.out ?_
      iterate 3 go_step
      obtain ⟨W4, hW4⟩ : ∃ W, W = w3.alloc (.cells #[.int .i64 0, .slice none 0 0, .int .i64 0] 69) := ⟨_, rfl⟩
      have hb34 : Below w3.heap.size w3 W4 := by rw [hW4]; exact (Below.refl _ _).alloc (Nat.le_refl _) _
      have HT4 := Lib.hid (show W4.there w3.heap.size 0 3 by rw [hW4]; exact there_new3 w3 _ _ _ _)
      rw [← hW4]
      clear hW4
      refine wp_store_nd rfl _ _ rfl w3.heap.size y Aj cj rfl rfl HT4.out ?_
      obtain ⟨w4, hw4⟩ : ∃ W, W = W4.setCells w3.heap.size 0 (ndC y Aj cj) := ⟨_, rfl⟩
      have HN11 := Lib.hid (show NdAt w4 w3.heap.size y Aj cj by rw [hw4]; exact NdAt.stored HT4.out _ _ _)
      have hb4 : Below w3.heap.size w3 w4 := by rw [hw4]; exact below_setCellsR hb34 (Nat.le_refl _) _ _
      rw [← hw4]
      obtain ⟨g11, hg11⟩ : ∃ x, w3.heap.size = x := ⟨_, rfl⟩
      rw [hg11] at HN11 ⊢
      have hbr4 : Below wr.heap.size wr w4 := hbr3.trans (hb4.mono hbr3.size)
      clear hw4 hb34 hb4 HT4 HRGj3 hg11
      have hz4 := hbr4.size
      have hl11 : g11 < w4.heap.size := HN11.out.lt

      have HRGsa := Lib.hid (rangeKeep HRGs.out hbr4 hgSr)
      have HRGxa := Lib.hid (rangeKeep HRGr.out hbr4 hgNr)
      have hgSa : gS < w4.heap.size := by omega
      have hgNa : gN < w4.heap.size := by omega
      go_upto_region 11 with fail
      try simp only [Act.put]
      go_cut [12, 13] from 30 to 150 (fun v f wx => ∃ g A8 c8, v = .pointer (some ⟨g, 0, none⟩) ∧ f = .int .i64 0 ∧ w4.heap.size ≤ g ∧ Below w4.heap.size w4 wx ∧ NdAt wx g two A8 c8 ∧ RdCl wx A8 two.cs)
      case first =>
        refine wp_region_held_drew (S := (fun W => Below w4.heap.size w4 W)) (by kernel_rfl) ?_ (fun hHeld => ?_)
        · exact (Below.refl _ w4).drew
        refine' wpAnyH_take (i := 0) (oi := _) (v := y.val Aj cj) rfl (by kernel_rfl) (by kernel_rfl) (by kernel_rfl) (fun _ _ _ h => h) (yieldsIf_load_mid (by rfl) 69 _ rfl g11 0 rfl (ndC y Aj cj) _ (fun W hW => HN11.out.keep hW) Try.underlying69 rfl size_nd) (by assumption) ?rezl3
        try simp only [Act.put, List.setIfInBounds_toArray, List.set_cons_zero, List.set_cons_succ, List.getElem_toArray, List.getElem_cons_zero, List.getElem_cons_succ]
        refine' wpAnyH_take (i := 1) (oi := _) (v := _) rfl (by kernel_rfl) (by kernel_rfl) (by kernel_rfl) (fun _ _ _ h => h) (Or.inl ⟨by rfl, ?hz32⟩) (by assumption) ?rezt32
        case hz32 => (intro w' hSw; (try dsimp only at hSw); go_simp; try with_reducible rfl)
        try simp only [Act.put, List.setIfInBounds_toArray, List.set_cons_zero, List.set_cons_succ, List.getElem_toArray, List.getElem_cons_zero, List.getElem_cons_succ]
        refine' wpAnyH_take (i := 2) (oi := _) (v := _) rfl (by kernel_rfl) (by kernel_rfl) (by kernel_rfl) (fun _ _ _ h => h) (Or.inl ⟨by rfl, ?hz33⟩) (by assumption) ?rezt33
        case hz33 => (intro w' hSw; (try dsimp only at hSw); go_simp; try with_reducible rfl)
        try simp only [Act.put, List.setIfInBounds_toArray, List.set_cons_zero, List.set_cons_succ, List.getElem_toArray, List.getElem_cons_zero, List.getElem_cons_succ]
        refine' wpAnyH_take (i := 3) (oi := _) (v := _) rfl (by kernel_rfl) (by kernel_rfl) (by kernel_rfl) (fun _ _ _ h => h) (Or.inl ⟨by rfl, ?hz34⟩) (by assumption) ?rezt34
        case hz34 => (intro w' hSw; (try dsimp only at hSw); go_simp; try with_reducible rfl)
        try simp only [Act.put, List.setIfInBounds_toArray, List.set_cons_zero, List.set_cons_succ, List.getElem_toArray, List.getElem_cons_zero, List.getElem_cons_succ]
        refine' wpAnyH_take (i := 4) (oi := _) (v := _) rfl (by kernel_rfl) (by kernel_rfl) (by kernel_rfl) (fun _ _ _ h => h) (Or.inl ⟨by rfl, ?hz35⟩) (by assumption) ?rezt35
        case hz35 => (intro w' hSw; (try dsimp only at hSw); go_simp; try with_reducible rfl)
        try simp only [Act.put, List.setIfInBounds_toArray, List.set_cons_zero, List.set_cons_succ, List.getElem_toArray, List.getElem_cons_zero, List.getElem_cons_succ]
        refine' wpAnyH_take (i := 5) (oi := _) (v := sp.val Sj sp.loc.length dj) rfl (by kernel_rfl) (by kernel_rfl) (by kernel_rfl) (fun _ _ _ h => h) (yieldsIf_load_mid (by rfl) 55 _ rfl gS (j * 5) rfl (clC sp Sj sp.loc.length dj) _ (fun W hW => rangeKeep HRGsa.out hW hgSa) Try.underlying55 rfl size_cl) (by assumption) ?rezl4
        try simp only [Act.put, List.setIfInBounds_toArray, List.set_cons_zero, List.set_cons_succ, List.getElem_toArray, List.getElem_cons_zero, List.getElem_cons_succ]
        refine' wpAnyH_take (i := 6) (oi := _) (v := _) rfl (by kernel_rfl) (by kernel_rfl) (by kernel_rfl) (fun _ _ _ h => h) (Or.inl ⟨by rfl, ?hz36⟩) (by assumption) ?rezt36
        case hz36 => (intro w' hSw; (try dsimp only at hSw); go_simp; try with_reducible rfl)
        try simp only [Act.put, List.setIfInBounds_toArray, List.set_cons_zero, List.set_cons_succ, List.getElem_toArray, List.getElem_cons_zero, List.getElem_cons_succ]
        refine' wpAnyH_take (i := 7) (oi := _) (v := _) rfl (by kernel_rfl) (by kernel_rfl) (by kernel_rfl) (fun _ _ _ h => h) (Or.inl ⟨by rfl, ?hz37⟩) (by assumption) ?rezt37
        case hz37 => (intro w' hSw; (try dsimp only at hSw); go_simp; try with_reducible rfl)
        try simp only [Act.put, List.setIfInBounds_toArray, List.set_cons_zero, List.set_cons_succ, List.getElem_toArray, List.getElem_cons_zero, List.getElem_cons_succ]
        refine' wpAnyH_take (i := 8) (oi := _) (v := _) rfl (by kernel_rfl) (by kernel_rfl) (by kernel_rfl) (fun _ _ _ h => h) (Or.inl ⟨by rfl, ?hz38⟩) (by assumption) ?rezt38
        case hz38 => (intro w' hSw; (try dsimp only at hSw); go_simp; try with_reducible rfl)
        try simp only [Act.put, List.setIfInBounds_toArray, List.set_cons_zero, List.set_cons_succ, List.getElem_toArray, List.getElem_cons_zero, List.getElem_cons_succ]
        refine' wpAnyH_take (i := 9) (oi := _) (v := x.val Ai ci) rfl (by kernel_rfl) (by kernel_rfl) (by kernel_rfl) (fun _ _ _ h => h) (yieldsIf_load_mid (by rfl) 69 _ rfl gN ((j + 1) * 3) rfl (ndC x Ai ci) _ (fun W hW => rangeKeep HRGxa.out hW hgNa) Try.underlying69 rfl size_nd) (by assumption) ?rezl5
        try simp only [Act.put, List.setIfInBounds_toArray, List.set_cons_zero, List.set_cons_succ, List.getElem_toArray, List.getElem_cons_zero, List.getElem_cons_succ]
        refine wpAnyH_ready (rs := [10, 14]) (by kernel_rfl) (by simp) ?_
        refine AllReadyH.cons (o := _) rfl (fun K hK => ?_) (AllReadyH.cons (o := _) rfl (fun K hK => ?_) AllReadyH.nil)
        · go_simp
          have hbd : Below w4.heap.size w4 w4.drew := (Below.refl _ w4).drew
          have hbd0 : Below w.heap.size w w4.drew := (hbw0.trans (hbr4.mono hbw0.size)).trans (hbd.mono (Nat.le_trans hbw0.size (by omega)))
          go_at_call 48
          refine (rjoin_any _ y Aj cj sp Sj dj x Ai ci HYF.out HXF.out HSO.out.2 HYO.out HXO.out HSO.out.1 hds hdsm (HRDj.out.keep hbd0) (HRDs.out.keep hbd0) (HRDi.out.keep hbd0) _ rfl).mono ?_
          rintro e w6 ⟨hb6, ⟨hno, _⟩ | ⟨_, A8, c8, rfl, hown6⟩⟩
          · exact absurd HTWJ.out.1 hno
          rw [HTWJ.out.2] at hown6 ⊢
          have hbk6 : Below w4.heap.size w4 w6 := hbd.trans (hb6.mono hbd.size)
          have HR6 := Lib.hid hown6.rd
          clear hown6 hbd hbd0
          refine hK.out _ _ ?_ (fun hHeld => ?_)
          · exact hbk6
          clear hK K
          try simp only [Act.put, List.setIfInBounds_toArray, List.set_cons_zero, List.set_cons_succ, List.getElem_toArray, List.getElem_cons_zero, List.getElem_cons_succ]
          refine' wpAnyH_take (i := 11) (oi := _) (v := _) rfl (by kernel_rfl) (by kernel_rfl) (by kernel_rfl) (fun _ _ _ h => h) (Or.inl ⟨by rfl, ?hz39⟩) (by assumption) ?rezt39
          case hz39 => (intro w' hSw; (try dsimp only at hSw); go_simp; try with_reducible rfl)
          try simp only [Act.put, List.setIfInBounds_toArray, List.set_cons_zero, List.set_cons_succ, List.getElem_toArray, List.getElem_cons_zero, List.getElem_cons_succ]
          refine' wpAnyH_take (i := 12) (oi := _) (v := _) rfl (by kernel_rfl) (by kernel_rfl) (by kernel_rfl) (fun _ _ _ h => h) (Or.inl ⟨by rfl, ?hz40⟩) (by assumption) ?rezt40
          case hz40 => (intro w' hSw; (try dsimp only at hSw); go_simp; try with_reducible rfl)
          try simp only [Act.put, List.setIfInBounds_toArray, List.set_cons_zero, List.set_cons_succ, List.getElem_toArray, List.getElem_cons_zero, List.getElem_cons_succ]
          refine' wpAnyH_take (i := 13) (oi := _) (v := _) rfl (by kernel_rfl) (by kernel_rfl) (by kernel_rfl) (fun _ _ _ h => h) (Or.inl ⟨by rfl, ?hz41⟩) (by assumption) ?rezt41
          case hz41 => (intro w' hSw; (try dsimp only at hSw); go_simp; try with_reducible rfl)
          try simp only [Act.put, List.setIfInBounds_toArray, List.set_cons_zero, List.set_cons_succ, List.getElem_toArray, List.getElem_cons_zero, List.getElem_cons_succ]
          refine wpAnyH_ready (rs := [14]) (by kernel_rfl) (by simp) ?_
          refine AllReadyH.cons (o := _) rfl (fun K hK => ?_) AllReadyH.nil
          go_simp
          refine hK.out _ _ ?_ (fun hHeld => ?_)
          · exact hbk6.alloc hbk6.size _
          clear hK K
          try simp only [Act.put, List.setIfInBounds_toArray, List.set_cons_zero, List.set_cons_succ, List.getElem_toArray, List.getElem_cons_zero, List.getElem_cons_succ]
          obtain ⟨W8, hW8⟩ : ∃ W, W = w6.alloc (.cells #[.int .i64 0, .slice none 0 0, .int .i64 0] 69) := ⟨_, rfl⟩
          have hb8 : Below w6.heap.size w6 W8 := by rw [hW8]; exact (Below.refl _ _).alloc (Nat.le_refl _) _
          have HT8 := Lib.hid (show W8.there w6.heap.size 0 3 by rw [hW8]; exact there_new3 w6 _ _ _ _)
          rw [← hW8]
          clear hW8
          obtain ⟨wf, hwf⟩ : ∃ W, W = W8.setCells w6.heap.size 0 (ndC two A8 c8) := ⟨_, rfl⟩
          have hb6f : Below w6.heap.size w6 wf := by rw [hwf]; exact below_setCellsR hb8 (Nat.le_refl _) _ _
          have HNf := Lib.hid (show NdAt wf w6.heap.size two A8 c8 by rw [hwf]; exact NdAt.stored HT8.out _ _ _)
          have HRf := Lib.hid (HR6.out.keep hb6f)
          have hgf := hbk6.size
          have hbe : Below w4.heap.size w4 wf := hbk6.trans (hb6f.mono hbk6.size)
          refine wpAnyH_ready (rs := [15]) (by kernel_rfl) (by simp) ?_
          refine AllReadyH.cons (o := _) rfl (fun K hK => ?_) AllReadyH.nil
          refine step_store_nd rfl _ _ rfl w6.heap.size two A8 c8 rfl rfl HT8.out ?_
          rw [← hwf]
          refine hK.out _ _ ?_ (fun hHeld => ?_)
          · exact hbe
          clear hK K
          try simp only [Act.put, List.setIfInBounds_toArray, List.set_cons_zero, List.set_cons_succ, List.getElem_toArray, List.getElem_cons_zero, List.getElem_cons_succ]
          refine' wpAnyH_take (i := 16) (oi := _) (v := _) rfl (by kernel_rfl) (by kernel_rfl) (by kernel_rfl) (fun _ _ _ h => h) (Or.inl ⟨by rfl, ?hz42⟩) (by assumption) ?rezt42
          case hz42 => (intro w' hSw; (try dsimp only at hSw); go_simp; try with_reducible rfl)
          try simp only [Act.put, List.setIfInBounds_toArray, List.set_cons_zero, List.set_cons_succ, List.getElem_toArray, List.getElem_cons_zero, List.getElem_cons_succ]
          refine wpAnyH_done (by kernel_rfl) ?_ _
          try subst hwf
          go_wp2_with fail
          go_meet
          exact ⟨_, A8, c8, rfl, rfl, hgf, hbe, HNf.out, HRf.out⟩
        · go_simp
          refine hK.out _ _ ?_ (fun hHeld => ?_)
          · exact ((Below.refl _ w4).alloc (Nat.le_refl _) _).drew
          clear hK K
          try simp only [Act.put, List.setIfInBounds_toArray, List.set_cons_zero, List.set_cons_succ, List.getElem_toArray, List.getElem_cons_zero, List.getElem_cons_succ]
          obtain ⟨W8, hW8⟩ : ∃ W, W = (w4.alloc (.cells #[.int .i64 0, .slice none 0 0, .int .i64 0] 69)).drew := ⟨_, rfl⟩
          have hb8 : Below w4.heap.size w4 W8 := by rw [hW8]; exact ((Below.refl _ _).alloc (Nat.le_refl _) _).drew
          have hl8 : w4.heap.size < W8.heap.size := by rw [hW8]; show _ < (w4.alloc (.cells #[.int .i64 0, .slice none 0 0, .int .i64 0] 69)).heap.size; simp
          have HT8 := Lib.hid (show W8.there w4.heap.size 0 3 by rw [hW8]; exact there_keepR (there_new3 w4 _ _ _ _) (Below.refl (w4.heap.size + 1) _).drew (Nat.lt_succ_self _))
          have HB8 := Lib.hid (show Box3 W8 w4.heap.size by rw [hW8]; exact (Box3.new w4 _).same rfl)
          rw [← hW8]
          clear hW8
          refine wpAnyH_ready (rs := [10]) (by kernel_rfl) (by simp) ?_
          refine AllReadyH.cons (o := _) rfl (fun K hK => ?_) AllReadyH.nil
          go_simp
          have hbd : Below w4.heap.size w4 W8 := hb8
          have hbd0 : Below w.heap.size w W8 := (hbw0.trans (hbr4.mono hbw0.size)).trans (hbd.mono (Nat.le_trans hbw0.size (by omega)))
          go_at_call 48
          refine (rjoin_any _ y Aj cj sp Sj dj x Ai ci HYF.out HXF.out HSO.out.2 HYO.out HXO.out HSO.out.1 hds hdsm (HRDj.out.keep hbd0) (HRDs.out.keep hbd0) (HRDi.out.keep hbd0) _ rfl).mono ?_
          rintro e w6 ⟨hb6, ⟨hno, _⟩ | ⟨_, A8, c8, rfl, hown6⟩⟩
          · exact absurd HTWJ.out.1 hno
          rw [HTWJ.out.2] at hown6 ⊢
          have hbk6 : Below w4.heap.size w4 w6 := hbd.trans (hb6.mono hbd.size)
          have HR6 := Lib.hid hown6.rd
          clear hown6 hbd hbd0
          refine hK.out _ _ ?_ (fun hHeld => ?_)
          · exact hbk6
          clear hK K
          try simp only [Act.put, List.setIfInBounds_toArray, List.set_cons_zero, List.set_cons_succ, List.getElem_toArray, List.getElem_cons_zero, List.getElem_cons_succ]
          refine' wpAnyH_take (i := 11) (oi := _) (v := _) rfl (by kernel_rfl) (by kernel_rfl) (by kernel_rfl) (fun _ _ _ h => h) (Or.inl ⟨by rfl, ?hz43⟩) (by assumption) ?rezt43
          case hz43 => (intro w' hSw; (try dsimp only at hSw); go_simp; try with_reducible rfl)
          try simp only [Act.put, List.setIfInBounds_toArray, List.set_cons_zero, List.set_cons_succ, List.getElem_toArray, List.getElem_cons_zero, List.getElem_cons_succ]
          refine' wpAnyH_take (i := 12) (oi := _) (v := _) rfl (by kernel_rfl) (by kernel_rfl) (by kernel_rfl) (fun _ _ _ h => h) (Or.inl ⟨by rfl, ?hz44⟩) (by assumption) ?rezt44
          case hz44 => (intro w' hSw; (try dsimp only at hSw); go_simp; try with_reducible rfl)
          try simp only [Act.put, List.setIfInBounds_toArray, List.set_cons_zero, List.set_cons_succ, List.getElem_toArray, List.getElem_cons_zero, List.getElem_cons_succ]
          refine' wpAnyH_take (i := 13) (oi := _) (v := _) rfl (by kernel_rfl) (by kernel_rfl) (by kernel_rfl) (fun _ _ _ h => h) (Or.inl ⟨by rfl, ?hz45⟩) (by assumption) ?rezt45
          case hz45 => (intro w' hSw; (try dsimp only at hSw); go_simp; try with_reducible rfl)
          try simp only [Act.put, List.setIfInBounds_toArray, List.set_cons_zero, List.set_cons_succ, List.getElem_toArray, List.getElem_cons_zero, List.getElem_cons_succ]
          have HT9 := Lib.hid (there_keepR HT8.out hb6 hl8)
          have HB9 := Lib.hid (HB8.out.same (hb6.block _ hl8))
          have hgf := Nat.le_refl w4.heap.size
          obtain ⟨wf, hwf⟩ : ∃ W, W = w6.setCells w4.heap.size 0 (ndC two A8 c8) := ⟨_, rfl⟩
          have HNf := Lib.hid (show NdAt wf w4.heap.size two A8 c8 by rw [hwf]; exact NdAt.stored HT9.out _ _ _)
          have HRf := Lib.hid (HR6.out.box (w' := wf) HB9.out (fun i hi _ => by rw [hwf]; exact heap_setCells_ne _ _ _ _ hi))
          have hbe : Below w4.heap.size w4 wf := by rw [hwf]; exact below_setCellsR hbk6 (Nat.le_refl _) _ _
          refine wpAnyH_ready (rs := [15]) (by kernel_rfl) (by simp) ?_
          refine AllReadyH.cons (o := _) rfl (fun K hK => ?_) AllReadyH.nil
          refine step_store_nd rfl _ _ rfl w4.heap.size two A8 c8 rfl rfl HT9.out ?_
          rw [← hwf]
          refine hK.out _ _ ?_ (fun hHeld => ?_)
          · exact hbe
          clear hK K
          try simp only [Act.put, List.setIfInBounds_toArray, List.set_cons_zero, List.set_cons_succ, List.getElem_toArray, List.getElem_cons_zero, List.getElem_cons_succ]
          refine' wpAnyH_take (i := 16) (oi := _) (v := _) rfl (by kernel_rfl) (by kernel_rfl) (by kernel_rfl) (fun _ _ _ h => h) (Or.inl ⟨by rfl, ?hz46⟩) (by assumption) ?rezt46
          case hz46 => (intro w' hSw; (try dsimp only at hSw); go_simp; try with_reducible rfl)
          try simp only [Act.put, List.setIfInBounds_toArray, List.set_cons_zero, List.set_cons_succ, List.getElem_toArray, List.getElem_cons_zero, List.getElem_cons_succ]
          refine wpAnyH_done (by kernel_rfl) ?_ _
          try subst hwf
          go_wp2_with fail
          go_meet
          exact ⟨_, A8, c8, rfl, rfl, hgf, hbe, HNf.out, HRf.out⟩
      case rest =>
        rename World => w5
        obtain ⟨g12, A12, c12, rfl, rfl, hg12, hb5, hn12, hr12⟩ := hcut
        have HN12 := Lib.hid hn12
        have HR12 := Lib.hid hr12
        have hbr5 : Below wr.heap.size wr w5 := hbr4.trans (hb5.mono hz4)
        have hz5 := hbr5.size
        have HNa5 := Lib.hid (HNa.out.keep hbr5)
        have HN11' := Lib.hid (HN11.out.keep hb5)
        have hl12 : g12 < w5.heap.size := hn12.lt
        clear hn12 hr12 HN11 HRGsa HRGxa hgSa hgNa
        have HRGsb := Lib.hid (rangeKeep HRGs.out hbr5 hgSr)
        have HRGxb := Lib.hid (rangeKeep HRGr.out hbr5 hgNr)
        have hgSb : gS < w5.heap.size := by omega
        have hgNb : gN < w5.heap.size := by omega
        go_upto_region 12 with fail
        try simp only [Act.put]
        go_cut [14, 15] from 30 to 150 (fun v f wx => ∃ g A8 c8, v = .pointer (some ⟨g, 0, none⟩) ∧ f = .int .i64 0 ∧ w5.heap.size ≤ g ∧ Below w5.heap.size w5 wx ∧ NdAt wx g nx A8 c8 ∧ RdCl wx A8 nx.cs)
        case first =>
          refine wp_region_held_drew (S := (fun W => Below w5.heap.size w5 W)) (by kernel_rfl) ?_ (fun hHeld => ?_)
          · exact (Below.refl _ w5).drew
          refine' wpAnyH_take (i := 0) (oi := _) (v := al.val Aa ca) rfl (by kernel_rfl) (by kernel_rfl) (by kernel_rfl) (fun _ _ _ h => h) (yieldsIf_load_mid (by rfl) 69 _ rfl g9 0 rfl (ndC al Aa ca) _ (fun W hW => HNa5.out.keep hW) Try.underlying69 rfl size_nd) (by assumption) ?rezl6
          try simp only [Act.put, List.setIfInBounds_toArray, List.set_cons_zero, List.set_cons_succ, List.getElem_toArray, List.getElem_cons_zero, List.getElem_cons_succ]
          refine' wpAnyH_take (i := 1) (oi := _) (v := _) rfl (by kernel_rfl) (by kernel_rfl) (by kernel_rfl) (fun _ _ _ h => h) (Or.inl ⟨by rfl, ?hz47⟩) (by assumption) ?rezt47
          case hz47 => (intro w' hSw; (try dsimp only at hSw); go_simp; try with_reducible rfl)
          try simp only [Act.put, List.setIfInBounds_toArray, List.set_cons_zero, List.set_cons_succ, List.getElem_toArray, List.getElem_cons_zero, List.getElem_cons_succ]
          refine' wpAnyH_take (i := 2) (oi := _) (v := _) rfl (by kernel_rfl) (by kernel_rfl) (by kernel_rfl) (fun _ _ _ h => h) (Or.inl ⟨by rfl, ?hz48⟩) (by assumption) ?rezt48
          case hz48 => (intro w' hSw; (try dsimp only at hSw); go_simp; try with_reducible rfl)
          try simp only [Act.put, List.setIfInBounds_toArray, List.set_cons_zero, List.set_cons_succ, List.getElem_toArray, List.getElem_cons_zero, List.getElem_cons_succ]
          refine' wpAnyH_take (i := 3) (oi := _) (v := _) rfl (by kernel_rfl) (by kernel_rfl) (by kernel_rfl) (fun _ _ _ h => h) (Or.inl ⟨by rfl, ?hz49⟩) (by assumption) ?rezt49
          case hz49 => (intro w' hSw; (try dsimp only at hSw); go_simp; try with_reducible rfl)
          try simp only [Act.put, List.setIfInBounds_toArray, List.set_cons_zero, List.set_cons_succ, List.getElem_toArray, List.getElem_cons_zero, List.getElem_cons_succ]
          refine' wpAnyH_take (i := 4) (oi := _) (v := _) rfl (by kernel_rfl) (by kernel_rfl) (by kernel_rfl) (fun _ _ _ h => h) (Or.inl ⟨by rfl, ?hz50⟩) (by assumption) ?rezt50
          case hz50 => (intro w' hSw; (try dsimp only at hSw); go_simp; try with_reducible rfl)
          try simp only [Act.put, List.setIfInBounds_toArray, List.set_cons_zero, List.set_cons_succ, List.getElem_toArray, List.getElem_cons_zero, List.getElem_cons_succ]
          refine' wpAnyH_take (i := 5) (oi := _) (v := sp.val Sj sp.loc.length dj) rfl (by kernel_rfl) (by kernel_rfl) (by kernel_rfl) (fun _ _ _ h => h) (yieldsIf_load_mid (by rfl) 55 _ rfl gS (j * 5) rfl (clC sp Sj sp.loc.length dj) _ (fun W hW => rangeKeep HRGsb.out hW hgSb) Try.underlying55 rfl size_cl) (by assumption) ?rezl7
          try simp only [Act.put, List.setIfInBounds_toArray, List.set_cons_zero, List.set_cons_succ, List.getElem_toArray, List.getElem_cons_zero, List.getElem_cons_succ]
          refine' wpAnyH_take (i := 6) (oi := _) (v := _) rfl (by kernel_rfl) (by kernel_rfl) (by kernel_rfl) (fun _ _ _ h => h) (Or.inl ⟨by rfl, ?hz51⟩) (by assumption) ?rezt51
          case hz51 => (intro w' hSw; (try dsimp only at hSw); go_simp; try with_reducible rfl)
          try simp only [Act.put, List.setIfInBounds_toArray, List.set_cons_zero, List.set_cons_succ, List.getElem_toArray, List.getElem_cons_zero, List.getElem_cons_succ]
          refine' wpAnyH_take (i := 7) (oi := _) (v := _) rfl (by kernel_rfl) (by kernel_rfl) (by kernel_rfl) (fun _ _ _ h => h) (Or.inl ⟨by rfl, ?hz52⟩) (by assumption) ?rezt52
          case hz52 => (intro w' hSw; (try dsimp only at hSw); go_simp; try with_reducible rfl)
          try simp only [Act.put, List.setIfInBounds_toArray, List.set_cons_zero, List.set_cons_succ, List.getElem_toArray, List.getElem_cons_zero, List.getElem_cons_succ]
          refine' wpAnyH_take (i := 8) (oi := _) (v := _) rfl (by kernel_rfl) (by kernel_rfl) (by kernel_rfl) (fun _ _ _ h => h) (Or.inl ⟨by rfl, ?hz53⟩) (by assumption) ?rezt53
          case hz53 => (intro w' hSw; (try dsimp only at hSw); go_simp; try with_reducible rfl)
          try simp only [Act.put, List.setIfInBounds_toArray, List.set_cons_zero, List.set_cons_succ, List.getElem_toArray, List.getElem_cons_zero, List.getElem_cons_succ]
          refine' wpAnyH_take (i := 9) (oi := _) (v := x.val Ai ci) rfl (by kernel_rfl) (by kernel_rfl) (by kernel_rfl) (fun _ _ _ h => h) (yieldsIf_load_mid (by rfl) 69 _ rfl gN ((j + 1) * 3) rfl (ndC x Ai ci) _ (fun W hW => rangeKeep HRGxb.out hW hgNb) Try.underlying69 rfl size_nd) (by assumption) ?rezl8
          try simp only [Act.put, List.setIfInBounds_toArray, List.set_cons_zero, List.set_cons_succ, List.getElem_toArray, List.getElem_cons_zero, List.getElem_cons_succ]
          refine wpAnyH_ready (rs := [10, 14]) (by kernel_rfl) (by simp) ?_
          refine AllReadyH.cons (o := _) rfl (fun K hK => ?_) (AllReadyH.cons (o := _) rfl (fun K hK => ?_) AllReadyH.nil)
          · go_simp
            have hbd : Below w5.heap.size w5 w5.drew := (Below.refl _ w5).drew
            have hbd0 : Below w.heap.size w w5.drew := (hbw0.trans (hbr5.mono hbw0.size)).trans (hbd.mono (Nat.le_trans hbw0.size (by omega)))
            go_at_call 48
            refine (rjoin_any _ al Aa ca sp Sj dj x Ai ci HAF.out HXF.out HSO.out.2 HAO.out HXO.out HSO.out.1 hds hdsm (HRDa.out.keep (hbr5.trans (hbd.mono hz5))) (HRDs.out.keep hbd0) (HRDi.out.keep hbd0) _ rfl).mono ?_
            rintro e w6 ⟨hb6, ⟨hno, _⟩ | ⟨_, A8, c8, rfl, hown6⟩⟩
            · exact absurd HNXJ.out.1 hno
            rw [HNXJ.out.2] at hown6 ⊢
            have hbk6 : Below w5.heap.size w5 w6 := hbd.trans (hb6.mono hbd.size)
            have HR6 := Lib.hid hown6.rd
            clear hown6 hbd hbd0
            refine hK.out _ _ ?_ (fun hHeld => ?_)
            · exact hbk6
            clear hK K
            try simp only [Act.put, List.setIfInBounds_toArray, List.set_cons_zero, List.set_cons_succ, List.getElem_toArray, List.getElem_cons_zero, List.getElem_cons_succ]
            refine' wpAnyH_take (i := 11) (oi := _) (v := _) rfl (by kernel_rfl) (by kernel_rfl) (by kernel_rfl) (fun _ _ _ h => h) (Or.inl ⟨by rfl, ?hz54⟩) (by assumption) ?rezt54
            case hz54 => (intro w' hSw; (try dsimp only at hSw); go_simp; try with_reducible rfl)
            try simp only [Act.put, List.setIfInBounds_toArray, List.set_cons_zero, List.set_cons_succ, List.getElem_toArray, List.getElem_cons_zero, List.getElem_cons_succ]
            refine' wpAnyH_take (i := 12) (oi := _) (v := _) rfl (by kernel_rfl) (by kernel_rfl) (by kernel_rfl) (fun _ _ _ h => h) (Or.inl ⟨by rfl, ?hz55⟩) (by assumption) ?rezt55
            case hz55 => (intro w' hSw; (try dsimp only at hSw); go_simp; try with_reducible rfl)
            try simp only [Act.put, List.setIfInBounds_toArray, List.set_cons_zero, List.set_cons_succ, List.getElem_toArray, List.getElem_cons_zero, List.getElem_cons_succ]
            refine' wpAnyH_take (i := 13) (oi := _) (v := _) rfl (by kernel_rfl) (by kernel_rfl) (by kernel_rfl) (fun _ _ _ h => h) (Or.inl ⟨by rfl, ?hz56⟩) (by assumption) ?rezt56
            case hz56 => (intro w' hSw; (try dsimp only at hSw); go_simp; try with_reducible rfl)
            try simp only [Act.put, List.setIfInBounds_toArray, List.set_cons_zero, List.set_cons_succ, List.getElem_toArray, List.getElem_cons_zero, List.getElem_cons_succ]
            refine wpAnyH_ready (rs := [14]) (by kernel_rfl) (by simp) ?_
            refine AllReadyH.cons (o := _) rfl (fun K hK => ?_) AllReadyH.nil
            go_simp
            refine hK.out _ _ ?_ (fun hHeld => ?_)
            · exact hbk6.alloc hbk6.size _
            clear hK K
            try simp only [Act.put, List.setIfInBounds_toArray, List.set_cons_zero, List.set_cons_succ, List.getElem_toArray, List.getElem_cons_zero, List.getElem_cons_succ]
            obtain ⟨W8, hW8⟩ : ∃ W, W = w6.alloc (.cells #[.int .i64 0, .slice none 0 0, .int .i64 0] 69) := ⟨_, rfl⟩
            have hb8 : Below w6.heap.size w6 W8 := by rw [hW8]; exact (Below.refl _ _).alloc (Nat.le_refl _) _
            have HT8 := Lib.hid (show W8.there w6.heap.size 0 3 by rw [hW8]; exact there_new3 w6 _ _ _ _)
            rw [← hW8]
            clear hW8
            obtain ⟨wf, hwf⟩ : ∃ W, W = W8.setCells w6.heap.size 0 (ndC nx A8 c8) := ⟨_, rfl⟩
            have hb6f : Below w6.heap.size w6 wf := by rw [hwf]; exact below_setCellsR hb8 (Nat.le_refl _) _ _
            have HNf := Lib.hid (show NdAt wf w6.heap.size nx A8 c8 by rw [hwf]; exact NdAt.stored HT8.out _ _ _)
            have HRf := Lib.hid (HR6.out.keep hb6f)
            have hgf := hbk6.size
            have hbe : Below w5.heap.size w5 wf := hbk6.trans (hb6f.mono hbk6.size)
            refine wpAnyH_ready (rs := [15]) (by kernel_rfl) (by simp) ?_
            refine AllReadyH.cons (o := _) rfl (fun K hK => ?_) AllReadyH.nil
            refine step_store_nd rfl _ _ rfl w6.heap.size nx A8 c8 rfl rfl HT8.out ?_
            rw [← hwf]
            refine hK.out _ _ ?_ (fun hHeld => ?_)
            · exact hbe
            clear hK K
            try simp only [Act.put, List.setIfInBounds_toArray, List.set_cons_zero, List.set_cons_succ, List.getElem_toArray, List.getElem_cons_zero, List.getElem_cons_succ]
            refine' wpAnyH_take (i := 16) (oi := _) (v := _) rfl (by kernel_rfl) (by kernel_rfl) (by kernel_rfl) (fun _ _ _ h => h) (Or.inl ⟨by rfl, ?hz57⟩) (by assumption) ?rezt57
            case hz57 => (intro w' hSw; (try dsimp only at hSw); go_simp; try with_reducible rfl)
            try simp only [Act.put, List.setIfInBounds_toArray, List.set_cons_zero, List.set_cons_succ, List.getElem_toArray, List.getElem_cons_zero, List.getElem_cons_succ]
            refine wpAnyH_done (by kernel_rfl) ?_ _
            try subst hwf
            go_wp2_with fail
            go_meet
            exact ⟨_, A8, c8, rfl, rfl, hgf, hbe, HNf.out, HRf.out⟩
          · go_simp
            refine hK.out _ _ ?_ (fun hHeld => ?_)
            · exact ((Below.refl _ w5).alloc (Nat.le_refl _) _).drew
            clear hK K
            try simp only [Act.put, List.setIfInBounds_toArray, List.set_cons_zero, List.set_cons_succ, List.getElem_toArray, List.getElem_cons_zero, List.getElem_cons_succ]
            obtain ⟨W8, hW8⟩ : ∃ W, W = (w5.alloc (.cells #[.int .i64 0, .slice none 0 0, .int .i64 0] 69)).drew := ⟨_, rfl⟩
            have hb8 : Below w5.heap.size w5 W8 := by rw [hW8]; exact ((Below.refl _ _).alloc (Nat.le_refl _) _).drew
            have hl8 : w5.heap.size < W8.heap.size := by rw [hW8]; show _ < (w5.alloc (.cells #[.int .i64 0, .slice none 0 0, .int .i64 0] 69)).heap.size; simp
            have HT8 := Lib.hid (show W8.there w5.heap.size 0 3 by rw [hW8]; exact there_keepR (there_new3 w5 _ _ _ _) (Below.refl (w5.heap.size + 1) _).drew (Nat.lt_succ_self _))
            have HB8 := Lib.hid (show Box3 W8 w5.heap.size by rw [hW8]; exact (Box3.new w5 _).same rfl)
            rw [← hW8]
            clear hW8
            refine wpAnyH_ready (rs := [10]) (by kernel_rfl) (by simp) ?_
            refine AllReadyH.cons (o := _) rfl (fun K hK => ?_) AllReadyH.nil
            go_simp
            have hbd : Below w5.heap.size w5 W8 := hb8
            have hbd0 : Below w.heap.size w W8 := (hbw0.trans (hbr5.mono hbw0.size)).trans (hbd.mono (Nat.le_trans hbw0.size (by omega)))
            go_at_call 48
            refine (rjoin_any _ al Aa ca sp Sj dj x Ai ci HAF.out HXF.out HSO.out.2 HAO.out HXO.out HSO.out.1 hds hdsm (HRDa.out.keep (hbr5.trans (hbd.mono hz5))) (HRDs.out.keep hbd0) (HRDi.out.keep hbd0) _ rfl).mono ?_
            rintro e w6 ⟨hb6, ⟨hno, _⟩ | ⟨_, A8, c8, rfl, hown6⟩⟩
            · exact absurd HNXJ.out.1 hno
            rw [HNXJ.out.2] at hown6 ⊢
            have hbk6 : Below w5.heap.size w5 w6 := hbd.trans (hb6.mono hbd.size)
            have HR6 := Lib.hid hown6.rd
            clear hown6 hbd hbd0
            refine hK.out _ _ ?_ (fun hHeld => ?_)
            · exact hbk6
            clear hK K
            try simp only [Act.put, List.setIfInBounds_toArray, List.set_cons_zero, List.set_cons_succ, List.getElem_toArray, List.getElem_cons_zero, List.getElem_cons_succ]
            refine' wpAnyH_take (i := 11) (oi := _) (v := _) rfl (by kernel_rfl) (by kernel_rfl) (by kernel_rfl) (fun _ _ _ h => h) (Or.inl ⟨by rfl, ?hz58⟩) (by assumption) ?rezt58
            case hz58 => (intro w' hSw; (try dsimp only at hSw); go_simp; try with_reducible rfl)
            try simp only [Act.put, List.setIfInBounds_toArray, List.set_cons_zero, List.set_cons_succ, List.getElem_toArray, List.getElem_cons_zero, List.getElem_cons_succ]
            refine' wpAnyH_take (i := 12) (oi := _) (v := _) rfl (by kernel_rfl) (by kernel_rfl) (by kernel_rfl) (fun _ _ _ h => h) (Or.inl ⟨by rfl, ?hz59⟩) (by assumption) ?rezt59
            case hz59 => (intro w' hSw; (try dsimp only at hSw); go_simp; try with_reducible rfl)
            try simp only [Act.put, List.setIfInBounds_toArray, List.set_cons_zero, List.set_cons_succ, List.getElem_toArray, List.getElem_cons_zero, List.getElem_cons_succ]
            refine' wpAnyH_take (i := 13) (oi := _) (v := _) rfl (by kernel_rfl) (by kernel_rfl) (by kernel_rfl) (fun _ _ _ h => h) (Or.inl ⟨by rfl, ?hz60⟩) (by assumption) ?rezt60
            case hz60 => (intro w' hSw; (try dsimp only at hSw); go_simp; try with_reducible rfl)
            try simp only [Act.put, List.setIfInBounds_toArray, List.set_cons_zero, List.set_cons_succ, List.getElem_toArray, List.getElem_cons_zero, List.getElem_cons_succ]
            have HT9 := Lib.hid (there_keepR HT8.out hb6 hl8)
            have HB9 := Lib.hid (HB8.out.same (hb6.block _ hl8))
            have hgf := Nat.le_refl w5.heap.size
            obtain ⟨wf, hwf⟩ : ∃ W, W = w6.setCells w5.heap.size 0 (ndC nx A8 c8) := ⟨_, rfl⟩
            have HNf := Lib.hid (show NdAt wf w5.heap.size nx A8 c8 by rw [hwf]; exact NdAt.stored HT9.out _ _ _)
            have HRf := Lib.hid (HR6.out.box (w' := wf) HB9.out (fun i hi _ => by rw [hwf]; exact heap_setCells_ne _ _ _ _ hi))
            have hbe : Below w5.heap.size w5 wf := by rw [hwf]; exact below_setCellsR hbk6 (Nat.le_refl _) _ _
            refine wpAnyH_ready (rs := [15]) (by kernel_rfl) (by simp) ?_
            refine AllReadyH.cons (o := _) rfl (fun K hK => ?_) AllReadyH.nil
            refine step_store_nd rfl _ _ rfl w5.heap.size nx A8 c8 rfl rfl HT9.out ?_
            rw [← hwf]
            refine hK.out _ _ ?_ (fun hHeld => ?_)
            · exact hbe
            clear hK K
            try simp only [Act.put, List.setIfInBounds_toArray, List.set_cons_zero, List.set_cons_succ, List.getElem_toArray, List.getElem_cons_zero, List.getElem_cons_succ]
            refine' wpAnyH_take (i := 16) (oi := _) (v := _) rfl (by kernel_rfl) (by kernel_rfl) (by kernel_rfl) (fun _ _ _ h => h) (Or.inl ⟨by rfl, ?hz61⟩) (by assumption) ?rezt61
            case hz61 => (intro w' hSw; (try dsimp only at hSw); go_simp; try with_reducible rfl)
            try simp only [Act.put, List.setIfInBounds_toArray, List.set_cons_zero, List.set_cons_succ, List.getElem_toArray, List.getElem_cons_zero, List.getElem_cons_succ]
            refine wpAnyH_done (by kernel_rfl) ?_ _
            try subst hwf
            go_wp2_with fail
            go_meet
            exact ⟨_, A8, c8, rfl, rfl, hgf, hbe, HNf.out, HRf.out⟩
        case rest =>
          rename World => w6
          obtain ⟨g14, A14, c14, rfl, rfl, hg14, hb6, hn14, hr14⟩ := hcut
          have HN14 := Lib.hid hn14
          have HR14 := Lib.hid hr14
          have hbr6 : Below wr.heap.size wr w6 := hbr5.trans (hb6.mono hz5)
          have hz6 := hbr6.size
          have HN12' := Lib.hid (HN12.out.keep hb6)
          have HR12' := Lib.hid (HR12.out.keep hb6)
          have HN11'' := Lib.hid (HN11'.out.keep hb6)
          clear hn14 hr14 HN12 HR12 HN11' HNa5 HRGsb HRGxb hgSb hgNb
          obtain ⟨t2, ht2⟩ : ∃ t, takesN two.kind two.cs = t := ⟨_, rfl⟩
          have HT2 := Lib.hid ht2
          have ht2g : ¬ (t2 : Int) ≤ (most : Int) := by have := HTWT.out; omega
          have ht2b : t2 ≤ 100000000 := by rw [← ht2]; have := takesN_bd (k := two.kind) (cs := two.cs) (Nat.le_trans HTWF.out.1 (by omega)) (fun d hd => ⟨HTWO.out.2.2 d hd, HTWF.out.2 d hd⟩); omega
          clear ht2
          go_upto_region 13 with fail
          iterate 20 go_step
          refine wp_load_ndg rfl _ rfl g12 two A12 c12 rfl HN12'.out ?_
          go_wp2_with fail
          refine (rTakes_any _ two A12 c12 (Nat.le_trans HTWF.out.1 (by omega)) (fun d hd => ⟨HTWO.out.2.2 d hd, HTWF.out.2 d hd⟩) HR12'.out _ rfl).mono ?_
          rintro e w7 ⟨rfl, hb7⟩
          rw [HT2.out]
          have hbr7 : Below wr.heap.size wr w7 := hbr6.trans (hb7.mono hz6)
          have hz7 := hbr7.size
          have HRGs7 := Lib.hid (rangeKeep HRGs.out hbr7 hgSr)
          have ks : w7.cell? ⟨gS, j * 5 + 1, none⟩ = some (.int .i64 0) := by have := HRGs7.out 1 _ rfl; rw [HSC.out] at this; exact this
          have HN14' := Lib.hid (HN14.out.keep hb7)
          have HR14' := Lib.hid (HR14.out.keep hb7)
          have HN11c := Lib.hid (HN11''.out.keep hb7)
          have hl11c := HN11c.out.lt
          have hl14 := HN14'.out.lt
          have hms' := HMS.out
          clear hb7 HN12' HR12' HN11''
          go_upto_region 15 with fail
          clear ks hms'
          have HKb := Lib.hid ((HBX.out.at_.keepB (hbr0.trans (hbr7.mono (Nat.le_of_lt hzw))) hl9))
          have hlw7 : w.heap.size < w7.heap.size := HKb.out.lt
          have FK : ∀ W : World, Below w7.heap.size w7 W → W.cell? ⟨w.heap.size, 0, none⟩ = some (.int .i64 n.kind) := fun W hW => (HKb.out.keep hW).all.1
          have HRDj7 := Lib.hid (HRDj.out.keep (hbw0.trans (hbr7.mono hbw0.size)))
          obtain ⟨bj, oj, hAj, hcellj⟩ := HRDj7.out.at hyl
          obtain ⟨LA, dL, hrgl, _, _, _⟩ := hcellj (y.cs.length - 1) (by omega)
          have hkey := hrgl 0 _ rfl
          rw [Nat.add_zero] at hkey
          obtain ⟨ky, hky⟩ : ∃ k, (cl_ y.cs (y.cs.length - 1)).key = k := ⟨_, rfl⟩
          rw [hky] at hkey
          have HLF2 := Lib.hid (show n.kind = 1 → sp = { zeroC with key := ky } from fun hk => by rw [HLEAF.out hk, hky])
          have hbj : bj < w7.heap.size := World.block_lt_of_cell? w7 _ hkey
          obtain ⟨yl, hyle⟩ : ∃ k, y.cs.length - 1 = k := ⟨_, rfl⟩
          rw [hyle] at hkey
          have hyl2 : (y.cs.length : Int) - 1 = (yl : Int) := by omega
          have hylw : IntKind.i64.wrap (yl : Int) = (yl : Int) := IntWalk.i64_in _ (by have := HYF.out.1; omega)
          have yl0 : (0 : Int) ≤ (yl : Int) := by omega
          have yl1 : (yl : Int) < (y.cs.length : Int) := by omega
          have FY : ∀ W : World, Below w7.heap.size w7 W → W.cell? ⟨g11, 1, none⟩ = some (.slice (some ⟨bj, oj, none⟩) y.cs.length cj) := fun W hW => by rw [← hAj]; exact (HN11c.out.keep hW).all.2.1
          have FE : ∀ W : World, Below w7.heap.size w7 W → W.cell? ⟨bj, oj + yl * 5, none⟩ = some (.int .i64 ky) := fun W hW => (hW.cell (p := ⟨bj, oj + yl * 5, none⟩) hbj).trans hkey
          have hgS7 : gS < w7.heap.size := Nat.lt_of_lt_of_le hgSr hz7
          have HRDs7 := Lib.hid (HRDs.out.keep (hbw0.trans (hbr7.mono hbw0.size)))
          clear hcellj hrgl hkey hky hyle hAj
          by_cases hk : n.kind = 1
          · have qk : (n.kind == 1) = true := by simp [hk]
            have HK := Lib.hid hk
            clear hk
            refine wp_region_held_drew (S := (fun W => Below w7.heap.size w7 W)) (by kernel_rfl) ?_ (fun hHeld => ?_)
            · exact (Below.refl _ w7).drew
            refine' wpAnyH_take (i := 0) (oi := _) (v := _) rfl (by kernel_rfl) (by kernel_rfl) (by kernel_rfl) (fun _ _ _ h => h) (Or.inl ⟨by rfl, ?hz62⟩) (by assumption) ?rezt62
            case hz62 => (intro w' hSw; (try dsimp only at hSw); go_simp; try with_reducible rfl)
            try simp only [Act.put, List.setIfInBounds_toArray, List.set_cons_zero, List.set_cons_succ, List.getElem_toArray, List.getElem_cons_zero, List.getElem_cons_succ]
            refine' wpAnyH_take (i := 1) (oi := _) (v := _) rfl (by kernel_rfl) (by kernel_rfl) (by kernel_rfl) (fun _ _ _ h => h) (Or.inl ⟨by rfl, ?hz63⟩) (by assumption) ?rezt63
            case hz63 => (intro w' hSw; (try dsimp only at hSw); go_simp; try with_reducible rfl)
            try simp only [Act.put, List.setIfInBounds_toArray, List.set_cons_zero, List.set_cons_succ, List.getElem_toArray, List.getElem_cons_zero, List.getElem_cons_succ]
            refine' wpAnyH_take (i := 2) (oi := _) (v := _) rfl (by kernel_rfl) (by kernel_rfl) (by kernel_rfl) (fun _ _ _ h => h) (Or.inl ⟨by rfl, ?hz64⟩) (by assumption) ?rezt64
            case hz64 => (intro w' hSw; (try dsimp only at hSw); go_simp; try with_reducible rfl)
            try simp only [Act.put, List.setIfInBounds_toArray, List.set_cons_zero, List.set_cons_succ, List.getElem_toArray, List.getElem_cons_zero, List.getElem_cons_succ]
            refine' wpAnyH_take (i := 3) (oi := _) (v := _) rfl (by kernel_rfl) (by kernel_rfl) (by kernel_rfl) (fun _ _ _ h => h) (Or.inl ⟨by rfl, ?hz65⟩) (by assumption) ?rezt65
            case hz65 => (intro w' hSw; (try dsimp only at hSw); go_simp; try with_reducible rfl)
            try simp only [Act.put, List.setIfInBounds_toArray, List.set_cons_zero, List.set_cons_succ, List.getElem_toArray, List.getElem_cons_zero, List.getElem_cons_succ]
            refine' wpAnyH_take (i := 4) (oi := _) (v := _) rfl (by kernel_rfl) (by kernel_rfl) (by kernel_rfl) (fun _ _ _ h => h) (Or.inl ⟨by rfl, ?hz66⟩) (by assumption) ?rezt66
            case hz66 => (intro w' hSw; (try dsimp only at hSw); go_simp; try with_reducible rfl)
            try simp only [Act.put, List.setIfInBounds_toArray, List.set_cons_zero, List.set_cons_succ, List.getElem_toArray, List.getElem_cons_zero, List.getElem_cons_succ]
            refine' wpAnyH_take (i := 5) (oi := _) (v := _) rfl (by kernel_rfl) (by kernel_rfl) (by kernel_rfl) (fun _ _ _ h => h) (Or.inl ⟨by rfl, ?hz67⟩) (by assumption) ?rezt67
            case hz67 => (intro w' hSw; (try dsimp only at hSw); go_simp; try with_reducible rfl)
            try simp only [Act.put, List.setIfInBounds_toArray, List.set_cons_zero, List.set_cons_succ, List.getElem_toArray, List.getElem_cons_zero, List.getElem_cons_succ]
            refine' wpAnyH_take (i := 6) (oi := _) (v := _) rfl (by kernel_rfl) (by kernel_rfl) (by kernel_rfl) (fun _ _ _ h => h) (Or.inl ⟨by rfl, ?hz68⟩) (by assumption) ?rezt68
            case hz68 => (intro w' hSw; (try dsimp only at hSw); go_simp; try with_reducible rfl)
            try simp only [Act.put, List.setIfInBounds_toArray, List.set_cons_zero, List.set_cons_succ, List.getElem_toArray, List.getElem_cons_zero, List.getElem_cons_succ]
            refine' wpAnyH_take (i := 7) (oi := _) (v := _) rfl (by kernel_rfl) (by kernel_rfl) (by kernel_rfl) (fun _ _ _ h => h) (Or.inl ⟨by rfl, ?hz69⟩) (by assumption) ?rezt69
            case hz69 => (intro w' hSw; (try dsimp only at hSw); go_simp; try with_reducible rfl)
            try simp only [Act.put, List.setIfInBounds_toArray, List.set_cons_zero, List.set_cons_succ, List.getElem_toArray, List.getElem_cons_zero, List.getElem_cons_succ]
            refine' wpAnyH_take (i := 8) (oi := _) (v := sp.val Sj sp.loc.length dj) rfl (by kernel_rfl) (by kernel_rfl) (by kernel_rfl) (fun _ _ _ h => h) (yieldsIf_load_mid (by rfl) 55 _ rfl gS (j * 5) rfl (clC sp Sj sp.loc.length dj) _ (fun W hW => rangeKeep HRGs7.out hW hgS7) Try.underlying55 rfl size_cl) (by assumption) ?rezl9
            try simp only [Act.put, List.setIfInBounds_toArray, List.set_cons_zero, List.set_cons_succ, List.getElem_toArray, List.getElem_cons_zero, List.getElem_cons_succ]
            refine' wpAnyH_take (i := 9) (oi := _) (v := _) rfl (by kernel_rfl) (by kernel_rfl) (by kernel_rfl) (fun _ _ _ h => h) (Or.inl ⟨by rfl, ?hz70⟩) (by assumption) ?rezt70
            case hz70 => (intro w' hSw; (try dsimp only at hSw); go_simp; try with_reducible rfl)
            try simp only [Act.put, List.setIfInBounds_toArray, List.set_cons_zero, List.set_cons_succ, List.getElem_toArray, List.getElem_cons_zero, List.getElem_cons_succ]
            refine' wpAnyH_take (i := 10) (oi := _) (v := _) rfl (by kernel_rfl) (by kernel_rfl) (by kernel_rfl) (fun _ _ _ h => h) (Or.inl ⟨by rfl, ?hz71⟩) (by assumption) ?rezt71
            case hz71 => (intro w' hSw; (try dsimp only at hSw); go_simp; try with_reducible rfl)
            try simp only [Act.put, List.setIfInBounds_toArray, List.set_cons_zero, List.set_cons_succ, List.getElem_toArray, List.getElem_cons_zero, List.getElem_cons_succ]
            refine' wpAnyH_take (i := 11) (oi := _) (v := _) rfl (by kernel_rfl) (by kernel_rfl) (by kernel_rfl) (fun _ _ _ h => h) (Or.inl ⟨by rfl, ?hz72⟩) (by assumption) ?rezt72
            case hz72 => (intro w' hSw; (try dsimp only at hSw); go_simp; try with_reducible rfl)
            try simp only [Act.put, List.setIfInBounds_toArray, List.set_cons_zero, List.set_cons_succ, List.getElem_toArray, List.getElem_cons_zero, List.getElem_cons_succ]
            refine' wpAnyH_take (i := 12) (oi := _) (v := _) rfl (by kernel_rfl) (by kernel_rfl) (by kernel_rfl) (fun _ _ _ h => h) (Or.inl ⟨by rfl, ?hz73⟩) (by assumption) ?rezt73
            case hz73 => (intro w' hSw; (try dsimp only at hSw); go_simp; try with_reducible rfl)
            try simp only [Act.put, List.setIfInBounds_toArray, List.set_cons_zero, List.set_cons_succ, List.getElem_toArray, List.getElem_cons_zero, List.getElem_cons_succ]
            refine' wpAnyH_take (i := 13) (oi := _) (v := _) rfl (by kernel_rfl) (by kernel_rfl) (by kernel_rfl) (fun _ _ _ h => h) (Or.inl ⟨by rfl, ?hz74⟩) (by assumption) ?rezt74
            case hz74 => (intro w' hSw; (try dsimp only at hSw); go_simp; try with_reducible rfl)
            try simp only [Act.put, List.setIfInBounds_toArray, List.set_cons_zero, List.set_cons_succ, List.getElem_toArray, List.getElem_cons_zero, List.getElem_cons_succ]
            refine' wpAnyH_take (i := 14) (oi := _) (v := _) rfl (by kernel_rfl) (by kernel_rfl) (by kernel_rfl) (fun _ _ _ h => h) (Or.inl ⟨by rfl, ?hz75⟩) (by assumption) ?rezt75
            case hz75 => (intro w' hSw; (try dsimp only at hSw); go_simp; try with_reducible rfl)
            try simp only [Act.put, List.setIfInBounds_toArray, List.set_cons_zero, List.set_cons_succ, List.getElem_toArray, List.getElem_cons_zero, List.getElem_cons_succ]
            refine' wpAnyH_take (i := 15) (oi := _) (v := _) rfl (by kernel_rfl) (by kernel_rfl) (by kernel_rfl) (fun _ _ _ h => h) (Or.inl ⟨by rfl, ?hz76⟩) (by assumption) ?rezt76
            case hz76 => (intro w' hSw; (try dsimp only at hSw); go_simp; try with_reducible rfl)
            try simp only [Act.put, List.setIfInBounds_toArray, List.set_cons_zero, List.set_cons_succ, List.getElem_toArray, List.getElem_cons_zero, List.getElem_cons_succ]
            refine' wpAnyH_take (i := 16) (oi := _) (v := _) rfl (by kernel_rfl) (by kernel_rfl) (by kernel_rfl) (fun _ _ _ h => h) (Or.inl ⟨by rfl, ?hz77⟩) (by assumption) ?rezt77
            case hz77 => (intro w' hSw; (try dsimp only at hSw); go_simp; try with_reducible rfl)
            try simp only [Act.put, List.setIfInBounds_toArray, List.set_cons_zero, List.set_cons_succ, List.getElem_toArray, List.getElem_cons_zero, List.getElem_cons_succ]
            refine' wpAnyH_take (i := 17) (oi := _) (v := _) rfl (by kernel_rfl) (by kernel_rfl) (by kernel_rfl) (fun _ _ _ h => h) (Or.inl ⟨by rfl, ?hz78⟩) (by assumption) ?rezt78
            case hz78 => (intro w' hSw; (try dsimp only at hSw); go_simp; try with_reducible rfl)
            try simp only [Act.put, List.setIfInBounds_toArray, List.set_cons_zero, List.set_cons_succ, List.getElem_toArray, List.getElem_cons_zero, List.getElem_cons_succ]
            refine' wpAnyH_take (i := 18) (oi := _) (v := _) rfl (by kernel_rfl) (by kernel_rfl) (by kernel_rfl) (fun _ _ _ h => h) (Or.inl ⟨by rfl, ?hz79⟩) (by assumption) ?rezt79
            case hz79 => (intro w' hSw; (try dsimp only at hSw); go_simp; try with_reducible rfl)
            try simp only [Act.put, List.setIfInBounds_toArray, List.set_cons_zero, List.set_cons_succ, List.getElem_toArray, List.getElem_cons_zero, List.getElem_cons_succ]
            refine wpAnyH_ready (rs := [19]) (by kernel_rfl) (by simp) ?_
            refine AllReadyH.cons (o := _) rfl (fun K hK => ?_) AllReadyH.nil
            go_simp
            have hbd : Below w7.heap.size w7 w7.drew := (Below.refl _ w7).drew
            go_at_call 34
            refine (sameC_any _ sp { zeroC with key := ky } Sj none sp.loc.length dj 0 0 rfl rfl (Nat.le_trans hds hdsm) (HRDs7.out.keep hbd) (.inl rfl)).mono ?_
            rintro e w8 ⟨rfl, hb8⟩
            rw [decide_eq_true (HLF2.out HK.out)]
            have hb78 : Below w7.heap.size w7 w8 := hbd.trans (hb8.mono (Nat.le_refl _))
            clear hb8 hbd
            refine hK.out _ _ ?_ (fun hHeld => ?_)
            · exact hb78
            clear hK K
            try simp only [Act.put, List.setIfInBounds_toArray, List.set_cons_zero, List.set_cons_succ, List.getElem_toArray, List.getElem_cons_zero, List.getElem_cons_succ]
            refine' wpAnyH_take (i := 20) (oi := _) (v := _) rfl (by kernel_rfl) (by kernel_rfl) (by kernel_rfl) (fun _ _ _ h => h) (Or.inl ⟨by rfl, ?hz80⟩) (by assumption) ?rezt80
            case hz80 => (intro w' hSw; (try dsimp only at hSw); go_simp; try with_reducible rfl)
            try simp only [Act.put, List.setIfInBounds_toArray, List.set_cons_zero, List.set_cons_succ, List.getElem_toArray, List.getElem_cons_zero, List.getElem_cons_succ]
            refine' wpAnyH_take (i := 21) (oi := _) (v := _) rfl (by kernel_rfl) (by kernel_rfl) (by kernel_rfl) (fun _ _ _ h => h) (Or.inl ⟨by rfl, ?hz81⟩) (by assumption) ?rezt81
            case hz81 => (intro w' hSw; (try dsimp only at hSw); go_simp; try with_reducible rfl)
            try simp only [Act.put, List.setIfInBounds_toArray, List.set_cons_zero, List.set_cons_succ, List.getElem_toArray, List.getElem_cons_zero, List.getElem_cons_succ]
            refine wpAnyH_done (by kernel_rfl) ?_ _
            have hbr8 : Below wr.heap.size wr w8 := hbr7.trans (hb78.mono hz7)
            clear FK FY FE
            have hbr8b := hbr8.size
            have HN148 := Lib.hid (HN14'.out.keep hb78)
            have HR148 := Lib.hid (HR14'.out.keep hb78)
            have HT98 := Lib.hid (there_keepR HTa.out hbr8 hzw)
            have HB98 := Lib.hid (HBa.out.same (hbr8.block g9 hzw))
            have hg14' : g9 < g14 := by omega
            go_upto_region 17 with fail
            go_step
            refine wp_load_nd rfl _ rfl g14 nx A14 c14 rfl HN148.out ?_
            refine wp_store_nd rfl _ _ rfl g9 nx A14 c14 rfl rfl HT98.out ?_
            obtain ⟨w9, hw9⟩ : ∃ W, W = w8.setCells g9 0 (ndC nx A14 c14) := ⟨_, rfl⟩
            have HN9 := Lib.hid (show NdAt w9 g9 nx A14 c14 by rw [hw9]; exact NdAt.stored HT98.out _ _ _)
            have HR9 := Lib.hid (show RdCl w9 A14 nx.cs by rw [hw9]; exact HR148.out.box HB98.out (fun i hi _ => heap_setCells_ne _ _ _ _ hi))
            have HT9 := Lib.hid (show w9.there g9 0 3 by rw [hw9]; exact World.there_setCells HT98.out _ _ _)
            have HB9 := Lib.hid (show Box3 w9 g9 by rw [hw9]; exact HB98.out.sets _ _ _)
            have hbw9 : Below g9 wl w9 := by rw [hw9]; exact below_setCellsR (hbw.trans (hbr8.mono (Nat.le_of_lt hzw))) (Nat.le_refl _) _ _
            rw [← hw9]
            clear hw9
            go_wp2_with fail
            go_roundw
            case rel => exact ⟨j + 1 + 1, A14, c14, by rw [HML.out]; omega, by go_num, by rw [HNX.out]; exact HN9.out, by rw [HNX.out]; exact HR9.out, HT9.out, HB9.out, hbw9⟩
            case measure => simp [intOf]; omega
          · have qk : (n.kind == 1) = false := by simp [hk]
            clear hk
            refine wp_region_held_drew (S := (fun W => Below w7.heap.size w7 W)) (by kernel_rfl) ?_ (fun hHeld => ?_)
            · exact (Below.refl _ w7).drew
            refine' wpAnyH_take (i := 0) (oi := _) (v := _) rfl (by kernel_rfl) (by kernel_rfl) (by kernel_rfl) (fun _ _ _ h => h) (Or.inl ⟨by rfl, ?hz82⟩) (by assumption) ?rezt82
            case hz82 => (intro w' hSw; (try dsimp only at hSw); go_simp; try with_reducible rfl)
            try simp only [Act.put, List.setIfInBounds_toArray, List.set_cons_zero, List.set_cons_succ, List.getElem_toArray, List.getElem_cons_zero, List.getElem_cons_succ]
            refine' wpAnyH_take (i := 1) (oi := _) (v := _) rfl (by kernel_rfl) (by kernel_rfl) (by kernel_rfl) (fun _ _ _ h => h) (Or.inl ⟨by rfl, ?hz83⟩) (by assumption) ?rezt83
            case hz83 => (intro w' hSw; (try dsimp only at hSw); go_simp; try with_reducible rfl)
            try simp only [Act.put, List.setIfInBounds_toArray, List.set_cons_zero, List.set_cons_succ, List.getElem_toArray, List.getElem_cons_zero, List.getElem_cons_succ]
            refine' wpAnyH_take (i := 2) (oi := _) (v := _) rfl (by kernel_rfl) (by kernel_rfl) (by kernel_rfl) (fun _ _ _ h => h) (Or.inl ⟨by rfl, ?hz84⟩) (by assumption) ?rezt84
            case hz84 => (intro w' hSw; (try dsimp only at hSw); go_simp; try with_reducible rfl)
            try simp only [Act.put, List.setIfInBounds_toArray, List.set_cons_zero, List.set_cons_succ, List.getElem_toArray, List.getElem_cons_zero, List.getElem_cons_succ]
            refine' wpAnyH_take (i := 3) (oi := _) (v := _) rfl (by kernel_rfl) (by kernel_rfl) (by kernel_rfl) (fun _ _ _ h => h) (Or.inl ⟨by rfl, ?hz85⟩) (by assumption) ?rezt85
            case hz85 => (intro w' hSw; (try dsimp only at hSw); go_simp; try with_reducible rfl)
            try simp only [Act.put, List.setIfInBounds_toArray, List.set_cons_zero, List.set_cons_succ, List.getElem_toArray, List.getElem_cons_zero, List.getElem_cons_succ]
            refine' wpAnyH_take (i := 4) (oi := _) (v := _) rfl (by kernel_rfl) (by kernel_rfl) (by kernel_rfl) (fun _ _ _ h => h) (Or.inr ⟨by rfl, rfl⟩) (by assumption) ?rezn1
            try simp only [Act.put, List.setIfInBounds_toArray, List.set_cons_zero, List.set_cons_succ, List.getElem_toArray, List.getElem_cons_zero, List.getElem_cons_succ]
            refine' wpAnyH_take (i := 5) (oi := _) (v := _) rfl (by kernel_rfl) (by kernel_rfl) (by kernel_rfl) (fun _ _ _ h => h) (Or.inr ⟨by rfl, rfl⟩) (by assumption) ?rezn2
            try simp only [Act.put, List.setIfInBounds_toArray, List.set_cons_zero, List.set_cons_succ, List.getElem_toArray, List.getElem_cons_zero, List.getElem_cons_succ]
            refine' wpAnyH_take (i := 6) (oi := _) (v := _) rfl (by kernel_rfl) (by kernel_rfl) (by kernel_rfl) (fun _ _ _ h => h) (Or.inr ⟨by rfl, rfl⟩) (by assumption) ?rezn3
            try simp only [Act.put, List.setIfInBounds_toArray, List.set_cons_zero, List.set_cons_succ, List.getElem_toArray, List.getElem_cons_zero, List.getElem_cons_succ]
            refine' wpAnyH_take (i := 7) (oi := _) (v := _) rfl (by kernel_rfl) (by kernel_rfl) (by kernel_rfl) (fun _ _ _ h => h) (Or.inr ⟨by rfl, rfl⟩) (by assumption) ?rezn4
            try simp only [Act.put, List.setIfInBounds_toArray, List.set_cons_zero, List.set_cons_succ, List.getElem_toArray, List.getElem_cons_zero, List.getElem_cons_succ]
            refine' wpAnyH_take (i := 8) (oi := _) (v := _) rfl (by kernel_rfl) (by kernel_rfl) (by kernel_rfl) (fun _ _ _ h => h) (Or.inr ⟨by rfl, rfl⟩) (by assumption) ?rezn5
            try simp only [Act.put, List.setIfInBounds_toArray, List.set_cons_zero, List.set_cons_succ, List.getElem_toArray, List.getElem_cons_zero, List.getElem_cons_succ]
            refine' wpAnyH_take (i := 9) (oi := _) (v := _) rfl (by kernel_rfl) (by kernel_rfl) (by kernel_rfl) (fun _ _ _ h => h) (Or.inr ⟨by rfl, rfl⟩) (by assumption) ?rezn6
            try simp only [Act.put, List.setIfInBounds_toArray, List.set_cons_zero, List.set_cons_succ, List.getElem_toArray, List.getElem_cons_zero, List.getElem_cons_succ]
            refine' wpAnyH_take (i := 10) (oi := _) (v := _) rfl (by kernel_rfl) (by kernel_rfl) (by kernel_rfl) (fun _ _ _ h => h) (Or.inr ⟨by rfl, rfl⟩) (by assumption) ?rezn7
            try simp only [Act.put, List.setIfInBounds_toArray, List.set_cons_zero, List.set_cons_succ, List.getElem_toArray, List.getElem_cons_zero, List.getElem_cons_succ]
            refine' wpAnyH_take (i := 11) (oi := _) (v := _) rfl (by kernel_rfl) (by kernel_rfl) (by kernel_rfl) (fun _ _ _ h => h) (Or.inr ⟨by rfl, rfl⟩) (by assumption) ?rezn8
            try simp only [Act.put, List.setIfInBounds_toArray, List.set_cons_zero, List.set_cons_succ, List.getElem_toArray, List.getElem_cons_zero, List.getElem_cons_succ]
            refine' wpAnyH_take (i := 12) (oi := _) (v := _) rfl (by kernel_rfl) (by kernel_rfl) (by kernel_rfl) (fun _ _ _ h => h) (Or.inr ⟨by rfl, rfl⟩) (by assumption) ?rezn9
            try simp only [Act.put, List.setIfInBounds_toArray, List.set_cons_zero, List.set_cons_succ, List.getElem_toArray, List.getElem_cons_zero, List.getElem_cons_succ]
            refine' wpAnyH_take (i := 13) (oi := _) (v := _) rfl (by kernel_rfl) (by kernel_rfl) (by kernel_rfl) (fun _ _ _ h => h) (Or.inr ⟨by rfl, rfl⟩) (by assumption) ?rezn10
            try simp only [Act.put, List.setIfInBounds_toArray, List.set_cons_zero, List.set_cons_succ, List.getElem_toArray, List.getElem_cons_zero, List.getElem_cons_succ]
            refine' wpAnyH_take (i := 14) (oi := _) (v := _) rfl (by kernel_rfl) (by kernel_rfl) (by kernel_rfl) (fun _ _ _ h => h) (Or.inr ⟨by rfl, rfl⟩) (by assumption) ?rezn11
            try simp only [Act.put, List.setIfInBounds_toArray, List.set_cons_zero, List.set_cons_succ, List.getElem_toArray, List.getElem_cons_zero, List.getElem_cons_succ]
            refine' wpAnyH_take (i := 15) (oi := _) (v := _) rfl (by kernel_rfl) (by kernel_rfl) (by kernel_rfl) (fun _ _ _ h => h) (Or.inr ⟨by rfl, rfl⟩) (by assumption) ?rezn12
            try simp only [Act.put, List.setIfInBounds_toArray, List.set_cons_zero, List.set_cons_succ, List.getElem_toArray, List.getElem_cons_zero, List.getElem_cons_succ]
            refine' wpAnyH_take (i := 16) (oi := _) (v := _) rfl (by kernel_rfl) (by kernel_rfl) (by kernel_rfl) (fun _ _ _ h => h) (Or.inr ⟨by rfl, rfl⟩) (by assumption) ?rezn13
            try simp only [Act.put, List.setIfInBounds_toArray, List.set_cons_zero, List.set_cons_succ, List.getElem_toArray, List.getElem_cons_zero, List.getElem_cons_succ]
            refine' wpAnyH_take (i := 17) (oi := _) (v := _) rfl (by kernel_rfl) (by kernel_rfl) (by kernel_rfl) (fun _ _ _ h => h) (Or.inr ⟨by rfl, rfl⟩) (by assumption) ?rezn14
            try simp only [Act.put, List.setIfInBounds_toArray, List.set_cons_zero, List.set_cons_succ, List.getElem_toArray, List.getElem_cons_zero, List.getElem_cons_succ]
            refine' wpAnyH_take (i := 18) (oi := _) (v := _) rfl (by kernel_rfl) (by kernel_rfl) (by kernel_rfl) (fun _ _ _ h => h) (Or.inr ⟨by rfl, rfl⟩) (by assumption) ?rezn15
            try simp only [Act.put, List.setIfInBounds_toArray, List.set_cons_zero, List.set_cons_succ, List.getElem_toArray, List.getElem_cons_zero, List.getElem_cons_succ]
            refine' wpAnyH_take (i := 19) (oi := _) (v := _) rfl (by kernel_rfl) (by kernel_rfl) (by kernel_rfl) (fun _ _ _ h => h) (Or.inr ⟨by rfl, rfl⟩) (by assumption) ?rezn16
            try simp only [Act.put, List.setIfInBounds_toArray, List.set_cons_zero, List.set_cons_succ, List.getElem_toArray, List.getElem_cons_zero, List.getElem_cons_succ]
            refine' wpAnyH_take (i := 20) (oi := _) (v := _) rfl (by kernel_rfl) (by kernel_rfl) (by kernel_rfl) (fun _ _ _ h => h) (Or.inr ⟨by rfl, rfl⟩) (by assumption) ?rezn17
            try simp only [Act.put, List.setIfInBounds_toArray, List.set_cons_zero, List.set_cons_succ, List.getElem_toArray, List.getElem_cons_zero, List.getElem_cons_succ]
            refine' wpAnyH_take (i := 21) (oi := _) (v := _) rfl (by kernel_rfl) (by kernel_rfl) (by kernel_rfl) (fun _ _ _ h => h) (Or.inl ⟨by rfl, ?hz86⟩) (by assumption) ?rezt86
            case hz86 => (intro w' hSw; (try dsimp only at hSw); go_simp; try with_reducible rfl)
            try simp only [Act.put, List.setIfInBounds_toArray, List.set_cons_zero, List.set_cons_succ, List.getElem_toArray, List.getElem_cons_zero, List.getElem_cons_succ]
            refine wpAnyH_done (by kernel_rfl) ?_ _
            obtain ⟨w8, hw8⟩ : ∃ W, W = w7.drew := ⟨_, rfl⟩
            have hb78 : Below w7.heap.size w7 w8 := by rw [hw8]; exact (Below.refl _ w7).drew
            have hbr8 : Below wr.heap.size wr w8 := hbr7.trans (hb78.mono hz7)
            rw [← hw8]
            clear hw8
            clear FK FY FE
            have hbr8b := hbr8.size
            have HN148 := Lib.hid (HN14'.out.keep hb78)
            have HR148 := Lib.hid (HR14'.out.keep hb78)
            have HT98 := Lib.hid (there_keepR HTa.out hbr8 hzw)
            have HB98 := Lib.hid (HBa.out.same (hbr8.block g9 hzw))
            have hg14' : g9 < g14 := by omega
            go_upto_region 17 with fail
            go_step
            refine wp_load_nd rfl _ rfl g14 nx A14 c14 rfl HN148.out ?_
            refine wp_store_nd rfl _ _ rfl g9 nx A14 c14 rfl rfl HT98.out ?_
            obtain ⟨w9, hw9⟩ : ∃ W, W = w8.setCells g9 0 (ndC nx A14 c14) := ⟨_, rfl⟩
            have HN9 := Lib.hid (show NdAt w9 g9 nx A14 c14 by rw [hw9]; exact NdAt.stored HT98.out _ _ _)
            have HR9 := Lib.hid (show RdCl w9 A14 nx.cs by rw [hw9]; exact HR148.out.box HB98.out (fun i hi _ => heap_setCells_ne _ _ _ _ hi))
            have HT9 := Lib.hid (show w9.there g9 0 3 by rw [hw9]; exact World.there_setCells HT98.out _ _ _)
            have HB9 := Lib.hid (show Box3 w9 g9 by rw [hw9]; exact HB98.out.sets _ _ _)
            have hbw9 : Below g9 wl w9 := by rw [hw9]; exact below_setCellsR (hbw.trans (hbr8.mono (Nat.le_of_lt hzw))) (Nat.le_refl _) _ _
            rw [← hw9]
            clear hw9
            go_wp2_with fail
            go_roundw
            case rel => exact ⟨j + 1 + 1, A14, c14, by rw [HML.out]; omega, by go_num, by rw [HNX.out]; exact HN9.out, by rw [HNX.out]; exact HR9.out, HT9.out, HB9.out, hbw9⟩
            case measure => simp [intOf]; omega
    · obtain rfl : i = m := by omega
      have hlt' : ¬ (i : Int) < (i : Int) := by omega
      have hfin : allI n ps i = n := by
        have h1 := HPS.out.2.2.2.1
        rw [HML.out] at h1
        unfold allI
        rw [h1]
        exact nodeI_all n
      have HF := Lib.hid hfin
      have HKb := Lib.hid (HBX.out.at_.keepB hbr0 hl9)
      clear hfin
      go_upto_region 18 with fail
      go_step
      refine wp_load_nd rfl _ rfl g9 (allI n ps i) Aa ca rfl HNa.out ?_
      refine wp_load_nd rfl _ rfl w.heap.size n A c rfl HKb.out ?_
      go_wp2_with fail
      refine (same19_any _ (allI n ps i) n Aa A ca c (by rw [HF.out]; omega) (by omega) HRDa.out (HBX.out.cs.keep (by rw [HG9.out]; exact hbr0)) _ rfl).mono ?_
      rintro e w2 ⟨rfl, hb2⟩
      rw [decide_eq_true HF.out]
      have hbe := hbw0.trans (hb2.mono hbw0.size)
      go_wp2_with fail
      rw [HR.out]
      exact ⟨rfl, hbe⟩
end
end Go.Proofs.Ytoeaffmlolapnaa
