/- Walks over a page: set, lay. Printed by genSl.py. -/
import Derived.Test.YtoeaffmlolapnaaSlA
namespace Go.Proofs.Ytoeaffmlolapnaa
open Go.RowKit
set_option maxRecDepth 100000
set_option linter.unusedVariables false
set_option linter.unusedSimpArgs false
set_option linter.unnecessarySimpa false

theorem fixed2 (w : World) (v : Int) (h0 : 0 ≤ v) (h1 : v ≤ 65535) :
    Calls Try.prog 105 #[.int .u64 v, .int .i64 2] w (BytesBack w (fxL v 2)) := by
  have h := fixed_any w v 2 h0 (by omega)
  have e := fixed_nat v 2 (by omega) (by omega)
  rw [show ((2 : Nat) : Int) = 2 from rfl] at e
  rwa [e] at h
/-- A page whose bytes are these now. -/
def PgBack (g gb c h : Nat) (X : List Value) (w : World) (L : List Int) (w' : World) : Prop := Pg w' g gb c h L X ∧ Mut w gb w'

set_option maxHeartbeats 4000000 in
theorem pset_any (w : World) (g gb c h : Nat) (L : List Int) (X : List Value) (hp : Pg w g gb c h L X) (i : Nat) (v : Int) (hi : i + 2 ≤ L.length) (v0 : 0 ≤ v) (v1 : v ≤ 65535) :
    Calls Try.prog 70 #[.pointer (some ⟨g, 0, none⟩), .int .i64 (i : Int), .int .i64 v] w fun e w' => e = .returned (.tuple #[]) ∧ PgBack g gb c h X w (splice L i (fxL v 2)) w' := by
  have HP := Lib.hid hp
  have hlc := hp.len
  have hw : IntKind.u64.wrap v = v := by rw [IntKind.wrap_u64]; omega
  have K0 : ∀ W : World, Mut w gb W → W.cell? ⟨g, 0, none⟩ = some (.slice (some ⟨gb, 0, none⟩) L.length c) := fun W hW => heap_cell ((hW.block g HP.out.lt.1 HP.out.ne).trans HP.out.head)
  have hcut := run_cut_from (some ⟨gb, 0, none⟩) L.length c i (by omega)
  have hf : (fxL v 2).length = 2 := fxL_length v 2
  have HF := Lib.hid hf
  clear hp hf
  obtain ⟨D, hD⟩ : ∃ D, cutA (some ⟨gb, 0, none⟩) c i = D := ⟨_, rfl⟩
  have HD := Lib.hid hD
  rw [hD] at hcut
  clear hD
  go_enter Try.func70, Try.ntmps70
  go_upto_region 0 with fail
  refine wp_region_held_drew (S := (fun W => Mut w gb W)) (by kernel_rfl) ?_ (fun hHeld => ?_)
  · exact (Mut.refl w gb).drew
  refine' wpAnyH_take (i := 0) (oi := _) (v := _) rfl (by kernel_rfl) (by kernel_rfl) (by kernel_rfl) (fun _ _ _ h => h) (Or.inl ⟨by rfl, ?hz1⟩) (by assumption) ?rezt1
  case hz1 => (intro w' hSw; (try dsimp only at hSw); go_simp; try with_reducible rfl)
  try simp only [Act.put, List.setIfInBounds_toArray, List.set_cons_zero, List.set_cons_succ, List.getElem_toArray, List.getElem_cons_zero, List.getElem_cons_succ]
  refine' wpAnyH_take (i := 1) (oi := _) (v := _) rfl (by kernel_rfl) (by kernel_rfl) (by kernel_rfl) (fun _ _ _ h => h) (Or.inl ⟨by rfl, ?hz2⟩) (by assumption) ?rezt2
  case hz2 => (intro w' hSw; (try dsimp only at hSw); go_simp; try with_reducible rfl)
  try simp only [Act.put, List.setIfInBounds_toArray, List.set_cons_zero, List.set_cons_succ, List.getElem_toArray, List.getElem_cons_zero, List.getElem_cons_succ]
  refine' wpAnyH_take (i := 2) (oi := _) (v := _) rfl (by kernel_rfl) (by kernel_rfl) (by kernel_rfl) (fun _ _ _ h => h) (Or.inl ⟨by rfl, ?hz3⟩) (by assumption) ?rezt3
  case hz3 => (intro w' hSw; (try dsimp only at hSw); go_simp; try with_reducible rfl)
  try simp only [Act.put, List.setIfInBounds_toArray, List.set_cons_zero, List.set_cons_succ, List.getElem_toArray, List.getElem_cons_zero, List.getElem_cons_succ]
  refine' wpAnyH_take (i := 3) (oi := _) (v := _) rfl (by kernel_rfl) (by kernel_rfl) (by kernel_rfl) (fun _ _ _ h => h) (Or.inl ⟨by rfl, ?hz4⟩) (by assumption) ?rezt4
  case hz4 => (intro w' hSw; (try dsimp only at hSw); go_simp; try with_reducible rfl)
  try simp only [Act.put, List.setIfInBounds_toArray, List.set_cons_zero, List.set_cons_succ, List.getElem_toArray, List.getElem_cons_zero, List.getElem_cons_succ]
  refine' wpAnyH_take (i := 4) (oi := _) (v := _) rfl (by kernel_rfl) (by kernel_rfl) (by kernel_rfl) (fun _ _ _ h => h) (Or.inl ⟨by rfl, ?hz5⟩) (by assumption) ?rezt5
  case hz5 => (intro w' hSw; (try dsimp only at hSw); go_simp; try with_reducible rfl)
  try simp only [Act.put, List.setIfInBounds_toArray, List.set_cons_zero, List.set_cons_succ, List.getElem_toArray, List.getElem_cons_zero, List.getElem_cons_succ]
  refine' wpAnyH_take (i := 5) (oi := _) (v := _) rfl (by kernel_rfl) (by kernel_rfl) (by kernel_rfl) (fun _ _ _ h => h) (Or.inl ⟨by rfl, ?hz6⟩) (by assumption) ?rezt6
  case hz6 => (intro w' hSw; (try dsimp only at hSw); go_simp; try with_reducible rfl)
  try simp only [Act.put, List.setIfInBounds_toArray, List.set_cons_zero, List.set_cons_succ, List.getElem_toArray, List.getElem_cons_zero, List.getElem_cons_succ]
  refine' wpAnyH_take (i := 6) (oi := _) (v := _) rfl (by kernel_rfl) (by kernel_rfl) (by kernel_rfl) (fun _ _ _ h => h) (Or.inl ⟨by rfl, ?hz7⟩) (by assumption) ?rezt7
  case hz7 => (intro w' hSw; (try dsimp only at hSw); go_simp; try with_reducible rfl)
  try simp only [Act.put, List.setIfInBounds_toArray, List.set_cons_zero, List.set_cons_succ, List.getElem_toArray, List.getElem_cons_zero, List.getElem_cons_succ]
  refine' wpAnyH_take (i := 7) (oi := _) (v := _) rfl (by kernel_rfl) (by kernel_rfl) (by kernel_rfl) (fun _ _ _ h => h) (Or.inl ⟨by rfl, ?hz8⟩) (by assumption) ?rezt8
  case hz8 => (intro w' hSw; (try dsimp only at hSw); go_simp; try with_reducible rfl)
  try simp only [Act.put, List.setIfInBounds_toArray, List.set_cons_zero, List.set_cons_succ, List.getElem_toArray, List.getElem_cons_zero, List.getElem_cons_succ]
  refine wpAnyH_ready (rs := [8]) (by kernel_rfl) (by simp) ?_
  refine AllReadyH.cons (o := _) rfl (fun K hK => ?_) AllReadyH.nil
  go_simp
  go_at_call 105
  refine (fixed2 _ v v0 v1).mono ?_
  rintro e w2 ⟨B2, n2, c2, rfl, hown2, hb2⟩
  have hb2' : Below w.heap.size w w2 := (Below.refl _ w).drew.trans (hb2.mono (Nat.le_refl _))
  have HO := Lib.hid hown2
  clear hown2 hb2
  refine hK.out _ _ ?_ (fun hHeld => ?_)
  · exact Mut.of hb2' gb
  clear hK K
  try simp only [Act.put, List.setIfInBounds_toArray, List.set_cons_zero, List.set_cons_succ, List.getElem_toArray, List.getElem_cons_zero, List.getElem_cons_succ]
  have hn2 : 2 = n2 := HF.out.symm.trans HO.out.len
  subst hn2
  have HP2 := Lib.hid (HP.out.keep hb2')
  have hcc := HP.out.cap
  refine wpAnyH_ready (rs := [9]) (by kernel_rfl) (by simp) ?_
  refine AllReadyH.cons (o := _) rfl (fun K hK => ?_) AllReadyH.nil
  refine step_copy_pg rfl (.tmp 11) (.tmp 14) rfl gb i (L.length - i) (c - i) c L (fxL v 2) X (by rw [HD.out]; rfl) HP2.out.row hcc (by omega) B2 2 c2 rfl HF.out (by omega) HO.out.rd ?_
  intro w3 hr3 hm3
  have hM3 : Mut w gb w3 := (Mut.of hb2' gb).trans hm3
  have HP3 := Lib.hid (HP2.out.mut hm3 hr3 (splice_len (by rw [HF.out]; exact hi)) (splice_isB HP.out.byts (fxL_isB v 2) i))
  refine hK.out _ _ ?_ (fun hHeld => ?_)
  · exact hM3
  clear hK K
  try simp only [Act.put, List.setIfInBounds_toArray, List.set_cons_zero, List.set_cons_succ, List.getElem_toArray, List.getElem_cons_zero, List.getElem_cons_succ]
  refine wpAnyH_done (by kernel_rfl) ?_ _
  go_wp2
  first | go_ret | go_end0 | skip
  exact ⟨rfl, HP3.out, hM3⟩
end Go.Proofs.Ytoeaffmlolapnaa
