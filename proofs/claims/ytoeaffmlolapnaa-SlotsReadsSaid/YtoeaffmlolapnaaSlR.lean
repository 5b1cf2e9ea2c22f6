/- Walks over a page: clear, Pack. Printed by genSr.py. -/
import Derived.Test.YtoeaffmlolapnaaSlQ
import Derived.Test.YtoeaffmlolapnaaSlF
namespace Go.Proofs.Ytoeaffmlolapnaa
open Go.RowKit
set_option maxRecDepth 100000
set_option linter.unusedVariables false
set_option linter.unusedSimpArgs false
set_option linter.unnecessarySimpa false

theorem run_clear_pg (w : World) (gb lo m dCap c : Nat) (L : List Int) (X : List Value) (hr : Row w gb L X) (hc : L.length + X.length = c) (hd : lo + m ≤ L.length) (ty : TypeId) :
    ∃ w', (Builtin.clear_ #[29] ty #[.slice (cutA (some ⟨gb, 0, none⟩) c lo) m dCap]).run Try.prog w = .ok (.tuple #[]) w' ∧ Row w' gb (splice L lo (List.replicate m 0)) X ∧ Mut w gb w' := by
  cases m with
  | zero =>
    refine ⟨w, ?_, by rw [List.replicate_zero, splice_nil]; exact hr, Mut.refl _ _⟩
    generalize cutA (some ⟨gb, 0, none⟩) c lo = D
    cases D <;> simp [Builtin.clear_, run_underlying Try.underlying29]
  | succ m =>
    have hcut : cutA (some ⟨gb, 0, none⟩) c lo = some ⟨gb, lo, none⟩ := by
      unfold cutA
      rw [if_neg (by omega)]
      simp [Addr.add_lit]
    rw [hcut]
    have hv : ∀ w, (zeroValue 5).run Try.prog w = .ok (.int .u8 0) w := fun w => by kernel_rfl
    have hzc : (Builtin.zeroCells (Value.cells (.int .u8 0)) (m + 1)).toList = vb (List.replicate (m + 1) 0) := by
      rw [show Value.cells (.int .u8 0) = #[.int .u8 0] from rfl]
      simp only [Builtin.zeroCells, vb]
      apply List.ext_getElem
      · simp
      · intro i h1 h2
        simp [Nat.mod_one]
    have hst := run_storeCells_at Try.prog gb lo 5 (vb (List.replicate (m + 1) 0)) 0 (vb L ++ X).toArray w hr (by simp [vb_length]; omega) (vb_one _)
    refine ⟨_, by simp [Builtin.clear_, run_underlying Try.underlying29, hv, hzc, hst]; rfl, ?_, Mut.row _ _ _⟩
    unfold Row
    rw [setRow_heap w gb _ _ _ _ hr]
    congr 2
    rw [← vb_splice L _ X lo (by rw [List.length_replicate]; exact hd)]
    simp [splice, vb_length]
theorem step_clear_pg {ops : Array Oper} {o : Oper} {a : Act} {w : World} {K : Act → World → Prop} {Q : Exit → Act → World → Prop} {E : Prop} (hgd : o.guard = none) (d : Operand)
    (ho : o.op = .call { callee := .builtin .clear, args := #[d], argTypes := #[29] })
    (gb lo m dCap c : Nat) (L : List Int) (X : List Value) (hdv : a.eval d = .slice (cutA (some ⟨gb, 0, none⟩) c lo) m dCap) (hr : Row w gb L X) (hc : L.length + X.length = c) (hd : lo + m ≤ L.length)
    (h : ∀ w', Row w' gb (splice L lo (List.replicate m 0)) X → Mut w gb w' → K (a.put o.dst (.tuple #[])) w') :
    if Region.wanted o (yielded ops a.tmps) = true then Oper.wp Try.prog o a w K Q else E := by
  have hw : Region.wanted o (yielded ops a.tmps) = true := by simp [Region.wanted, hgd]
  rw [if_pos hw]
  obtain ⟨w', hrun, h1, h2⟩ := run_clear_pg w gb lo m dCap c L X hr hc hd o.type
  unfold Oper.wp execOp
  simp only [ho, resolve, invoke, builtin, Sem.run_bind, Sem.run_pure, Result.andThen_ok, List.map_toArray, List.map_cons, List.map_nil, hdv, hrun]
  exact h w' h1 h2
theorem wp_clear_pg {ops : Array Oper} {rest : List Oper} {o : Oper} {a : Act} {w : World} {Q : Exit → Act → World → Prop} (hgd : o.guard = none) (d : Operand)
    (ho : o.op = .call { callee := .builtin .clear, args := #[d], argTypes := #[29] })
    (gb lo m dCap c : Nat) (L : List Int) (X : List Value) (hdv : a.eval d = .slice (cutA (some ⟨gb, 0, none⟩) c lo) m dCap) (hr : Row w gb L X) (hc : L.length + X.length = c) (hd : lo + m ≤ L.length)
    (h : ∀ w', Row w' gb (splice L lo (List.replicate m 0)) X → Mut w gb w' → wpList Try.prog ops Q rest (a.put o.dst (.tuple #[])) w') : wpList Try.prog ops Q (o :: rest) a w := by
  obtain ⟨w', hrun, h1, h2⟩ := run_clear_pg w gb lo m dCap c L X hr hc hd o.type
  refine wpList_plain hgd fun K hK => ?_
  unfold Oper.wp execOp
  simp only [ho, resolve, invoke, builtin, Sem.run_bind, Sem.run_pure, Result.andThen_ok, List.map_toArray, List.map_cons, List.map_nil, hdv, hrun]
  exact hK _ _ (h w' h1 h2)
/-- A page made of bytes that the call owns. -/
theorem Pg.made {w : World} {base : Nat} {A : Option Addr} {n c : Nat} {l : List Int} (h : OwnB w base A n c l) (hB : IsB l) (hn : 0 < n) :
    ∃ gb X, A = some ⟨gb, 0, none⟩ ∧ base ≤ gb ∧ gb < w.heap.size ∧ ∀ hd : Nat, Pg (w.alloc (.cells #[.slice A n c, .int .i64 (hd : Int)] 91)) w.heap.size gb c hd l X := by
  have hl := h.len
  rcases h.form with ⟨_, h0, _⟩ | ⟨g, cur, hA, hb, hg, h1, h2, h3, h4⟩
  · omega
  · have hlt : g < w.heap.size := (Array.getElem?_eq_some_iff.1 hg).1
    refine ⟨g, cur.toList.drop n, hA, hb, hlt, fun hd => ⟨?_, ?_, ?_, h2, hB⟩⟩
    · rw [hA, hl]
      exact heap_alloc_new w _
    · unfold Row
      rw [Below.heap_alloc _ _ _ hlt, hg]
      congr 2
      rw [← h4, List.take_append_drop]
    · have h5 : cur.toList.length = c := by rw [Array.length_toList]; exact h3
      rw [List.length_drop, h5, hl]
      omega

def PkRel (w : World) (g gb c : Nat) (X : List Value) (M : Mdl) (L : List Int) (g2 gb2 c2 : Nat) (X2 : List Value) (t i : Value) (wr : World) : Prop :=
  ∃ (j : Nat) (Lj : List Int), j ≤ M.k ∧ i = .int .i64 j ∧ t = .int .i64 ((M.n - sz (M.C.take j) : Nat) : Int) ∧ Pg wr g gb c M.h Lj X ∧ PkS Lj M j ∧ Pg wr g2 gb2 c2 M.h L X2 ∧ Mut w gb wr

set_option maxHeartbeats 16000000 in
theorem pPack_any (w : World) (g gb c : Nat) (L : List Int) (X : List Value) (M : Mdl) (hp : Pg w g gb c M.h L X) (hi : IsP L M) (hg : Good M) :
    Calls Try.prog 28 #[.pointer (some ⟨g, 0, none⟩)] w fun e w' => e = .returned (.tuple #[]) ∧ ∃ L', PgBack g gb c M.h X w L' w' ∧ IsP L' M.pack := by
  have HP := Lib.hid hp
  have HI := Lib.hid hi
  have HG := Lib.hid hg
  have hn0 := hg.n0
  have hn1 := hg.n1
  have hh := hg.h1
  have hfit := hg.fit
  have hk := hg.kle
  unfold Mdl.used at hfit
  have hlen := hi.len
  have HLN := Lib.hid hlen
  have hlc := hp.len
  rw [hlen] at hlc
  have HMN := Lib.hid hi.many
  have m0 := hp.m0
  have m1 := hp.m1
  rw [hlen] at m0
  have hglt := hp.lt
  clear hp hi hg hlen
  have K0 : ∀ W : World, Below w.heap.size w W → W.cell? ⟨g, 0, none⟩ = some (.slice (some ⟨gb, 0, none⟩) M.n c) := fun W hW => (hW.cell (World.block_lt_of_cell? _ _ m0)).trans m0
  have K1 : ∀ W : World, Below w.heap.size w W → W.cell? ⟨g, 1, none⟩ = some (.int .i64 (M.h : Int)) := fun W hW => (hW.cell (World.block_lt_of_cell? _ _ m1)).trans m1
  clear m0 m1
  go_enter Try.func28, Try.ntmps28
  go_upto_region 1 with fail
  refine wp_region_held_drew (S := (fun W => Below w.heap.size w W)) (by kernel_rfl) ?_ (fun hHeld => ?_)
  · exact (Below.refl _ w).drew
  refine' wpAnyH_take (i := 0) (oi := _) (v := _) rfl (by kernel_rfl) (by kernel_rfl) (by kernel_rfl) (fun _ _ _ h => h) (Or.inl ⟨by rfl, ?hz1⟩) (by assumption) ?rezt1
  case hz1 => (intro w' hSw; (try dsimp only at hSw); go_simp; try with_reducible rfl)
  try simp only [Act.put, List.setIfInBounds_toArray, List.set_cons_zero, List.set_cons_succ, List.getElem_toArray, List.getElem_cons_zero, List.getElem_cons_succ]
  refine' wpAnyH_take (i := 1) (oi := _) (v := _) rfl (by kernel_rfl) (by kernel_rfl) (by kernel_rfl) (fun _ _ _ h => h) (Or.inl ⟨by rfl, ?hz2⟩) (by assumption) ?rezt2
  case hz2 => (intro w' hSw; (try dsimp only at hSw); go_simp; try with_reducible rfl)
  try simp only [Act.put, List.setIfInBounds_toArray, List.set_cons_zero, List.set_cons_succ, List.getElem_toArray, List.getElem_cons_zero, List.getElem_cons_succ]
  refine' wpAnyH_take (i := 2) (oi := _) (v := _) rfl (by kernel_rfl) (by kernel_rfl) (by kernel_rfl) (fun _ _ _ h => h) (Or.inl ⟨by rfl, ?hz3⟩) (by assumption) ?rezt3
  case hz3 => (intro w' hSw; (try dsimp only at hSw); go_simp; try with_reducible rfl)
  try simp only [Act.put, List.setIfInBounds_toArray, List.set_cons_zero, List.set_cons_succ, List.getElem_toArray, List.getElem_cons_zero, List.getElem_cons_succ]
  refine' wpAnyH_take (i := 3) (oi := _) (v := _) rfl (by kernel_rfl) (by kernel_rfl) (by kernel_rfl) (fun _ _ _ h => h) (Or.inl ⟨by rfl, ?hz4⟩) (by assumption) ?rezt4
  case hz4 => (intro w' hSw; (try dsimp only at hSw); go_simp; try with_reducible rfl)
  try simp only [Act.put, List.setIfInBounds_toArray, List.set_cons_zero, List.set_cons_succ, List.getElem_toArray, List.getElem_cons_zero, List.getElem_cons_succ]
  refine' wpAnyH_take (i := 5) (oi := _) (v := _) rfl (by kernel_rfl) (by kernel_rfl) (by kernel_rfl) (fun _ _ _ h => h) (Or.inl ⟨by rfl, ?hz5⟩) (by assumption) ?rezt5
  case hz5 => (intro w' hSw; (try dsimp only at hSw); go_simp; try with_reducible rfl)
  try simp only [Act.put, List.setIfInBounds_toArray, List.set_cons_zero, List.set_cons_succ, List.getElem_toArray, List.getElem_cons_zero, List.getElem_cons_succ]
  refine' wpAnyH_take (i := 6) (oi := _) (v := _) rfl (by kernel_rfl) (by kernel_rfl) (by kernel_rfl) (fun _ _ _ h => h) (Or.inl ⟨by rfl, ?hz6⟩) (by assumption) ?rezt6
  case hz6 => (intro w' hSw; (try dsimp only at hSw); go_simp; try with_reducible rfl)
  try simp only [Act.put, List.setIfInBounds_toArray, List.set_cons_zero, List.set_cons_succ, List.getElem_toArray, List.getElem_cons_zero, List.getElem_cons_succ]
  refine' wpAnyH_take (i := 7) (oi := _) (v := _) rfl (by kernel_rfl) (by kernel_rfl) (by kernel_rfl) (fun _ _ _ h => h) (Or.inl ⟨by rfl, ?hz7⟩) (by assumption) ?rezt7
  case hz7 => (intro w' hSw; (try dsimp only at hSw); go_simp; try with_reducible rfl)
  try simp only [Act.put, List.setIfInBounds_toArray, List.set_cons_zero, List.set_cons_succ, List.getElem_toArray, List.getElem_cons_zero, List.getElem_cons_succ]
  refine' wpAnyH_take (i := 8) (oi := _) (v := _) rfl (by kernel_rfl) (by kernel_rfl) (by kernel_rfl) (fun _ _ _ h => h) (Or.inl ⟨by rfl, ?hz8⟩) (by assumption) ?rezt8
  case hz8 => (intro w' hSw; (try dsimp only at hSw); go_simp; try with_reducible rfl)
  try simp only [Act.put, List.setIfInBounds_toArray, List.set_cons_zero, List.set_cons_succ, List.getElem_toArray, List.getElem_cons_zero, List.getElem_cons_succ]
  refine wpAnyH_ready (rs := [4]) (by kernel_rfl) (by simp) ?_
  refine AllReadyH.cons (o := _) rfl (fun K hK => ?_) AllReadyH.nil
  go_simp
  have hbd : Below w.heap.size w w.drew := (Below.refl _ w).drew
  go_at_call 63
  refine (pclone_any _ (some ⟨gb, 0, none⟩) M.n c L HLN.out (by omega) (fun h => by cases h) (HP.out.keep hbd).rd).mono ?_
  rintro e w1 ⟨A1, n1, c1, rfl, hown1, hb1⟩
  have hb1' : Below w.heap.size w w1 := hbd.trans (hb1.mono (Nat.le_refl _))
  have HO := Lib.hid (show OwnB w1 w.heap.size A1 n1 c1 L from hown1)
  clear hown1 hb1 hbd
  refine hK.out _ _ ?_ (fun hHeld => ?_)
  · exact hb1'
  clear hK K
  try simp only [Act.put, List.setIfInBounds_toArray, List.set_cons_zero, List.set_cons_succ, List.getElem_toArray, List.getElem_cons_zero, List.getElem_cons_succ]
  have hn1' : M.n = n1 := HLN.out.symm.trans HO.out.len
  subst hn1'
  obtain ⟨gb2, X2, hA1, hgb2, hgb2', hpg2⟩ := Pg.made HO.out HP.out.byts (by omega)
  subst hA1
  have hz1 := hb1'.size
  refine' wpAnyH_take (i := 9) (oi := _) (v := _) rfl (by kernel_rfl) (by kernel_rfl) (by kernel_rfl) (fun _ _ _ h => h) (Or.inl ⟨by rfl, ?hz9⟩) (by assumption) ?rezt9
  case hz9 => (intro w' hSw; (try dsimp only at hSw); go_simp; try with_reducible rfl)
  try simp only [Act.put, List.setIfInBounds_toArray, List.set_cons_zero, List.set_cons_succ, List.getElem_toArray, List.getElem_cons_zero, List.getElem_cons_succ]
  refine wpAnyH_ready (rs := [10]) (by kernel_rfl) (by simp) ?_
  refine AllReadyH.cons (o := _) rfl (fun K hK => ?_) AllReadyH.nil
  go_simp
  refine hK.out _ _ ?_ (fun hHeld => ?_)
  · exact hb1'.alloc hz1 _
  clear hK K
  try simp only [Act.put, List.setIfInBounds_toArray, List.set_cons_zero, List.set_cons_succ, List.getElem_toArray, List.getElem_cons_zero, List.getElem_cons_succ]
  refine' wpAnyH_take (i := 11) (oi := _) (v := _) rfl (by kernel_rfl) (by kernel_rfl) (by kernel_rfl) (fun _ _ _ h => h) (Or.inl ⟨by rfl, ?hz10⟩) (by assumption) ?rezt10
  case hz10 => (intro w' hSw; (try dsimp only at hSw); go_simp; try with_reducible rfl)
  try simp only [Act.put, List.setIfInBounds_toArray, List.set_cons_zero, List.set_cons_succ, List.getElem_toArray, List.getElem_cons_zero, List.getElem_cons_succ]
  refine wpAnyH_done (by kernel_rfl) ?_ _
  clear K0 K1
  obtain ⟨W2, hW2⟩ : ∃ W, W = w1.alloc (.cells #[.slice (some ⟨gb2, 0, none⟩) M.n c1, .int .i64 (M.h : Int)] 91) := ⟨_, rfl⟩
  have hb2 : Below w.heap.size w W2 := by rw [hW2]; exact hb1'.alloc hz1 _
  have hp2 := hpg2 M.h
  rw [← hW2] at hp2 ⊢
  clear hpg2 hW2
  have HP2 := Lib.hid hp2
  have HQ := Lib.hid (HP.out.keep hb2)
  have hg2 : w.heap.size ≤ w1.heap.size := hz1
  obtain ⟨g2, hg2'⟩ : ∃ g2, g2 = w1.heap.size := ⟨_, rfl⟩
  rw [← hg2'] at HP2 hp2 hg2 ⊢
  clear hg2' hgb2' hb1' HO
  -- the bytes behind the places are cleared
  have m0 := HQ.out.m0
  rw [HLN.out] at m0
  have hlt := HQ.out.lt
  have K0 : ∀ W : World, Mut W2 gb W → W.cell? ⟨g, 0, none⟩ = some (.slice (some ⟨gb, 0, none⟩) M.n c) := fun W hW => by
    have := heap_cell (i := 0) ((hW.block g HQ.out.lt.1 HQ.out.ne).trans HQ.out.head)
    rw [HLN.out] at this
    exact this
  have hcut := run_cut_from (some ⟨gb, 0, none⟩) M.n c (M.h + 2 + 2 * M.k) hfit
  rw [show ((M.h + 2 + 2 * M.k : Nat) : Int) = (M.h : Int) + 2 + 2 * (M.k : Int) by omega] at hcut
  obtain ⟨D, hD⟩ : ∃ D, cutA (some ⟨gb, 0, none⟩) c (M.h + 2 + 2 * M.k) = D := ⟨_, rfl⟩
  have HD := Lib.hid hD
  rw [hD] at hcut
  clear hD m0 hp2
  go_upto_region 2 with fail
  refine wp_region_held_drew (S := (fun W => Mut W2 gb W)) (by kernel_rfl) ?_ (fun hHeld => ?_)
  · exact (Mut.refl W2 gb).drew
  refine' wpAnyH_take (i := 0) (oi := _) (v := _) rfl (by kernel_rfl) (by kernel_rfl) (by kernel_rfl) (fun _ _ _ h => h) (Or.inl ⟨by rfl, ?hz11⟩) (by assumption) ?rezt11
  case hz11 => (intro w' hSw; (try dsimp only at hSw); go_simp; try with_reducible rfl)
  try simp only [Act.put, List.setIfInBounds_toArray, List.set_cons_zero, List.set_cons_succ, List.getElem_toArray, List.getElem_cons_zero, List.getElem_cons_succ]
  refine' wpAnyH_take (i := 1) (oi := _) (v := _) rfl (by kernel_rfl) (by kernel_rfl) (by kernel_rfl) (fun _ _ _ h => h) (Or.inl ⟨by rfl, ?hz12⟩) (by assumption) ?rezt12
  case hz12 => (intro w' hSw; (try dsimp only at hSw); go_simp; try with_reducible rfl)
  try simp only [Act.put, List.setIfInBounds_toArray, List.set_cons_zero, List.set_cons_succ, List.getElem_toArray, List.getElem_cons_zero, List.getElem_cons_succ]
  refine' wpAnyH_take (i := 2) (oi := _) (v := _) rfl (by kernel_rfl) (by kernel_rfl) (by kernel_rfl) (fun _ _ _ h => h) (Or.inl ⟨by rfl, ?hz13⟩) (by assumption) ?rezt13
  case hz13 => (intro w' hSw; (try dsimp only at hSw); go_simp; try with_reducible rfl)
  try simp only [Act.put, List.setIfInBounds_toArray, List.set_cons_zero, List.set_cons_succ, List.getElem_toArray, List.getElem_cons_zero, List.getElem_cons_succ]
  refine' wpAnyH_take (i := 3) (oi := _) (v := _) rfl (by kernel_rfl) (by kernel_rfl) (by kernel_rfl) (fun _ _ _ h => h) (Or.inl ⟨by rfl, ?hz14⟩) (by assumption) ?rezt14
  case hz14 => (intro w' hSw; (try dsimp only at hSw); go_simp; try with_reducible rfl)
  try simp only [Act.put, List.setIfInBounds_toArray, List.set_cons_zero, List.set_cons_succ, List.getElem_toArray, List.getElem_cons_zero, List.getElem_cons_succ]
  refine' wpAnyH_take (i := 4) (oi := _) (v := _) rfl (by kernel_rfl) (by kernel_rfl) (by kernel_rfl) (fun _ _ _ h => h) (Or.inl ⟨by rfl, ?hz15⟩) (by assumption) ?rezt15
  case hz15 => (intro w' hSw; (try dsimp only at hSw); go_simp; try with_reducible rfl)
  try simp only [Act.put, List.setIfInBounds_toArray, List.set_cons_zero, List.set_cons_succ, List.getElem_toArray, List.getElem_cons_zero, List.getElem_cons_succ]
  refine' wpAnyH_take (i := 5) (oi := _) (v := _) rfl (by kernel_rfl) (by kernel_rfl) (by kernel_rfl) (fun _ _ _ h => h) (Or.inl ⟨by rfl, ?hz16⟩) (by assumption) ?rezt16
  case hz16 => (intro w' hSw; (try dsimp only at hSw); go_simp; try with_reducible rfl)
  try simp only [Act.put, List.setIfInBounds_toArray, List.set_cons_zero, List.set_cons_succ, List.getElem_toArray, List.getElem_cons_zero, List.getElem_cons_succ]
  refine wpAnyH_ready (rs := [6]) (by kernel_rfl) (by simp) ?_
  refine AllReadyH.cons (o := _) rfl (fun K hK => ?_) AllReadyH.nil
  go_simp
  go_at_call 61
  refine (pmany_any _ g gb c M.h L X (HQ.out.keep (Below.refl _ W2).drew) (by rw [HLN.out]; omega)).mono ?_
  rintro e w3 ⟨rfl, rfl⟩
  rw [HMN.out]
  refine hK.out _ _ ?_ (fun hHeld => ?_)
  · exact (Mut.refl W2 gb).drew
  clear hK K
  try simp only [Act.put, List.setIfInBounds_toArray, List.set_cons_zero, List.set_cons_succ, List.getElem_toArray, List.getElem_cons_zero, List.getElem_cons_succ]
  refine wpAnyH_ready (rs := [7]) (by kernel_rfl) (by simp) ?_
  refine AllReadyH.cons (o := _) rfl (fun K hK => ?_) AllReadyH.nil
  go_simp
  go_at_call 68
  refine (pslot_any _ g gb c M.h L X (HQ.out.keep (Below.refl _ W2).drew) hh (M.k : Int) (by omega) (by omega)).mono ?_
  rintro e w3 ⟨rfl, rfl⟩
  refine hK.out _ _ ?_ (fun hHeld => ?_)
  · exact (Mut.refl W2 gb).drew
  clear hK K
  try simp only [Act.put, List.setIfInBounds_toArray, List.set_cons_zero, List.set_cons_succ, List.getElem_toArray, List.getElem_cons_zero, List.getElem_cons_succ]
  refine' wpAnyH_take (i := 8) (oi := _) (v := _) rfl (by kernel_rfl) (by kernel_rfl) (by kernel_rfl) (fun _ _ _ h => h) (Or.inl ⟨by rfl, ?hz17⟩) (by assumption) ?rezt17
  case hz17 => (intro w' hSw; (try dsimp only at hSw); go_simp; try with_reducible rfl)
  try simp only [Act.put, List.setIfInBounds_toArray, List.set_cons_zero, List.set_cons_succ, List.getElem_toArray, List.getElem_cons_zero, List.getElem_cons_succ]
  refine wpAnyH_ready (rs := [9]) (by kernel_rfl) (by simp) ?_
  refine AllReadyH.cons (o := _) rfl (fun K hK => ?_) AllReadyH.nil
  refine step_clear_pg rfl (.tmp 28) rfl gb (M.h + 2 + 2 * M.k) (M.n - (M.h + 2 + 2 * M.k)) (c - (M.h + 2 + 2 * M.k)) c L X (by rw [HD.out]; rfl) (HQ.out.keep (Below.refl _ W2).drew).row HQ.out.cap (by rw [HLN.out]; omega) ?_
  intro w3 hr3 hm3
  have hm3' : Mut W2 gb w3 := (Mut.of (Below.refl _ W2).drew gb).trans hm3
  refine hK.out _ _ ?_ (fun hHeld => ?_)
  · exact hm3'
  clear hK K
  try simp only [Act.put, List.setIfInBounds_toArray, List.set_cons_zero, List.set_cons_succ, List.getElem_toArray, List.getElem_cons_zero, List.getElem_cons_succ]
  refine wpAnyH_done (by kernel_rfl) ?_ _
  have hS0 := PkS.start HG.out HI.out
  obtain ⟨L3, hL3⟩ : ∃ L3, L3 = splice L (M.used M.k) (List.replicate (M.n - M.used M.k) 0) := ⟨_, rfl⟩
  have hr3' : Row w3 gb L3 X := by rw [hL3]; exact hr3
  rw [← hL3] at hS0
  clear hL3 hr3
  have hl0 : L3.length = L.length := by rw [hS0.len, HLN.out]
  have HP3 := Lib.hid (HQ.out.mut hm3' hr3' hl0 hS0.byts)
  have HS3 := Lib.hid hS0
  have HP23 := Lib.hid (HP2.out.other hm3' (by omega) (by omega))
  have hM3 : Mut w gb w3 := (Mut.of hb2 gb).trans hm3'
  clear hS0 hl0 hr3' hm3 hm3' K0 hcut HD HQ HP2
  have m0 := HP3.out.m0
  rw [HS3.out.len] at m0
  go_wp2_with fail
  refine (pmany_any _ g2 gb2 c1 M.h L X2 HP23.out (by rw [HLN.out]; omega)).mono ?_
  rintro e w4 ⟨rfl, rfl⟩
  rw [HMN.out]
  clear m0
  go_wp2_with fail
  go_loopw [3, 36] (PkRel w g gb c X M L g2 gb2 c1 X2) (fun _ i _ => M.k - (intOf i).toNat)
  case atStart => exact ⟨0, _, Nat.zero_le _, rfl, by simp [sz], HP3.out, HS3.out, HP23.out, hM3⟩
  case round =>
    obtain ⟨j, Lj, hj, rfl, rfl, hp, hs, hp2, hm⟩ := hrel
    have HPj := Lib.hid hp
    have HSj := Lib.hid hs
    have HP2j := Lib.hid hp2
    have HM := Lib.hid hm
    clear hp hs hm
    by_cases hlt : j < M.k
    · have hgj := HI.out.slots j hlt
      obtain ⟨q, hq⟩ : ∃ q, M.pl j = q := ⟨_, rfl⟩
      have hhi := HG.out.hi j hlt
      rw [hq] at hgj hhi
      have HS := Lib.hid hgj
      have hle := HI.out.lens j hlt
      rw [hq] at hle
      obtain ⟨m, hm⟩ : ∃ m, (M.cl j).length = m := ⟨_, rfl⟩
      rw [hm] at hle hhi
      have HLE := Lib.hid hle
      have hbody := HI.out.body j hlt
      obtain ⟨e1, e2, e3⟩ := pk_eq HG.out hlt
      rw [hm] at e1
      obtain ⟨r, hr⟩ : ∃ r, M.pk j = r := ⟨_, rfl⟩
      rw [hr] at e1 e2
      have hcl : (L.drop (q + 2)).take m = M.cl j := by
        rw [hq] at hbody
        refine eq_of_bt (by simp [HLN.out, hm]; omega) fun t ht => ?_
        have ht' : t < m := by simp [HLN.out] at ht; omega
        rw [← hbody t (by rw [hm]; exact ht')]
        simp [bt, ht']
      have HCL := Lib.hid hcl
      have HM' := Lib.hid hm
      have HR := Lib.hid hr
      have n0 := HP2j.out.m0
      rw [HLN.out] at n0
      have hlc2 := HP2j.out.len
      rw [HLN.out] at hlc2
      have hu : M.used M.k = M.h + 2 + 2 * M.k := rfl
      rw [hu] at e2
      have hcut := run_cut (some ⟨gb2, 0, none⟩) M.n c1 (q + 2) m (by omega)
      rw [show ((q + 2 : Nat) : Int) = (q : Int) + 2 by omega] at hcut
      obtain ⟨D, hD⟩ : ∃ D, cutA (some ⟨gb2, 0, none⟩) c1 (q + 2) = D := ⟨_, rfl⟩
      have hrd : Rd wr D (M.cl j) := by rw [← hD, ← HCL.out]; exact cutA_rd HP2j.out.rd c1 (q + 2) m (by rw [HLN.out]; exact hlc2.1)
      have hne : ∀ a, D = some a → a.block ≠ gb := by
        intro a ha
        rw [← hD] at ha
        obtain ⟨b, hb, hbb⟩ := cutA_block ha
        injection hb with hb
        subst hb
        rw [← hbb]
        show gb2 ≠ gb
        omega
      rw [hD] at hcut
      have HRD := Lib.hid hrd
      have HNE := Lib.hid hne
      have hg2' := HP2j.out.lt
      have hlt' : (j : Int) < (M.k : Int) := by omega
      have etop : ((M.n - sz (M.C.take j) : Nat) : Int) = (r : Int) + 2 + (m : Int) := by omega
      have hrn : r + 2 + m ≤ M.n := by omega
      have hr65 : (r : Int) ≤ 65535 := by omega
      rw [etop]
      clear hD hrd hne hp2 hle hgj hq hm hr hcl hbody etop e1 e3 hu
      go_wp2_with fail
      refine (pspan_any _ g2 gb2 c1 M.h L X2 HP2j.out hh j q (by rw [HLN.out]; omega) (by rw [HLN.out]; exact hn1) HS.out (by rw [HLN.out]; omega)).mono ?_
      rintro e w5 ⟨rfl, rfl⟩
      rw [HLE.out]
      go_wp2_with fail
      refine (play_any _ g gb c M.h Lj X HPj.out (by rw [HSj.out.len]; exact hn1) r m D (c1 - (q + 2)) (M.cl j) (by rw [HSj.out.len]; exact hrn) HM'.out HRD.out (Mdl.cl_isB HG.out j) (fun a ha _ => HNE.out a ha)).mono ?_
      rintro e w5 ⟨rfl, hp5, hm5⟩
      have HP5 := Lib.hid hp5
      have HM5 := Lib.hid hm5
      have HP25 := Lib.hid (HP2j.out.other hm5 (by omega) (by omega))
      clear hp5 hm5 n0 hcut
      have hll : (layL Lj r (M.cl j)).length = M.n := by rw [layL_len (by rw [HM'.out, HSj.out.len]; exact hrn), HSj.out.len]
      have HLL := Lib.hid hll
      clear hll
      go_wp2_with fail
      refine (pslot_any _ g gb c M.h (layL Lj r (M.cl j)) X HP5.out hh (j : Int) (by omega) (by omega)).mono ?_
      rintro e w6 ⟨rfl, rfl⟩
      rw [show (M.h : Int) + 2 + 2 * (j : Int) = ((M.h + 2 + 2 * j : Nat) : Int) by omega]
      go_wp2_with fail
      refine (pset_any _ g gb c M.h (layL Lj r (M.cl j)) X HP5.out (M.h + 2 + 2 * j) (r : Int) (by rw [HLL.out]; omega) (by omega) hr65).mono ?_
      rintro e w6 ⟨rfl, hp6, hm6⟩
      have HP6 := Lib.hid hp6
      have HM6 := Lib.hid (HM.out.trans (HM5.out.trans hm6))
      have HP26 := Lib.hid (HP25.out.other hm6 (by omega) (by omega))
      clear hp6 hm6
      go_wp2_with fail
      go_roundw
      case rel =>
        refine ⟨j + 1, _, by omega, by go_num, ?_, HP6.out, by rw [← HR.out]; exact HSj.out.step HG.out hlt, HP26.out, HM6.out⟩
        rw [← HR.out]
        rfl
      case measure => simp [intOf]; omega
    · obtain rfl : j = M.k := by omega
      go_wp2_with fail
      first | go_ret | go_end0 | skip
      exact ⟨rfl, _, ⟨HPj.out, HM.out⟩, HSj.out.done HG.out⟩
end Go.Proofs.Ytoeaffmlolapnaa
