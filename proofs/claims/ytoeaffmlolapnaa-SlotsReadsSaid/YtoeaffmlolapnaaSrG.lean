/- Walk: tomelaw09.step. Printed by genRsG.py. -/
import Derived.Test.YtoeaffmlolapnaaSrE
namespace Go.Proofs.Ytoeaffmlolapnaa
open Go.RowKit
set_option maxRecDepth 100000
set_option linter.unusedVariables false
set_option linter.unusedSimpArgs false
set_option linter.unnecessarySimpa false

theorem Mut.then {w w' w'' : World} {gb : Nat} (h : Mut w gb w') (k : Below w.heap.size w' w'') : Mut w gb w'' :=
  ⟨k.os.trans h.os, k.tape.trans h.tape, k.output.trans h.output, Nat.le_trans h.size k.size, fun i hi hg => (k.block i hi).trans (h.block i hi hg)⟩
/-- All but two blocks of old is as it was. -/
structure Mut2 (w : World) (a b : Nat) (w' : World) : Prop where
  size : w.heap.size ≤ w'.heap.size
  block : ∀ k, k < w.heap.size → k ≠ a → k ≠ b → w'.heap[k]? = w.heap[k]?
theorem Mut2.drew (w : World) (a b : Nat) : Mut2 w a b w.drew := ⟨Nat.le_refl _, fun _ _ _ _ => rfl⟩
theorem Mut2.of {w w' : World} {a : Nat} (h : Mut w.drew a w') (b : Nat) : Mut2 w a b w' := ⟨h.size, fun k hk ha _ => h.block k hk ha⟩
theorem Mut2.cells {w w' : World} {a b : Nat} (h : Mut2 w a b w') (o : Nat) (vs : List Value) : Mut2 w a b (w'.setCells b o vs) :=
  ⟨by rw [size_setCells]; exact h.size, fun k hk ha hb => (heap_setCells_ne _ _ _ _ hb).trans (h.block k hk ha hb)⟩
theorem Mut2.cell {w w' : World} {a b g o : Nat} {v : Value} (h : Mut2 w a b w') (hc : w.cell? ⟨g, o, none⟩ = some v) (ha : g ≠ a) (hb : g ≠ b) : w'.cell? ⟨g, o, none⟩ = some v := by
  rw [← hc]
  simp [World.cell?, h.block g (World.block_lt_of_cell? w ⟨g, o, none⟩ hc) ha hb]
theorem Mut2.there {w w' : World} {a b g n : Nat} (h : Mut2 w a b w') (ht : w.there g 0 n) (hg : g < w.heap.size) (ha : g ≠ a) (hb : g ≠ b) : w'.there g 0 n := fun j hj => by
  have e := h.block g hg ha hb
  obtain ⟨h1, h2⟩ := ht j hj
  refine ⟨?_, ?_⟩
  · rw [← h1]; simp [World.cell?, e]
  · rw [← h2]; simp [World.frozen?, e]
theorem there_blk {w w' : World} {g n : Nat} (e : w'.heap[g]? = w.heap[g]?) (ht : w.there g 0 n) : w'.there g 0 n := fun j hj => by
  obtain ⟨h1, h2⟩ := ht j hj
  refine ⟨?_, ?_⟩
  · rw [← h1]; simp [World.cell?, e]
  · rw [← h2]; simp [World.frozen?, e]
theorem RefV.frame {w w' : World} {bad bad' : List Nat} {M : Mdl} {r : RV} (h : RefV w bad' M r) (e : ∀ i, i ∉ bad' → i < w.heap.size → w'.heap[i]? = w.heap[i]?) (hs : ∀ g ∈ bad, g ∈ bad') : RefV w' bad M r := h.map fun _ _ q => q.frame e hs
theorem step_store_rp {ops : Array Oper} {op : Oper} {a : Act} {w : World} {K : Act → World → Prop} {Q : Exit → Act → World → Prop} {Z : Prop} (hgd : op.guard = none) (x y : Operand) (ho : op.op = .store 33 x y) (g : Nat) (r : RV) (M : Mdl)
    (hx : a.eval x = .pointer (some ⟨g, 0, none⟩)) (hy : a.eval y = r.val M) (ht : w.there g 0 4) (h : K (a.put op.dst undef) (w.setCells g 0 (rpC r M))) :
    if Region.wanted op (yielded ops a.tmps) = true then Oper.wp Try.prog op a w K Q else Z := by
  have hw : Region.wanted op (yielded ops a.tmps) = true := by simp [Region.wanted, hgd]
  rw [if_pos hw]
  exact wp_store_mid 33 x y ho g 0 (rpC r M).toArray hx hy ht size_rp (one_rp r M) h
def StepBack (w : World) (bad : List Nat) (g gb c : Nat) (X : List Value) (M Mr : Mdl) (d : Dd) (e : Ending) (w' : World) : Prop :=
  ∃ r' b, e = .returned (.tuple #[r'.val (doM Mr d), .bool b]) ∧ RefV w' bad (doM Mr d) r' ∧ (M = Mr → b = true) ∧ Good (doM M d) ∧ ∃ L', Pg w' g gb c (doM M d).h L' X ∧ IsP L' (doM M d) ∧ Mut w gb w'

set_option maxHeartbeats 32000000 in
theorem step9_any (w : World) (bad : List Nat) (g gb c : Nat) (L : List Int) (X : List Value) (M Mr : Mdl) (r : RV) (hp : Pg w g gb c M.h L X) (hi : IsP L M) (hg : Good M) (hr : RefV w bad Mr r) (hsm : Sm Mr) (hbad : ∀ g ∈ bad, g < w.heap.size) (hgb : gb ∈ bad) (d : Dd) (B : Option Addr) (sc : Nat) (hd : DdOk d) (hlen : d.b.length ≤ 8192) (hrd : Rd w B d.b) (hne : ∀ a, B = some a → d.b ≠ [] → a.block ≠ gb) (hok : zeroM = Mr ∨ Good Mr) (R : Ending → World → Prop) (hR : R = StepBack w bad g gb c X M Mr d) :
    Calls Try.prog 19 #[.pointer (some ⟨g, 0, none⟩), r.val Mr, .agg #[.int .i64 d.kd, .int .i64 d.i, .slice B d.b.length sc]] w R := by
  have HRR := Lib.hid hR; clear hR
  have HG := Lib.hid hg
  have HI := Lib.hid hi
  have HSM := Lib.hid hsm
  obtain ⟨hk0, ⟨hi0, hi1⟩, hB⟩ := hd
  have HNE := Lib.hid hne
  have HOK := Lib.hid (show Mr.left < 4 + (d.b.length : Int) ∨ Good Mr by
    rcases hok with h | h
    · rw [← h, zero_left]; exact .inl (by omega)
    · exact .inr h)
  obtain ⟨kd, ii, cs⟩ := d
  simp only at hk0 hi0 hi1 hB hlen hrd hne HNE HOK ⊢
  obtain ⟨m, hm⟩ : ∃ m, cs.length = m := ⟨_, rfl⟩
  rw [hm] at hlen HOK ⊢
  have HM := Lib.hid hm
  clear hne hok hm
  obtain ⟨W1, hW1⟩ : ∃ W, W = w.alloc (.cells #[.int .i64 (Mr.n : Int), .slice r.FA Mr.h r.fc, .slice r.CA Mr.k r.cc, .slice r.PA Mr.P.length r.pc] 33) := ⟨_, rfl⟩
  have hb1 : Below w.heap.size w W1 := by rw [hW1]; exact (Below.refl _ _).alloc (Nat.le_refl _) _
  have hs1 : W1.heap.size = w.heap.size + 1 := by rw [hW1]; simp
  have hR1 : RpAt W1 w.heap.size r Mr := by rw [hW1]; exact RpAt.made w r Mr _
  obtain ⟨W2, hW2⟩ : ∃ W, W = W1.alloc (.cells #[.int .i64 kd, .int .i64 ii, .slice B m sc] 37) := ⟨_, rfl⟩
  have hb12 : Below W1.heap.size W1 W2 := by rw [hW2]; exact (Below.refl _ _).alloc (Nat.le_refl _) _
  have hs2 : W2.heap.size = w.heap.size + 2 := by rw [hW2]; simp [hs1]
  have d0 : W2.cell? ⟨w.heap.size + 1, 0, none⟩ = some (.int .i64 kd) := by rw [hW2, ← hs1, heap_cell (heap_alloc_new W1 _)]; rfl
  have d1 : W2.cell? ⟨w.heap.size + 1, 1, none⟩ = some (.int .i64 ii) := by rw [hW2, ← hs1, heap_cell (heap_alloc_new W1 _)]; rfl
  have d2 : W2.cell? ⟨w.heap.size + 1, 2, none⟩ = some (.slice B m sc) := by rw [hW2, ← hs1, heap_cell (heap_alloc_new W1 _)]; rfl
  obtain ⟨W3, hW3⟩ : ∃ W, W = W2.alloc (.cells #[.int .i64 0, .slice none 0 0, .slice none 0 0, .slice none 0 0] 33) := ⟨_, rfl⟩
  have hb23 : Below W2.heap.size W2 W3 := by rw [hW3]; exact (Below.refl _ _).alloc (Nat.le_refl _) _
  have hs3 : W3.heap.size = w.heap.size + 3 := by rw [hW3]; simp [hs2]
  have hT3 : W3.there (w.heap.size + 2) 0 4 := by rw [hW3, ← hs2]; exact there_new4 W2 _ _ _ _ _
  have hb2 : Below w.heap.size w W2 := hb1.trans (hb12.mono hb1.size)
  have hb3 : Below w.heap.size w W3 := hb2.trans (hb23.mono hb2.size)
  have HR3 := Lib.hid ((hR1.keep hb12).keep hb23)
  have HT3 := Lib.hid hT3
  have HWW := Lib.hid hW3
  rw [hW2, hW1] at HWW
  have HD0 := Lib.hid ((hb23.cell (World.block_lt_of_cell? W2 _ d0)).trans d0)
  have HD1 := Lib.hid ((hb23.cell (World.block_lt_of_cell? W2 _ d1)).trans d1)
  have HD2 := Lib.hid ((hb23.cell (World.block_lt_of_cell? W2 _ d2)).trans d2)
  have HP3 := Lib.hid (hp.keep hb3)
  have HRD3 := Lib.hid (hrd.keep hb3)
  have hlt := hp.lt
  have hz3 : w.heap.size + 3 ≤ W3.heap.size := by omega
  have hz3' : W3.heap.size ≤ w.heap.size + 3 := by omega
  clear d0 d1 d2 hT3 hR1 hW1 hW2 hW3 hb1 hb12 hb23 hb2 hs1 hs2 hs3 hp hrd hi hg
  obtain ⟨bad3, hbad3⟩ : ∃ b, b = (w.heap.size + 2) :: (w.heap.size + 1) :: w.heap.size :: bad := ⟨_, rfl⟩
  have HV3 := Lib.hid (show RefV W3 bad3 Mr r by
    rw [hbad3]
    exact (((hr.more (g := w.heap.size) (Nat.le_refl _)).more (g := w.heap.size + 1) (by omega)).more (g := w.heap.size + 2) (by omega)).keep hb3)
  have HB3 := Lib.hid (show ∀ g ∈ bad3, g < W3.heap.size from fun g hg => by
    rw [hbad3] at hg
    rcases List.mem_cons.1 hg with h | h
    · omega
    · rcases List.mem_cons.1 h with h | h
      · omega
      · rcases List.mem_cons.1 h with h | h
        · omega
        · have := hbad g h; omega)
  have HBR := Lib.hid (show w.heap.size + 2 ∈ bad3 by rw [hbad3]; simp)
  have HBG := Lib.hid (show gb ∈ bad3 by rw [hbad3]; simp [hgb])
  have HBS := Lib.hid (show ∀ g ∈ bad, g ∈ bad3 from fun g hg => by rw [hbad3]; exact List.mem_cons_of_mem _ (List.mem_cons_of_mem _ (List.mem_cons_of_mem _ hg)))
  clear hbad3 hr hbad hgb
  have k0 := HD0.out
  unfold RV.val
  by_cases h0 : kd = 0
  · subst h0
    have HDO := Lib.hid (show ∀ Z : Mdl, doM Z ⟨0, ii, cs⟩ = (insM Z ii cs).1 from fun Z => if_pos rfl)
    have hq : ((0 : Int) == 0) = true := rfl
    have k1 := HD1.out
    have k2 := HD2.out
    go_enter Try.func19, Try.ntmps19
    go_upto_region 1 with fail
    rw [← HWW.out]
    clear HWW
    go_upto_region 2 with fail
    go_step
    refine wp_load_rp rfl _ rfl w.heap.size r Mr rfl HR3.out ?_
    go_wp2_with fail
    refine (rIns_any _ bad3 Mr r HV3.out HSM.out HB3.out ii hi0 hi1 B m sc cs HM.out (by omega) HRD3.out HOK.out _ rfl).mono ?_
    rintro e w4 ⟨r4, rfl, hv4, hb34⟩
    have hb4 : Below w.heap.size w w4 := hb3.trans (hb34.mono (by omega))
    have hz4 : w.heap.size + 3 ≤ w4.heap.size := by have := hb34.size; omega
    obtain ⟨M4, hM4⟩ : ∃ Z, (insM Mr ii cs).1 = Z := ⟨_, rfl⟩
    obtain ⟨z4, hz⟩ : ∃ z, (insM Mr ii cs).2 = z := ⟨_, rfl⟩
    rw [hM4] at hv4
    rw [hM4, hz]
    have HM4 := Lib.hid hM4
    have HZ4 := Lib.hid hz
    clear hM4 hz k0 k1 k2
    obtain ⟨W5, hW5⟩ : ∃ W, W = w4.alloc (.cells #[.int .i64 0, .slice none 0 0, .slice none 0 0, .slice none 0 0] 33) := ⟨_, rfl⟩
    have hb45 : Below w4.heap.size w4 W5 := by rw [hW5]; exact (Below.refl _ _).alloc (Nat.le_refl _) _
    have hT5 : W5.there w4.heap.size 0 4 := by rw [hW5]; exact there_new4 w4 _ _ _ _ _
    have HT5 := Lib.hid hT5
    have HW5 := Lib.hid hW5
    have hs5 : W5.heap.size = w4.heap.size + 1 := by rw [hW5]; simp
    clear hW5
    simp only []
    iterate 13 go_step
    rw [← HW5.out]
    clear HW5
    refine wp_store_rp rfl _ _ rfl w4.heap.size r4 M4 rfl rfl HT5.out ?_
    obtain ⟨w6, hw6⟩ : ∃ W, W = W5.setCells w4.heap.size 0 (rpC r4 M4) := ⟨_, rfl⟩
    have hb36 : Below W3.heap.size W3 w6 := by rw [hw6]; exact below_setCellsR (hb34.trans (hb45.mono (by omega))) (by omega) _ _
    have hs6 : w6.heap.size = w4.heap.size + 1 := by rw [hw6, size_setCells, hs5]
    have HR6 := Lib.hid (show RpAt w6 w4.heap.size r4 M4 by rw [hw6]; exact RpAt.stored HT5.out r4 M4)
    have hb6 : Below w.heap.size w w6 := hb3.trans (hb36.mono (by omega))
    have HV6 := Lib.hid (show RefV w6 (w4.heap.size :: bad3) M4 r4 by
      refine ((hv4.more (Nat.le_refl _)).keep hb45).frame (fun i hi _ => ?_) (fun _ h => h)
      rw [hw6]
      exact heap_setCells_ne _ _ _ _ (fun e => hi (by rw [e]; simp)))
    rw [← hw6]
    clear hw6 hT5 HT5 hv4 hb45 hs5 hb34
    have HT6 := Lib.hid (there_keepR HT3.out hb36 (by omega))
    have HP6 := Lib.hid (HP3.out.keep hb36)
    have HRD6 := Lib.hid (HRD3.out.keep hb36)
    have hzz6 : w.heap.size + 3 < w6.heap.size := by omega
    have HS6 := Lib.hid hs6
    clear hs6
    go_upto_region 3 with fail
    have K0 : ∀ W : World, Mut2 w6 gb (w.heap.size + 2) W → W.cell? ⟨w4.heap.size, 0, none⟩ = some (.int .i64 (M4.n : Int)) := fun W hW => hW.cell HR6.out.all.1 (by omega) (by omega)
    have K1 : ∀ W : World, Mut2 w6 gb (w.heap.size + 2) W → W.cell? ⟨w4.heap.size, 1, none⟩ = some (.slice r4.FA M4.h r4.fc) := fun W hW => hW.cell HR6.out.all.2.1 (by omega) (by omega)
    have K2 : ∀ W : World, Mut2 w6 gb (w.heap.size + 2) W → W.cell? ⟨w4.heap.size, 2, none⟩ = some (.slice r4.CA M4.k r4.cc) := fun W hW => hW.cell HR6.out.all.2.2.1 (by omega) (by omega)
    have K3 : ∀ W : World, Mut2 w6 gb (w.heap.size + 2) W → W.cell? ⟨w4.heap.size, 3, none⟩ = some (.slice r4.PA M4.P.length r4.pc) := fun W hW => hW.cell HR6.out.all.2.2.2 (by omega) (by omega)
    have D1 : ∀ W : World, Mut2 w6 gb (w.heap.size + 2) W → W.cell? ⟨w.heap.size + 1, 1, none⟩ = some (.int .i64 ii) := fun W hW => hW.cell ((hb36.cell (p := ⟨w.heap.size + 1, 1, none⟩) (by show w.heap.size + 1 < W3.heap.size; omega)).trans HD1.out) (by omega) (by omega)
    have D2 : ∀ W : World, Mut2 w6 gb (w.heap.size + 2) W → W.cell? ⟨w.heap.size + 1, 2, none⟩ = some (.slice B m sc) := fun W hW => hW.cell ((hb36.cell (p := ⟨w.heap.size + 1, 2, none⟩) (by show w.heap.size + 1 < W3.heap.size; omega)).trans HD2.out) (by omega) (by omega)
    have hgr : gb ≠ w.heap.size + 2 := by omega
    refine wp_region_held_drew (S := (fun W => Mut2 w6 gb (w.heap.size + 2) W)) (by kernel_rfl) ?_ (fun hHeld => ?_)
    · exact Mut2.drew w6 _ _
    refine' wpAnyH_take (i := 0) (oi := _) (v := _) rfl (by kernel_rfl) (by kernel_rfl) (by kernel_rfl) (fun _ _ _ h => h) (Or.inl ⟨by rfl, ?hz1⟩) (by assumption) ?rezt1
    case hz1 => (intro w' hSw; (try dsimp only at hSw); go_simp; try with_reducible rfl)
    try simp only [Act.put, List.setIfInBounds_toArray, List.set_cons_zero, List.set_cons_succ, List.getElem_toArray, List.getElem_cons_zero, List.getElem_cons_succ]
    refine' wpAnyH_take (i := 1) (oi := _) (v := _) rfl (by kernel_rfl) (by kernel_rfl) (by kernel_rfl) (fun _ _ _ h => h) (Or.inl ⟨by rfl, ?hz2⟩) (by assumption) ?rezt2
    case hz2 => (intro w' hSw; (try dsimp only at hSw); go_simp; try with_reducible rfl)
    try simp only [Act.put, List.setIfInBounds_toArray, List.set_cons_zero, List.set_cons_succ, List.getElem_toArray, List.getElem_cons_zero, List.getElem_cons_succ]
    refine' wpAnyH_take (i := 2) (oi := _) (v := _) rfl (by kernel_rfl) (by kernel_rfl) (by kernel_rfl) (fun _ _ _ h => h) (Or.inl ⟨by rfl, ?hz3⟩) (by assumption) ?rezt3
    case hz3 => (intro w' hSw; (try dsimp only at hSw); go_simp; try with_reducible rfl)
    try simp only [Act.put, List.setIfInBounds_toArray, List.set_cons_zero, List.set_cons_succ, List.getElem_toArray, List.getElem_cons_zero, List.getElem_cons_succ]
    refine' wpAnyH_take (i := 3) (oi := _) (v := _) rfl (by kernel_rfl) (by kernel_rfl) (by kernel_rfl) (fun _ _ _ h => h) (Or.inl ⟨by rfl, ?hz4⟩) (by assumption) ?rezt4
    case hz4 => (intro w' hSw; (try dsimp only at hSw); go_simp; try with_reducible rfl)
    try simp only [Act.put, List.setIfInBounds_toArray, List.set_cons_zero, List.set_cons_succ, List.getElem_toArray, List.getElem_cons_zero, List.getElem_cons_succ]
    refine' wpAnyH_take (i := 4) (oi := _) (v := _) rfl (by kernel_rfl) (by kernel_rfl) (by kernel_rfl) (fun _ _ _ h => h) (Or.inl ⟨by rfl, ?hz5⟩) (by assumption) ?rezt5
    case hz5 => (intro w' hSw; (try dsimp only at hSw); go_simp; try with_reducible rfl)
    try simp only [Act.put, List.setIfInBounds_toArray, List.set_cons_zero, List.set_cons_succ, List.getElem_toArray, List.getElem_cons_zero, List.getElem_cons_succ]
    refine' wpAnyH_take (i := 5) (oi := _) (v := _) rfl (by kernel_rfl) (by kernel_rfl) (by kernel_rfl) (fun _ _ _ h => h) (Or.inl ⟨by rfl, ?hz6⟩) (by assumption) ?rezt6
    case hz6 => (intro w' hSw; (try dsimp only at hSw); go_simp; try with_reducible rfl)
    try simp only [Act.put, List.setIfInBounds_toArray, List.set_cons_zero, List.set_cons_succ, List.getElem_toArray, List.getElem_cons_zero, List.getElem_cons_succ]
    refine' wpAnyH_take (i := 7) (oi := _) (v := _) rfl (by kernel_rfl) (by kernel_rfl) (by kernel_rfl) (fun _ _ _ h => h) (Or.inl ⟨by rfl, ?hz7⟩) (by assumption) ?rezt7
    case hz7 => (intro w' hSw; (try dsimp only at hSw); go_simp; try with_reducible rfl)
    try simp only [Act.put, List.setIfInBounds_toArray, List.set_cons_zero, List.set_cons_succ, List.getElem_toArray, List.getElem_cons_zero, List.getElem_cons_succ]
    refine wpAnyH_ready (rs := [6]) (by kernel_rfl) (by simp) ?_
    refine AllReadyH.cons (o := _) rfl (fun K hK => ?_) AllReadyH.nil
    go_simp
    have hbd : Below w6.heap.size w6 w6.drew := (Below.refl _ w6).drew
    go_at_call 29
    refine (pIns_any _ g gb c L X M (HP6.out.keep hbd) HI.out HG.out ii hi0 hi1 B m sc cs HM.out (by omega) (HRD6.out.keep hbd) hB HNE.out _ rfl).mono ?_
    rintro e w7 ⟨rfl, hg7, L7, ⟨hp7, hm7⟩, hi7⟩
    have HP7 := Lib.hid hp7
    have HM7 := Lib.hid hm7
    have HI7 := Lib.hid hi7
    have HG7 := Lib.hid hg7
    have hM27 : Mut2 w6 gb (w.heap.size + 2) w7 := Mut2.of hm7 _
    obtain ⟨z7, hz7⟩ : ∃ z, (insM M ii cs).2 = z := ⟨_, rfl⟩
    rw [hz7]
    have HZ7 := Lib.hid hz7
    clear hbd hp7 hi7 hg7 hm7 hz7
    refine hK.out _ _ ?_ (fun hHeld => ?_)
    · exact hM27
    clear hK K
    try simp only [Act.put, List.setIfInBounds_toArray, List.set_cons_zero, List.set_cons_succ, List.getElem_toArray, List.getElem_cons_zero, List.getElem_cons_succ]
    obtain ⟨bq, hbq⟩ : ∃ b, (z7 == z4) = b := ⟨_, rfl⟩
    have HBQ := Lib.hid hbq
    refine' wpAnyH_take (i := 8) (oi := _) (v := _) rfl (by kernel_rfl) (by kernel_rfl) (by kernel_rfl) (fun _ _ _ h => h) (Or.inl ⟨by rfl, ?hz8⟩) (by assumption) ?rezt8
    case hz8 => (intro w' hSw; (try dsimp only at hSw); go_simp; try with_reducible rfl)
    try simp only [Act.put, List.setIfInBounds_toArray, List.set_cons_zero, List.set_cons_succ, List.getElem_toArray, List.getElem_cons_zero, List.getElem_cons_succ]
    refine wpAnyH_ready (rs := [9]) (by kernel_rfl) (by simp) ?_
    refine AllReadyH.cons (o := _) rfl (fun K hK => ?_) AllReadyH.nil
    refine step_store_rp rfl _ _ rfl (w.heap.size + 2) r4 M4 rfl rfl (there_blk (w := w6) (HM7.out.block _ (by show w.heap.size + 2 < w6.heap.size; omega) (by omega)) HT6.out) ?_
    refine hK.out _ _ ?_ (fun hHeld => ?_)
    · exact hM27.cells 0 _
    clear hK K
    try simp only [Act.put, List.setIfInBounds_toArray, List.set_cons_zero, List.set_cons_succ, List.getElem_toArray, List.getElem_cons_zero, List.getElem_cons_succ]
    refine' wpAnyH_take (i := 10) (oi := _) (v := _) rfl (by kernel_rfl) (by kernel_rfl) (by kernel_rfl) (fun _ _ _ h => h) (Or.inl ⟨by rfl, ?hz9⟩) (by assumption) ?rezt9
    case hz9 => (intro w' hSw; (try dsimp only at hSw); go_simp; try with_reducible rfl)
    try simp only [Act.put, List.setIfInBounds_toArray, List.set_cons_zero, List.set_cons_succ, List.getElem_toArray, List.getElem_cons_zero, List.getElem_cons_succ]
    refine wpAnyH_done (by kernel_rfl) ?_ _
    clear K0 K1 K2 K3 D1 D2 hbq
    repeat go_step
    refine ret_rp rfl rfl (RpAt.stored (there_blk (w := w6) (HM7.out.block _ (by show w.heap.size + 2 < w6.heap.size; omega) (by omega)) HT6.out) r4 M4) rfl ?_
    rw [HRR.out]
    have hmf : Mut w gb (w7.setCells (w.heap.size + 2) 0 (rpC r4 M4)) := ((Mut.of (hb6.drew) gb).trans HM7.out).then (below_setCellsR (Below.refl w.heap.size w7) (by omega) _ _)
    have hpf : Pg (w7.setCells (w.heap.size + 2) 0 (rpC r4 M4)) g gb c (insM M ii cs).1.h L7 X := ⟨(heap_setCells_ne _ _ _ _ (by omega)).trans HP7.out.head, (heap_setCells_ne _ _ _ _ (by omega)).trans HP7.out.row, HP7.out.cap, HP7.out.most, HP7.out.byts⟩
    refine ⟨r4, bq, ?_, ?_, ?_, ?_, L7, ?_, ?_, hmf⟩
    · rw [HDO.out, HM4.out]; rfl
    · rw [HDO.out, HM4.out]
      refine RefV.frame (bad' := w4.heap.size :: bad3) (w := w7) (HV6.out.mut (gb := gb) (w' := w7) (Mut.mk HM7.out.os HM7.out.tape HM7.out.output HM7.out.size HM7.out.block) (List.mem_cons_of_mem _ HBG.out)) (fun i hi _ => heap_setCells_ne _ _ _ _ (fun e => hi (by rw [e]; exact List.mem_cons_of_mem _ HBR.out))) (fun g hg => List.mem_cons_of_mem _ (HBS.out g hg))
    · intro e
      subst e
      rw [← HBQ.out, ← HZ7.out, ← HZ4.out]
      simp
    · rw [HDO.out]; exact HG7.out
    · rw [HDO.out]; exact hpf
    · rw [HDO.out]; exact HI7.out
  by_cases h1 : kd = 1
  · subst h1
    have HDO := Lib.hid (show ∀ Z : Mdl, doM Z ⟨1, ii, cs⟩ = (remM Z ii).1 from fun Z => (if_neg (show ¬ (1 : Int) = 0 by decide)).trans (if_pos rfl))
    have hq : ((1 : Int) == 1) = true := rfl
    have hq0 : ((1 : Int) == 0) = false := rfl
    have k1 := HD1.out
    have k2 := HD2.out
    go_enter Try.func19, Try.ntmps19
    go_upto_region 1 with fail
    rw [← HWW.out]
    clear HWW
    go_upto_region 5 with fail
    go_step
    refine wp_load_rp rfl _ rfl w.heap.size r Mr rfl HR3.out ?_
    go_wp2_with fail
    refine (rRem_any _ bad3 Mr r HV3.out HSM.out HB3.out ii hi0 hi1 _ rfl).mono ?_
    rintro e w4 ⟨r4, rfl, hv4, hb34⟩
    have hb4 : Below w.heap.size w w4 := hb3.trans (hb34.mono (by omega))
    have hz4 : w.heap.size + 3 ≤ w4.heap.size := by have := hb34.size; omega
    obtain ⟨M4, hM4⟩ : ∃ Z, (remM Mr ii).1 = Z := ⟨_, rfl⟩
    obtain ⟨z4, hz⟩ : ∃ z, (remM Mr ii).2 = z := ⟨_, rfl⟩
    rw [hM4] at hv4
    rw [hM4, hz]
    have HM4 := Lib.hid hM4
    have HZ4 := Lib.hid hz
    clear hM4 hz k0 k1 k2
    obtain ⟨W5, hW5⟩ : ∃ W, W = w4.alloc (.cells #[.int .i64 0, .slice none 0 0, .slice none 0 0, .slice none 0 0] 33) := ⟨_, rfl⟩
    have hb45 : Below w4.heap.size w4 W5 := by rw [hW5]; exact (Below.refl _ _).alloc (Nat.le_refl _) _
    have hT5 : W5.there w4.heap.size 0 4 := by rw [hW5]; exact there_new4 w4 _ _ _ _ _
    have HT5 := Lib.hid hT5
    have HW5 := Lib.hid hW5
    have hs5 : W5.heap.size = w4.heap.size + 1 := by rw [hW5]; simp
    clear hW5
    simp only []
    iterate 13 go_step
    rw [← HW5.out]
    clear HW5
    refine wp_store_rp rfl _ _ rfl w4.heap.size r4 M4 rfl rfl HT5.out ?_
    obtain ⟨w6, hw6⟩ : ∃ W, W = W5.setCells w4.heap.size 0 (rpC r4 M4) := ⟨_, rfl⟩
    have hb36 : Below W3.heap.size W3 w6 := by rw [hw6]; exact below_setCellsR (hb34.trans (hb45.mono (by omega))) (by omega) _ _
    have hs6 : w6.heap.size = w4.heap.size + 1 := by rw [hw6, size_setCells, hs5]
    have HR6 := Lib.hid (show RpAt w6 w4.heap.size r4 M4 by rw [hw6]; exact RpAt.stored HT5.out r4 M4)
    have hb6 : Below w.heap.size w w6 := hb3.trans (hb36.mono (by omega))
    have HV6 := Lib.hid (show RefV w6 (w4.heap.size :: bad3) M4 r4 by
      refine ((hv4.more (Nat.le_refl _)).keep hb45).frame (fun i hi _ => ?_) (fun _ h => h)
      rw [hw6]
      exact heap_setCells_ne _ _ _ _ (fun e => hi (by rw [e]; simp)))
    rw [← hw6]
    clear hw6 hT5 HT5 hv4 hb45 hs5 hb34
    have HT6 := Lib.hid (there_keepR HT3.out hb36 (by omega))
    have HP6 := Lib.hid (HP3.out.keep hb36)
    have HRD6 := Lib.hid (HRD3.out.keep hb36)
    have hzz6 : w.heap.size + 3 < w6.heap.size := by omega
    have HS6 := Lib.hid hs6
    clear hs6
    go_upto_region 6 with fail
    have K0 : ∀ W : World, Mut2 w6 gb (w.heap.size + 2) W → W.cell? ⟨w4.heap.size, 0, none⟩ = some (.int .i64 (M4.n : Int)) := fun W hW => hW.cell HR6.out.all.1 (by omega) (by omega)
    have K1 : ∀ W : World, Mut2 w6 gb (w.heap.size + 2) W → W.cell? ⟨w4.heap.size, 1, none⟩ = some (.slice r4.FA M4.h r4.fc) := fun W hW => hW.cell HR6.out.all.2.1 (by omega) (by omega)
    have K2 : ∀ W : World, Mut2 w6 gb (w.heap.size + 2) W → W.cell? ⟨w4.heap.size, 2, none⟩ = some (.slice r4.CA M4.k r4.cc) := fun W hW => hW.cell HR6.out.all.2.2.1 (by omega) (by omega)
    have K3 : ∀ W : World, Mut2 w6 gb (w.heap.size + 2) W → W.cell? ⟨w4.heap.size, 3, none⟩ = some (.slice r4.PA M4.P.length r4.pc) := fun W hW => hW.cell HR6.out.all.2.2.2 (by omega) (by omega)
    have D1 : ∀ W : World, Mut2 w6 gb (w.heap.size + 2) W → W.cell? ⟨w.heap.size + 1, 1, none⟩ = some (.int .i64 ii) := fun W hW => hW.cell ((hb36.cell (p := ⟨w.heap.size + 1, 1, none⟩) (by show w.heap.size + 1 < W3.heap.size; omega)).trans HD1.out) (by omega) (by omega)
    have D2 : ∀ W : World, Mut2 w6 gb (w.heap.size + 2) W → W.cell? ⟨w.heap.size + 1, 2, none⟩ = some (.slice B m sc) := fun W hW => hW.cell ((hb36.cell (p := ⟨w.heap.size + 1, 2, none⟩) (by show w.heap.size + 1 < W3.heap.size; omega)).trans HD2.out) (by omega) (by omega)
    have hgr : gb ≠ w.heap.size + 2 := by omega
    refine wp_region_held_drew (S := (fun W => Mut2 w6 gb (w.heap.size + 2) W)) (by kernel_rfl) ?_ (fun hHeld => ?_)
    · exact Mut2.drew w6 _ _
    refine' wpAnyH_take (i := 0) (oi := _) (v := _) rfl (by kernel_rfl) (by kernel_rfl) (by kernel_rfl) (fun _ _ _ h => h) (Or.inl ⟨by rfl, ?hz10⟩) (by assumption) ?rezt10
    case hz10 => (intro w' hSw; (try dsimp only at hSw); go_simp; try with_reducible rfl)
    try simp only [Act.put, List.setIfInBounds_toArray, List.set_cons_zero, List.set_cons_succ, List.getElem_toArray, List.getElem_cons_zero, List.getElem_cons_succ]
    refine' wpAnyH_take (i := 1) (oi := _) (v := _) rfl (by kernel_rfl) (by kernel_rfl) (by kernel_rfl) (fun _ _ _ h => h) (Or.inl ⟨by rfl, ?hz11⟩) (by assumption) ?rezt11
    case hz11 => (intro w' hSw; (try dsimp only at hSw); go_simp; try with_reducible rfl)
    try simp only [Act.put, List.setIfInBounds_toArray, List.set_cons_zero, List.set_cons_succ, List.getElem_toArray, List.getElem_cons_zero, List.getElem_cons_succ]
    refine' wpAnyH_take (i := 2) (oi := _) (v := _) rfl (by kernel_rfl) (by kernel_rfl) (by kernel_rfl) (fun _ _ _ h => h) (Or.inl ⟨by rfl, ?hz12⟩) (by assumption) ?rezt12
    case hz12 => (intro w' hSw; (try dsimp only at hSw); go_simp; try with_reducible rfl)
    try simp only [Act.put, List.setIfInBounds_toArray, List.set_cons_zero, List.set_cons_succ, List.getElem_toArray, List.getElem_cons_zero, List.getElem_cons_succ]
    refine' wpAnyH_take (i := 3) (oi := _) (v := _) rfl (by kernel_rfl) (by kernel_rfl) (by kernel_rfl) (fun _ _ _ h => h) (Or.inl ⟨by rfl, ?hz13⟩) (by assumption) ?rezt13
    case hz13 => (intro w' hSw; (try dsimp only at hSw); go_simp; try with_reducible rfl)
    try simp only [Act.put, List.setIfInBounds_toArray, List.set_cons_zero, List.set_cons_succ, List.getElem_toArray, List.getElem_cons_zero, List.getElem_cons_succ]
    refine' wpAnyH_take (i := 5) (oi := _) (v := _) rfl (by kernel_rfl) (by kernel_rfl) (by kernel_rfl) (fun _ _ _ h => h) (Or.inl ⟨by rfl, ?hz14⟩) (by assumption) ?rezt14
    case hz14 => (intro w' hSw; (try dsimp only at hSw); go_simp; try with_reducible rfl)
    try simp only [Act.put, List.setIfInBounds_toArray, List.set_cons_zero, List.set_cons_succ, List.getElem_toArray, List.getElem_cons_zero, List.getElem_cons_succ]
    refine wpAnyH_ready (rs := [4]) (by kernel_rfl) (by simp) ?_
    refine AllReadyH.cons (o := _) rfl (fun K hK => ?_) AllReadyH.nil
    go_simp
    have hbd : Below w6.heap.size w6 w6.drew := (Below.refl _ w6).drew
    go_at_call 30
    refine (pRem_any _ g gb c L X M (HP6.out.keep hbd) HI.out HG.out ii hi0 hi1 _ rfl).mono ?_
    rintro e w7 ⟨rfl, hg7, L7, ⟨hp7, hm7⟩, hi7⟩
    have HP7 := Lib.hid hp7
    have HM7 := Lib.hid hm7
    have HI7 := Lib.hid hi7
    have HG7 := Lib.hid hg7
    have hM27 : Mut2 w6 gb (w.heap.size + 2) w7 := Mut2.of hm7 _
    obtain ⟨z7, hz7⟩ : ∃ z, (remM M ii).2 = z := ⟨_, rfl⟩
    rw [hz7]
    have HZ7 := Lib.hid hz7
    clear hbd hp7 hi7 hg7 hm7 hz7
    refine hK.out _ _ ?_ (fun hHeld => ?_)
    · exact hM27
    clear hK K
    try simp only [Act.put, List.setIfInBounds_toArray, List.set_cons_zero, List.set_cons_succ, List.getElem_toArray, List.getElem_cons_zero, List.getElem_cons_succ]
    obtain ⟨bq, hbq⟩ : ∃ b, (z7 == z4) = b := ⟨_, rfl⟩
    have HBQ := Lib.hid hbq
    refine' wpAnyH_take (i := 6) (oi := _) (v := _) rfl (by kernel_rfl) (by kernel_rfl) (by kernel_rfl) (fun _ _ _ h => h) (Or.inl ⟨by rfl, ?hz15⟩) (by assumption) ?rezt15
    case hz15 => (intro w' hSw; (try dsimp only at hSw); go_simp; try with_reducible rfl)
    try simp only [Act.put, List.setIfInBounds_toArray, List.set_cons_zero, List.set_cons_succ, List.getElem_toArray, List.getElem_cons_zero, List.getElem_cons_succ]
    refine wpAnyH_ready (rs := [7]) (by kernel_rfl) (by simp) ?_
    refine AllReadyH.cons (o := _) rfl (fun K hK => ?_) AllReadyH.nil
    refine step_store_rp rfl _ _ rfl (w.heap.size + 2) r4 M4 rfl rfl (there_blk (w := w6) (HM7.out.block _ (by show w.heap.size + 2 < w6.heap.size; omega) (by omega)) HT6.out) ?_
    refine hK.out _ _ ?_ (fun hHeld => ?_)
    · exact hM27.cells 0 _
    clear hK K
    try simp only [Act.put, List.setIfInBounds_toArray, List.set_cons_zero, List.set_cons_succ, List.getElem_toArray, List.getElem_cons_zero, List.getElem_cons_succ]
    refine' wpAnyH_take (i := 8) (oi := _) (v := _) rfl (by kernel_rfl) (by kernel_rfl) (by kernel_rfl) (fun _ _ _ h => h) (Or.inl ⟨by rfl, ?hz16⟩) (by assumption) ?rezt16
    case hz16 => (intro w' hSw; (try dsimp only at hSw); go_simp; try with_reducible rfl)
    try simp only [Act.put, List.setIfInBounds_toArray, List.set_cons_zero, List.set_cons_succ, List.getElem_toArray, List.getElem_cons_zero, List.getElem_cons_succ]
    refine wpAnyH_done (by kernel_rfl) ?_ _
    clear K0 K1 K2 K3 D1 D2 hbq
    repeat go_step
    refine ret_rp rfl rfl (RpAt.stored (there_blk (w := w6) (HM7.out.block _ (by show w.heap.size + 2 < w6.heap.size; omega) (by omega)) HT6.out) r4 M4) rfl ?_
    rw [HRR.out]
    have hmf : Mut w gb (w7.setCells (w.heap.size + 2) 0 (rpC r4 M4)) := ((Mut.of (hb6.drew) gb).trans HM7.out).then (below_setCellsR (Below.refl w.heap.size w7) (by omega) _ _)
    have hpf : Pg (w7.setCells (w.heap.size + 2) 0 (rpC r4 M4)) g gb c (remM M ii).1.h L7 X := ⟨(heap_setCells_ne _ _ _ _ (by omega)).trans HP7.out.head, (heap_setCells_ne _ _ _ _ (by omega)).trans HP7.out.row, HP7.out.cap, HP7.out.most, HP7.out.byts⟩
    refine ⟨r4, bq, ?_, ?_, ?_, ?_, L7, ?_, ?_, hmf⟩
    · rw [HDO.out, HM4.out]; rfl
    · rw [HDO.out, HM4.out]
      refine RefV.frame (bad' := w4.heap.size :: bad3) (w := w7) (HV6.out.mut (gb := gb) (w' := w7) (Mut.mk HM7.out.os HM7.out.tape HM7.out.output HM7.out.size HM7.out.block) (List.mem_cons_of_mem _ HBG.out)) (fun i hi _ => heap_setCells_ne _ _ _ _ (fun e => hi (by rw [e]; exact List.mem_cons_of_mem _ HBR.out))) (fun g hg => List.mem_cons_of_mem _ (HBS.out g hg))
    · intro e
      subst e
      rw [← HBQ.out, ← HZ7.out, ← HZ4.out]
      simp
    · rw [HDO.out]; exact HG7.out
    · rw [HDO.out]; exact hpf
    · rw [HDO.out]; exact HI7.out
  have HDO := Lib.hid (show ∀ Z : Mdl, doM Z ⟨kd, ii, cs⟩ = Z.pack from fun Z => (if_neg h0).trans (if_neg h1))
  have hq0 : (kd == 0) = false := by simp [h0]
  have hq1 : (kd == 1) = false := by simp [h1]
  clear h0 h1
  go_enter Try.func19, Try.ntmps19
  go_upto_region 1 with fail
  rw [← HWW.out]
  clear HWW
  go_wp2_with fail
  refine (pPack_any _ g gb c L X M HP3.out HI.out HG.out).mono ?_
  rintro e w4 ⟨rfl, L4, ⟨hp4, hm4⟩, hi4⟩
  have HP4 := Lib.hid hp4
  have HI4 := Lib.hid hi4
  have HM4 := Lib.hid hm4
  have HR4 := Lib.hid (HR3.out.mut hm4 (by omega))
  have HV4 := Lib.hid (HV3.out.mut hm4 HBG.out)
  have HT4 := Lib.hid (there_blk (hm4.block _ (by omega) (by omega)) HT3.out)
  have hz4 : W3.heap.size ≤ w4.heap.size := hm4.size
  clear hp4 hi4 hm4 k0
  go_upto_region 8 with fail
  go_step
  refine wp_load_rp rfl _ rfl w.heap.size r Mr rfl HR4.out ?_
  go_wp2_with fail
  refine (rPack_any _ bad3 Mr r HV4.out HSM.out (fun g hg => by have := HB3.out g hg; omega) _ rfl).mono ?_
  rintro e w5 ⟨r5, rfl, hv5, hb5⟩
  have HV5 := Lib.hid hv5
  have HP5 := Lib.hid (HP4.out.keep hb5)
  have HT5 := Lib.hid (there_keepR HT4.out hb5 (by omega))
  simp only []
  iterate 1 go_step
  refine wp_store_rp rfl _ _ rfl (w.heap.size + 2) r5 Mr.pack rfl rfl HT5.out ?_
  repeat go_step
  refine ret_rp rfl rfl (RpAt.stored HT5.out r5 Mr.pack) rfl ?_
  rw [HRR.out]
  have hm5 : Mut w gb w5 := ((Mut.of hb3 gb).trans HM4.out).then (hb5.mono (by omega))
  have hmf : Mut w gb (w5.setCells (w.heap.size + 2) 0 (rpC r5 Mr.pack)) := hm5.then (below_setCellsR (Below.refl w.heap.size w5) (by omega) _ _)
  have hpf : Pg (w5.setCells (w.heap.size + 2) 0 (rpC r5 Mr.pack)) g gb c M.pack.h L4 X := ⟨(heap_setCells_ne _ _ _ _ (by omega)).trans HP5.out.head, (heap_setCells_ne _ _ _ _ (by omega)).trans HP5.out.row, HP5.out.cap, HP5.out.most, HP5.out.byts⟩
  refine ⟨r5, true, ?_, ?_, fun _ => rfl, ?_, L4, ?_, ?_, hmf⟩
  · rw [HDO.out]; rfl
  · rw [HDO.out]
    exact RefV.frame (bad' := bad3) HV5.out (fun i hi _ => heap_setCells_ne _ _ _ _ (fun e => hi (by rw [e]; exact HBR.out))) HBS.out
  · rw [HDO.out]; exact HG.out.packed
  · rw [HDO.out]; exact hpf
  · rw [HDO.out]; exact HI4.out
end Go.Proofs.Ytoeaffmlolapnaa
