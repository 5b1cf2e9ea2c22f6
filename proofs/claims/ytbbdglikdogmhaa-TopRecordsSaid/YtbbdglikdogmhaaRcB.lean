/- Values in memory; walks: value.Num, bare, Check; tomeref05.wrong, Code, body; record.code, body. -/
import Derived.Test.YtbbdglikdogmhaaRcA
import Derived.Test.YtbbdglikdogmhaaGrow
import Derived.Deep.MidRow
import Derived.Laws.ResultCell
import Derived.Lib.SmallJoins
import Derived.Deep.RegionHeld3
namespace Go.Proofs.Ytbbdglikdogmhaa
open Go.RowKit
set_option maxRecDepth 100000
set_option linter.unusedVariables false
set_option linter.unusedSimpArgs false

def VlAt (w : World) (g : Nat) (v : Vl) : Prop := w.cell? ⟨g, 0, none⟩ = some (.int .i64 v.k) ∧ w.cell? ⟨g, 1, none⟩ = some (.int .i64 v.n) ∧ w.cell? ⟨g, 2, none⟩ = some (.string (strOfNums v.s))
theorem VlAt.keep {w w' : World} {g : Nat} {v : Vl} (h : VlAt w g v) (hb : Below w.heap.size w w') : VlAt w' g v :=
  ⟨(hb.cell (World.block_lt_of_cell? _ _ h.1)).trans h.1, (hb.cell (World.block_lt_of_cell? _ _ h.2.1)).trans h.2.1, (hb.cell (World.block_lt_of_cell? _ _ h.2.2)).trans h.2.2⟩
def vlC (v : Vl) : List Value := [.int .i64 v.k, .int .i64 v.n, .string (strOfNums v.s)]
theorem VlAt.range {w : World} {g : Nat} {v : Vl} (h : VlAt w g v) : w.rangeAt g 0 (vlC v) := fun j u hu => by
  rw [Nat.zero_add]
  have hj : j < 3 := (List.getElem?_eq_some_iff.1 hu).1
  rcases (by omega : j = 0 ∨ j = 1 ∨ j = 2) with rfl | rfl | rfl
  · rw [h.1]; exact hu
  · rw [h.2.1]; exact hu
  · rw [h.2.2]; exact hu
theorem VlAt.of {w : World} {g : Nat} {v : Vl} (h : w.rangeAt g 0 (vlC v)) : VlAt w g v := by
  have h0 := h 0 _ rfl
  have h1 := h 1 _ rfl
  have h2 := h 2 _ rfl
  exact ⟨by simpa using h0, by simpa using h1, by simpa using h2⟩
theorem VlAt.stored {w : World} {g : Nat} (h : w.there g 0 3) (v : Vl) : VlAt (w.setCells g 0 (vlC v)) g v := VlAt.of (World.rangeAt_setCells_same w g 0 _ h)
theorem size_vl : (Try.prog.info? 49).map (·.size) = some 3 := by kernel_rfl
theorem one_vl (v : Vl) : (vlC v).toArray.all (·.oneCell') = true := all_oneCell_toArray (by intro u hu; simp [vlC] at hu; rcases hu with rfl | rfl | rfl <;> rfl)
theorem wp_store_vl {ops : Array Oper} {rest : List Oper} {op : Oper} {a : Act} {w : World} {Q : Exit → Act → World → Prop} (hgd : op.guard = none) (x y : Operand) (ho : op.op = .store 49 x y) (g : Nat) (v : Vl)
    (hx : a.eval x = .pointer (some ⟨g, 0, none⟩)) (hy : a.eval y = v.val) (ht : w.there g 0 3) (h : wpList Try.prog ops Q rest (a.put op.dst undef) (w.setCells g 0 (vlC v))) : wpList Try.prog ops Q (op :: rest) a w :=
  wpList_store_mid hgd 49 x y ho g 0 (vlC v).toArray hx hy ht size_vl (one_vl v) h
theorem wp_load_vl {ops : Array Oper} {rest : List Oper} {op : Oper} {a : Act} {w : World} {Q : Exit → Act → World → Prop} (hgd : op.guard = none) (x : Operand) (ho : op.op = .load 49 x) (g : Nat) (v : Vl)
    (hx : a.eval x = .pointer (some ⟨g, 0, none⟩)) (hc : VlAt w g v) (h : wpList Try.prog ops Q rest (a.put op.dst v.val) w) : wpList Try.prog ops Q (op :: rest) a w :=
  wpList_load_mid hgd 49 x ho g 0 hx (vlC v) _ hc.range Try.underlying49 rfl size_vl h
theorem run_loadVl (w : World) (g : Nat) (v : Vl) (hc : VlAt w g v) : (loadVar 49 ⟨g, 0, none⟩).run Try.prog w = .ok v.val w := by
  obtain ⟨k0, k1, k2⟩ := hc
  simp [go_sem, loadVar, k0, k1, k2, Vl.val]
theorem results_one {fn : Func} {p : Tmp} {ty : TypeId} (h : fn.results = #[.cell p ty]) (tmps : Array Value) (P : Program) (w : World) :
    (results fn tmps).run P w = ((asAddr (tmps.getD p undef)).run P w).andThen fun a w₁ => (loadVar ty a).run P w₁ := by
  simp only [results, h]
  simp [Sem.run_bind, Result.andThen]
theorem ret_vl {fn : Func} {R : Ending → World → Prop} {a : Act} {w : World} {q : Tmp} {g : Nat} {v : Vl} (hres : fn.results = #[.cell q 49]) (hp : a.tmps.getD q undef = .pointer (some ⟨g, 0, none⟩)) (hc : VlAt w g v) (hd : a.defers = [])
    (hR : R (.returned v.val) w) : bodyPost Try.prog fn R .ret a w := by
  refine bodyPost_ret (v := v.val) ?_ hd hR
  rw [results_one hres, hp]
  show ((loadVar 49 ⟨g, 0, none⟩).run Try.prog w) = _
  rw [run_loadVl w g v hc]
theorem ret_vl2 {fn : Func} {R : Ending → World → Prop} {a : Act} {w : World} {q u : Tmp} {g : Nat} {v : Vl} (hres : fn.results = #[.cell q 49, .tmp u]) (hp : a.tmps.getD q undef = .pointer (some ⟨g, 0, none⟩)) (hc : VlAt w g v) (hd : a.defers = [])
    (hR : R (.returned (.tuple #[v.val, a.tmps.getD u undef])) w) : bodyPost Try.prog fn R .ret a w := by
  refine bodyPost_ret (v := .tuple #[v.val, a.tmps.getD u undef]) ?_ hd hR
  rw [results_cell_tmp hres, hp]
  show ((loadVar 49 ⟨g, 0, none⟩).run Try.prog w).andThen _ = _
  rw [run_loadVl w g v hc]
  rfl
theorem str_nil : strOfNums [] = ⟨#[]⟩ := rfl

set_option maxHeartbeats 4000000 in
theorem num_any (w : World) (n : Int) : Calls Try.prog 60 #[.int .i64 n] w fun e w' => e = .returned (Vl.val ⟨1, n, []⟩) ∧ Below w.heap.size w w' := by
  go_enter Try.func60, Try.ntmps60
  go_wp2
  refine ret_vl (v := ⟨1, n, []⟩) rfl rfl ⟨by simp [go_sem], by simp [go_sem], by simp [go_sem, str_nil]⟩ rfl ?_
  refine ⟨rfl, ?_⟩
  repeat (first | exact (Below.refl _ _).alloc (Nat.le_refl _) _ | refine Below.setCell ?_ (Nat.le_refl _) _)
  
def bareV (v : Vl) : Vl := if v.k = 1 then ⟨1, v.n, []⟩ else if v.k = 2 ∨ v.k = 3 then ⟨v.k, 0, v.s⟩ else zeroV

theorem there_keepV {w w' : World} {B g o n : Nat} (h : w.there g o n) (hb : Below B w w') (hg : g < B) : w'.there g o n := fun j hj =>
  ⟨by rw [hb.cell (p := ⟨g, o + j, none⟩) hg]; exact (h j hj).1, by rw [hb.frozen (p := ⟨g, o + j, none⟩) hg]; exact (h j hj).2⟩
theorem below_setCellsV {B : Nat} {w w' : World} (h : Below B w w') {b : Nat} (hb : B ≤ b) : ∀ (o : Nat) (vs : List Value), Below B w (w'.setCells b o vs)
  | _, [] => h
  | o, _ :: r => below_setCellsV (h.setCell hb _) hb (o + 1) r

set_option maxHeartbeats 4000000 in
theorem bare_any (w : World) (v : Vl) : Calls Try.prog 40 #[v.val] w fun e w' => e = .returned (.tuple #[(bareV v).val, .bool (decide (0 ≤ v.k ∧ v.k ≤ 3))]) ∧ Below w.heap.size w w' := by
  obtain ⟨k, n, s⟩ := v
  obtain ⟨W2, hW2⟩ : ∃ W, W = (w.alloc (.cells #[.int .i64 k, .int .i64 n, .string (strOfNums s)] 49)).alloc (.cells #[.int .i64 0, .int .i64 0, .string ⟨#[]⟩] 49) := ⟨_, rfl⟩
  have hbW : Below w.heap.size w W2 := by rw [hW2]; exact ((Below.refl _ _).alloc (Nat.le_refl _) _).alloc (by simp) _
  have hsW : W2.heap.size = w.heap.size + 2 := by rw [hW2]; simp
  have HV := Lib.hid (show VlAt W2 w.heap.size ⟨k, n, s⟩ by rw [hW2]; exact ⟨by simp [go_sem], by simp [go_sem], by simp [go_sem]⟩)
  have HT := Lib.hid (show W2.there (w.heap.size + 1) 0 3 by
    rw [hW2]
    intro j hj
    rcases (by omega : j = 0 ∨ j = 1 ∨ j = 2) with rfl | rfl | rfl <;> simp [go_sem])
  have HW := Lib.hid hW2
  unfold Vl.val
  simp only
  have hout : ∀ W (u : Vl), Below w.heap.size w W → Below w.heap.size w (W.setCells (w.heap.size + 1) 0 (vlC u)) := fun W u h => below_setCellsV h (by omega) _ _
  have HOUT := Lib.hid hout; clear hout
  by_cases h0 : k = 0
  · subst h0
    go_enter Try.func40, Try.ntmps40
    go_upto_region 1 with fail
    rw [← hW2]
    clear hW2 HW
    obtain ⟨k0, k1, k2⟩ := HV.out
    go_upto_region 6 with fail
    iterate 4 go_step
    refine wp_store_vl rfl _ _ rfl (w.heap.size + 1) zeroV rfl rfl HT.out ?_
    repeat go_step
    refine ret_vl2 rfl rfl (VlAt.stored HT.out zeroV) rfl ⟨rfl, HOUT.out _ _ hbW⟩
  by_cases h1 : k = 1
  · subst h1
    go_enter Try.func40, Try.ntmps40
    go_upto_region 1 with fail
    rw [← hW2]
    clear hW2 HW
    obtain ⟨k0, k1, k2⟩ := HV.out
    go_wp2_with fail
    refine (num_any _ n).mono ?_
    rintro e w3 ⟨rfl, hb3⟩
    have HT3 := Lib.hid (there_keepV HT.out hb3 (by omega))
    dsimp only
    go_step
    refine wp_store_vl rfl _ _ rfl (w.heap.size + 1) ⟨1, n, []⟩ rfl rfl HT3.out ?_
    repeat go_step
    refine ret_vl2 rfl rfl (VlAt.stored HT3.out ⟨1, n, []⟩) rfl ⟨rfl, HOUT.out _ _ (hbW.trans (hb3.mono (by omega)))⟩
  by_cases h2 : k = 2
  · subst h2
    go_enter Try.func40, Try.ntmps40
    go_upto_region 1 with fail
    rw [← hW2]
    clear hW2 HW
    obtain ⟨k0, k1, k2⟩ := HV.out
    go_upto_region 8 with fail
    iterate 16 go_step
    refine wp_store_vl rfl _ _ rfl (w.heap.size + 1) ⟨2, 0, s⟩ rfl rfl HT.out ?_
    repeat go_step
    refine ret_vl2 rfl rfl (VlAt.stored HT.out ⟨2, 0, s⟩) rfl ⟨rfl, HOUT.out _ _ hbW⟩
  by_cases h3 : k = 3
  · subst h3
    go_enter Try.func40, Try.ntmps40
    go_upto_region 1 with fail
    rw [← hW2]
    clear hW2 HW
    obtain ⟨k0, k1, k2⟩ := HV.out
    go_upto_region 8 with fail
    iterate 16 go_step
    refine wp_store_vl rfl _ _ rfl (w.heap.size + 1) ⟨3, 0, s⟩ rfl rfl HT.out ?_
    repeat go_step
    refine ret_vl2 rfl rfl (VlAt.stored HT.out ⟨3, 0, s⟩) rfl ⟨rfl, HOUT.out _ _ hbW⟩
  have hz : bareV ⟨k, n, s⟩ = zeroV := by simp [bareV, h1, h2, h3]
  have hd : decide (0 ≤ k ∧ k ≤ 3) = false := decide_eq_false (by omega)
  rw [hz, hd]
  have b0 : (k == 0) = false := by simp [h0]
  have b1 : (k == 1) = false := by simp [h1]
  have b2 : (k == 2) = false := by simp [h2]
  have b3 : (k == 3) = false := by simp [h3]
  clear hz hd
  go_enter Try.func40, Try.ntmps40
  go_upto_region 1 with fail
  rw [← hW2]
  clear hW2 HW
  obtain ⟨k0, k1, k2⟩ := HV.out
  go_upto_region 9 with fail
  iterate 4 go_step
  refine wp_store_vl rfl _ _ rfl (w.heap.size + 1) zeroV rfl rfl HT.out ?_
  repeat go_step
  refine ret_vl2 rfl rfl (VlAt.stored HT.out zeroV) rfl ⟨rfl, HOUT.out _ _ hbW⟩
end Go.Proofs.Ytbbdglikdogmhaa
