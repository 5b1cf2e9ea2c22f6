/- Several texts of this proof as one: WfS, WfJ, WfK. Laid by merge.py. -/
import Derived.Test.YtlehpgokjppccaaTfA
import Derived.Test.YtlehpgokjppccaaTfB
import Derived.Test.YtlehpgokjppccaaTfC
import Derived.Test.YtlehpgokjppccaaTfD
import Derived.Test.YtlehpgokjppccaaTfF
import Derived.Test.YtlehpgokjppccaaTfH
import Derived.Test.YtlehpgokjppccaaTfI
import Derived.Test.YtlehpgokjppccaaTfJ
import Derived.ArgAppend
import Derived.BigQuiet
import Derived.ChangeKeysEq
import Derived.Deep.DeepCutAuto
import Derived.Deep.MidRow
import Derived.Deep.QuietTactic
import Derived.Deep.RegionHeld3
import Derived.Deep.RegionLaw
import Derived.Handy
import Derived.Laws.Externs
import Derived.Laws.ResultCell
import Derived.Lib.AppendStr
import Derived.Lib.Hide
import Derived.Lib.MakeNoZero
import Derived.Lib.SlBuf
import Derived.Lib.SliceRun
import Derived.Lib.SmallJoins
import Derived.Maps.AppendAt
import Derived.Maps.RangeWalk
import Derived.Shelf.SlIterI.Nil
import Derived.Shelf.SortM.Plain
import Derived.Shelf.SortM.SortNone
import Derived.Test.YtlehpgokjppccaaProg
import Derived.WalkKit
import Derived.WalkMore
import Derived.WalkSpells
namespace Go.Proofs.Ytlehpgokjppccaa
section
open Go.Shelf
def keysA_ren : Go.Shelf.Ren := ⟨fun | 7 => 61 | 10 => 70 | n => n, fun | 23 => 102 | 26 => 3 | 3 => 53 | 28 => 105 | 0 => 0 | 27 => 104 | 33 => 82 | 4 => 4 | n => n, fun | n => n⟩
theorem keysA : Go.Proofs.SlLaysZI.n7 Try.prog keysA_ren := {
  mixed := by kernel_rfl
  f7 := ⟨Try.f61.name, by decide, Try.func61.trans (congrArg some (by kernel_rfl))⟩
  f10 := ⟨Try.f70.name, by decide, Try.func70.trans (congrArg some (by kernel_rfl))⟩
  t0 := Try.underlying0
  a0 := Try.isAgg0
  z0 := Try.sizeOf0
  v0 := Try.zeroValue0
  t4 := Try.underlying4
  a4 := Try.isAgg4
  z4 := Try.sizeOf4
  v4 := Try.zeroValue4
  t23 := Try.underlying102
  a23 := Try.isAgg102
  z23 := Try.sizeOf102
  v23 := Try.zeroValue102
  t26 := Try.underlying3
  a26 := Try.isAgg3
  z26 := Try.sizeOf3
  v26 := Try.zeroValue3
  t27 := Try.underlying104
  a27 := Try.isAgg104
  z27 := Try.sizeOf104
  v27 := Try.zeroValue104
  t28 := Try.underlying105
  a28 := Try.isAgg105
  z28 := Try.sizeOf105
  v28 := Try.zeroValue105
  t33 := Try.underlying82
  a33 := Try.isAgg82
  z33 := Try.sizeOf82
  v33 := Try.zeroValue82 }
def sortedA_ren : Go.Shelf.Ren := ⟨fun | 6 => 60 | 8 => 68 | 9 => 69 | 11 => 73 | 13 => 75 | 12 => 74 | 23 => 85 | 24 => 86 | 14 => 76 | 15 => 77 | 16 => 78 | 17 => 79 | 18 => 80 | 19 => 81 | 20 => 82 | 21 => 83 | 22 => 84 | 25 => 87 | 26 => 88 | 27 => 89 | 28 => 90 | 29 => 91 | 30 => 92 | 31 => 93 | n => n, fun | 26 => 3 | 28 => 105 | 24 => 80 | 0 => 0 | 3 => 3 | 37 => 108 | 48 => 39 | 50 => 42 | 4 => 4 | 40 => 121 | 39 => 120 | 45 => 126 | 5 => 5 | 9 => 9 | 51 => 130 | 55 => 134 | 57 => 136 | 58 => 137 | 33 => 82 | n => n, fun | n => n⟩
theorem sortedA : Go.Proofs.SlLaysZI.n6 Try.prog sortedA_ren := {
  mixed := by kernel_rfl
  f6 := ⟨Try.f60.name, by decide, Try.func60.trans (congrArg some (by kernel_rfl))⟩
  f8 := ⟨Try.f68.name, by decide, Try.func68.trans (congrArg some (by kernel_rfl))⟩
  f11 := ⟨Try.f73.name, by decide, Try.func73.trans (congrArg some (by kernel_rfl))⟩
  t0 := Try.underlying0
  a0 := Try.isAgg0
  z0 := Try.sizeOf0
  v0 := Try.zeroValue0
  t24 := Try.underlying80
  a24 := Try.isAgg80
  z24 := Try.sizeOf80
  v24 := Try.zeroValue80
  t26 := Try.underlying3
  a26 := Try.isAgg3
  z26 := Try.sizeOf3
  v26 := Try.zeroValue3
  t28 := Try.underlying105
  a28 := Try.isAgg105
  z28 := Try.sizeOf105
  v28 := Try.zeroValue105
  i26 := by kernel_rfl }
def sortA_ren : Go.Shelf.Ren := ⟨fun | 5 => 69 | 8 => 75 | 7 => 74 | 19 => 85 | 20 => 86 | 10 => 76 | 11 => 77 | 12 => 78 | 13 => 79 | 14 => 80 | 15 => 81 | 16 => 82 | 17 => 83 | 18 => 84 | 30 => 87 | 31 => 88 | 32 => 89 | 33 => 90 | 34 => 91 | 35 => 92 | 40 => 93 | n => n, fun | 23 => 80 | 25 => 3 | 3 => 3 | 32 => 108 | 22 => 80 | 0 => 0 | 44 => 39 | 46 => 42 | 4 => 4 | 36 => 121 | 35 => 120 | 41 => 126 | 5 => 5 | 9 => 9 | 53 => 130 | 57 => 134 | 63 => 136 | 64 => 137 | n => n, fun | n => n⟩
theorem sortA : Go.Proofs.SlLaysM.n5 Try.prog sortA_ren := {
  mixed := by kernel_rfl
  f5 := ⟨Try.f69.name, by decide, Try.func69.trans (congrArg some (by kernel_rfl))⟩
  f7 := ⟨Try.f74.name, by decide, Try.func74.trans (congrArg some (by kernel_rfl))⟩
  f8 := Try.func75.trans (congrArg some (by kernel_rfl))
  f10 := ⟨Try.f76.name, by decide, Try.func76.trans (congrArg some (by kernel_rfl))⟩
  f11 := ⟨Try.f77.name, by decide, Try.func77.trans (congrArg some (by kernel_rfl))⟩
  f12 := ⟨Try.f78.name, by decide, Try.func78.trans (congrArg some (by kernel_rfl))⟩
  f13 := ⟨Try.f79.name, by decide, Try.func79.trans (congrArg some (by kernel_rfl))⟩
  f14 := ⟨Try.f80.name, by decide, Try.func80.trans (congrArg some (by kernel_rfl))⟩
  f15 := ⟨Try.f81.name, by decide, Try.func81.trans (congrArg some (by kernel_rfl))⟩
  f16 := ⟨Try.f82.name, by decide, Try.func82.trans (congrArg some (by kernel_rfl))⟩
  f17 := ⟨Try.f83.name, by decide, Try.func83.trans (congrArg some (by kernel_rfl))⟩
  f18 := ⟨Try.f84.name, by decide, Try.func84.trans (congrArg some (by kernel_rfl))⟩
  f19 := Try.func85.trans (congrArg some (by kernel_rfl))
  f20 := Try.func86.trans (congrArg some (by kernel_rfl))
  f30 := ⟨Try.f87.name, by decide, Try.func87.trans (congrArg some (by kernel_rfl))⟩
  f31 := Try.func88.trans (congrArg some (by kernel_rfl))
  f32 := Try.func89.trans (congrArg some (by kernel_rfl))
  f33 := ⟨Try.f90.name, by decide, Try.func90.trans (congrArg some (by kernel_rfl))⟩
  f34 := ⟨Try.f91.name, by decide, Try.func91.trans (congrArg some (by kernel_rfl))⟩
  f35 := ⟨Try.f92.name, by decide, Try.func92.trans (congrArg some (by kernel_rfl))⟩
  f40 := ⟨Try.f93.name, by decide, Try.func93.trans (congrArg some (by kernel_rfl))⟩
  t0 := Try.underlying0
  a0 := Try.isAgg0
  z0 := Try.sizeOf0
  v0 := Try.zeroValue0
  t3 := Try.underlying3
  a3 := Try.isAgg3
  z3 := Try.sizeOf3
  v3 := Try.zeroValue3
  t4 := Try.underlying4
  a4 := Try.isAgg4
  z4 := Try.sizeOf4
  v4 := Try.zeroValue4
  t5 := Try.underlying5
  a5 := Try.isAgg5
  z5 := Try.sizeOf5
  v5 := Try.zeroValue5
  t9 := Try.underlying9
  a9 := Try.isAgg9
  z9 := Try.sizeOf9
  v9 := Try.zeroValue9
  t22 := Try.underlying80
  a22 := Try.isAgg80
  z22 := Try.sizeOf80
  v22 := Try.zeroValue80
  t23 := Try.underlying80
  a23 := Try.isAgg80
  z23 := Try.sizeOf80
  v23 := Try.zeroValue80
  t25 := Try.underlying3
  a25 := Try.isAgg3
  z25 := Try.sizeOf3
  v25 := Try.zeroValue3
  t32 := Try.underlying108
  a32 := Try.isAgg108
  z32 := Try.sizeOf108
  v32 := Try.zeroValue108
  t35 := Try.underlying120
  a35 := Try.isAgg120
  z35 := Try.sizeOf120
  v35 := Try.zeroValue120
  t36 := Try.underlying121
  a36 := Try.isAgg121
  z36 := Try.sizeOf121
  v36 := Try.zeroValue121
  t41 := Try.underlying126
  a41 := Try.isAgg126
  z41 := Try.sizeOf126
  v41 := Try.zeroValue126
  t44 := Try.underlying39
  a44 := Try.isAgg39
  z44 := Try.sizeOf39
  v44 := Try.zeroValue39
  t46 := Try.underlying42
  a46 := Try.isAgg42
  z46 := Try.sizeOf42
  v46 := Try.zeroValue42
  t53 := Try.underlying130
  a53 := Try.isAgg130
  z53 := Try.sizeOf130
  v53 := Try.zeroValue130
  t57 := Try.underlying134
  a57 := Try.isAgg134
  z57 := Try.sizeOf134
  v57 := Try.zeroValue134
  t63 := Try.underlying136
  a63 := Try.isAgg136
  z63 := Try.sizeOf136
  v63 := Try.zeroValue136
  t64 := Try.underlying137
  a64 := Try.isAgg137
  z64 := Try.sizeOf137
  v64 := Try.zeroValue137 }
end
section
open Go.RowKit Go.Maps Go.Shelf
set_option maxRecDepth 100000
set_option linter.unusedVariables false
set_option linter.unusedSimpArgs false
set_option linter.unnecessarySimpa false
/-- A frame's value whose bytes may be read. -/
def FvOk (W : World) (v : Value) : Prop := ∃ (pg cm : Int) (A : Option Addr) (n c : Nat) (l : List Int), v = .agg #[.int .i64 pg, .int .i64 cm, .slice A n c] ∧ l.length = n ∧ n ≤ 1000000 ∧ n ≤ c ∧ c ≤ maxLen ∧ Rd W A l
def zeroF : Value := .agg #[.int .i64 0, .int .i64 0, .slice none 0 0]
theorem zeroF_ok (W : World) : FvOk W zeroF := ⟨0, 0, none, 0, 0, [], rfl, rfl, Nat.zero_le _, Nat.le_refl _, by decide, .inl rfl⟩
theorem zeroF_run (w : World) : (zeroValue 53).run Try.prog w = .ok zeroF w := by kernel_rfl
theorem law_int : Keyed Try.prog 3 := int_keyed Try.underlying3
/-- An element reads as itself. -/
def heldR (v : Value) : Option (DataW Value × List MemPlace) := some (.held v, [])
/-- The map behind j frames: the keys are among 1 .. j, j of them; its elements are frames. -/
def PkM (W : World) (j : Nat) (D : DataW Value) : Prop := ∃ es : List (Lit × DataW Value), D = .map es ∧ es.length = j ∧ ∀ p ∈ es, (∃ x : Int, p.1 = .int .i64 x ∧ 1 ≤ x ∧ x ≤ (j : Int)) ∧ ∃ v, p.2 = .held v ∧ FvOk W v
theorem PkM.nil (W : World) : PkM W 0 (.map []) := ⟨[], rfl, rfl, fun p hp => by cases hp⟩
theorem PkM.put {W : World} {j : Nat} {D : DataW Value} (h : PkM W j D) {v : Value} (hv : FvOk W v) : PkM W (j + 1) (D.put (.int .i64 ((j : Int) + 1)) (.held v)) := by
  obtain ⟨es, rfl, hl, hk⟩ := h
  have hf : es.filter (fun p => !p.1.sameKey (.int .i64 ((j : Int) + 1))) = es := by
    rw [List.filter_eq_self]
    intro p hp
    obtain ⟨⟨x, hx, h1, h2⟩, _⟩ := hk p hp
    rw [hx, sameKey_ne (by intro e; injection e with _ e; omega)]
    rfl
  refine ⟨DataW.insert (.int .i64 ((j : Int) + 1), .held v) es, ?_, by rw [length_insert, hl], fun p hp => ?_⟩
  · show DataW.map (DataW.insert _ (es.filter _)) = _
    rw [hf]
  · rcases ChangeMaps.mem_insert_iff.1 hp with rfl | hp
    · exact ⟨⟨_, rfl, by omega, by omega⟩, v, rfl, hv⟩
    · obtain ⟨⟨x, hx, h1, h2⟩, hv'⟩ := hk p hp
      exact ⟨⟨x, hx, h1, by omega⟩, hv'⟩
theorem PkM.size {W : World} {j : Nat} {D : DataW Value} (h : PkM W j D) : Maps.size D = j := by
  obtain ⟨es, rfl, hl, hk⟩ := h
  exact hl
theorem PkM.at {W : World} {j : Nat} {D : DataW Value} (h : PkM W j D) (kl : Lit) : ∃ v, D.atKey kl (.held zeroF) = .held v ∧ FvOk W v := by
  obtain ⟨es, rfl, hl, hk⟩ := h
  simp only [DataW.atKey]
  split
  · rename_i p hp
    exact (hk p (List.mem_of_find?_eq_some hp)).2
  · exact ⟨zeroF, rfl, zeroF_ok W⟩
theorem PkM.ints {W : World} {j : Nat} {D : DataW Value} (h : PkM W j D) : (intKeys D).length = j ∧ ∀ x ∈ intKeys D, 1 ≤ x ∧ x ≤ (j : Int) := by
  obtain ⟨es, rfl, hl, hk⟩ := h
  refine ⟨by simp [intKeys, hl], fun x hx => ?_⟩
  obtain ⟨p, hp, rfl⟩ := List.mem_map.1 hx
  obtain ⟨⟨y, hy, h1, h2⟩, _⟩ := hk p hp
  rw [hy]
  exact ⟨h1, h2⟩
/-- A key that is still to come is one of the map's. -/
theorem PkM.left {W w : World} {j b r n : Nat} {D : DataW Value} {left : Lit → Bool} {cnt : Nat} (h : PkM W j D) (hr : w.ranges Try.prog 3 heldR b r n D left cnt) {x : Int} (hl : left (.int .i64 x) = true) : 1 ≤ x ∧ x ≤ (j : Int) := by
  obtain ⟨es, hD, hlen, hk⟩ := h
  obtain ⟨E, clock, since, seen, c0, _, _, _, hD2, _, _, _, _, hl2, _, _⟩ := hr
  obtain ⟨e, he, hek⟩ := hl2 _ hl
  rw [hD] at hD2
  injection hD2 with hD2
  have hm : WideElems.rg Try.prog 3 heldR e ∈ es := by rw [hD2]; exact mem_sorted.2 (List.mem_map.2 ⟨e, he, rfl⟩)
  obtain ⟨⟨y, hy, h1, h2⟩, _⟩ := hk _ hm
  rw [hy] at hek
  injection hek with _ hek
  subst hek
  exact ⟨h1, h2⟩

theorem mkeys_any (mb : Option Nat) (w : World) : Calls Try.prog 61 #[.map mb] w fun e w' => e = .returned (.func (.func 70) #[] #[.pointer (some ⟨w.heap.size, 0, none⟩)]) ∧ w' = w.alloc (.cells #[.map mb] 102) :=
  callsIn_wide.1 (AnyZI.keys_in keysA Fence.wide 5 trivial rfl mb w)

theorem sorts_any (m : Nat) : AnyZI.SortsIn Try.prog sortedA_ren Fence.wide m :=
  ⟨fun blk off cap ss W hH hblk hsz => callsIn_wide.2 (AnyM.slices_Sort_int sortA blk off cap ss W hH hblk hsz),
   fun p cap W => callsIn_wide.2 (AnyM.slices_Sort_int_none sortA p cap W)⟩

theorem msorted_any (w : World) (B b nn : Nat) (D : DataW Value) (hB : B < w.heap.size) (hc : w.cell? ⟨B, 0, none⟩ = some (.map (some b))) (hown : w.ownsMap Try.prog 3 heldR b nn D) (hmax : Maps.size D ≤ 1000000) :
    Calls Try.prog 60 #[.func (.func 70) #[] #[.pointer (some ⟨B, 0, none⟩)]] w fun e w' => ∃ (v : Value) (ss : List Int), e = .returned v ∧ ss.Perm (intKeys D) ∧
      w'.ownsRow w.heap.size 3 1 v ss.length ((ss.mergeSort (fun x y => decide (x ≤ y))).map encZ) ∧ Below w.heap.size w w' := by
  have hseq : SeqGives Fence.wide 2 Try.prog 70 #[.pointer (some ⟨B, 0, none⟩)] encZ (fun ss => ss.Perm (intKeys D)) (Maps.size D) w :=
    AnyZI.keys_gives (ρ := keysA_ren) { keysA with } Fence.wide _ trivial rfl (by omega) B b nn D _ hB hc hown
  have cS := AnyZI.sorted_in sortedA Fence.wide 5 trivial trivial trivial trivial rfl (by omega) (sorts_any _) (enters_of Try.func69 (by kernel_rfl) rfl) 70 #[.pointer (some ⟨B, 0, none⟩)] trivial (enters_of Try.func70 (by kernel_rfl) rfl) _ _ (by unfold maxLen; omega) (by omega) _ hseq
  refine (callsIn_wide.1 cS).mono ?_
  rintro e w' ⟨v, ss, rfl, hS, hrow, _, hb⟩
  exact ⟨v, ss, rfl, hS, hrow, hb⟩

theorem FrCell.range {w : World} {b o : Nat} {f : Fr} (h : FrCell w b o f) : ∃ A c, w.rangeAt b o (frC f.pg f.cm A f.b.length c) ∧ f.b.length ≤ c ∧ c ≤ maxLen ∧ Rd w A f.b := by
  obtain ⟨A, c, h1, h2, h3, h4, h5, h6⟩ := h
  refine ⟨A, c, fun j u hu => ?_, h4, h5, h6⟩
  have hj : j < 3 := (List.getElem?_eq_some_iff.1 hu).1
  rcases (by omega : j = 0 ∨ j = 1 ∨ j = 2) with rfl | rfl | rfl
  · rw [Nat.add_zero, h1]; exact hu
  · rw [h2]; exact hu
  · rw [h3]; exact hu
theorem wp_load_frm {ops : Array Oper} {rest : List Oper} {op : Oper} {a : Act} {w : World} {Q : Exit → Act → World → Prop} (hgd : op.guard = none) (x : Operand) (ho : op.op = .load 53 x) (g o : Nat) (pg cm : Int) (A : Option Addr) (m c : Nat)
    (hx : a.eval x = .pointer (some ⟨g, o, none⟩)) (hc : w.rangeAt g o (frC pg cm A m c)) (h : wpList Try.prog ops Q rest (a.put op.dst (.agg #[.int .i64 pg, .int .i64 cm, .slice A m c])) w) : wpList Try.prog ops Q (op :: rest) a w :=
  wpList_load_mid hgd 53 x ho g o hx (frC pg cm A m c) _ hc Try.underlying53 rfl size_fr h
end
section
open Go.RowKit Go.Maps Go.Shelf
set_option maxRecDepth 100000
set_option linter.unusedVariables false
set_option linter.unusedSimpArgs false
set_option linter.unnecessarySimpa false
theorem rangeKeepF {w w' : World} {b o : Nat} {cs : List Value} (h : w.rangeAt b o cs) (hb : Below w.heap.size w w') : w'.rangeAt b o cs := fun j v hv => (hb.cell (World.block_lt_of_cell? w _ (h j v hv))).trans (h j v hv)

theorem ownsMap_below {w w' : World} {k : TypeId} {R : Value → Option (DataW Value × List MemPlace)} {b n : Nat} {D : DataW Value} (h : w.ownsMap Try.prog k R b n D) (hb : Below w.heap.size w w') : w'.ownsMap Try.prog k R b n D := by
  have hl := h.lt
  obtain ⟨es, clock, hh, Ft, hs, hD⟩ := h
  exact ⟨es, clock, (hb.block b hl).trans hh, Ft, hs, hD⟩

set_option maxHeartbeats 16000000 in
theorem wlatest_ok (w : World) (A : Option Addr) (m c : Nat) (F : List Fr) (hF : F.length = m) (hm : m ≤ 12) (hA : RdFr w A F) (hpg : ∀ i, i < m → (fr_ F i).pg = (i : Int) + 1 ∧ (fr_ F i).cm = (i : Int) + 1 ∧ (fr_ F i).b.length ≤ 1000000) (R : Ending → World → Prop)
    (hR : R = fun e w' => ∃ B d, e = .returned (.tuple #[.slice B m d, .int .i64 (m : Int)]) ∧ Below w.heap.size w w') :
    Calls Try.prog 39 #[.slice A m c] w R := by
  have HR := Lib.hid hR; clear hR
  have HF := Lib.hid hF
  have HA := Lib.hid hA
  have HP := Lib.hid hpg
  have hmm := @run_makeMap Try.prog
  clear hF hA hpg
  obtain ⟨b, hb⟩ : ∃ b, w.heap.size = b := ⟨_, rfl⟩
  have HB := Lib.hid hb
  clear hb
  go_enter Try.func39, Try.ntmps39
  go_wp2_with fail
  go_loopw [5, 16] (fun v5 v16 wr => ∃ (i : Nat) (D : DataW Value), i ≤ m ∧ v16 = .int .i64 (i : Int) ∧ v5 = .int .i64 (i : Int) ∧ wr.ownsMap Try.prog 3 heldR w.heap.size i D ∧ PkM w i D ∧ Below w.heap.size w wr) (fun _ v16 _ => m - (intOf v16).toNat)
  case atStart => exact ⟨0, .map [], Nat.zero_le _, rfl, rfl, World.ownsMap_made _ _ _ _, PkM.nil _, (Below.refl _ _).alloc (Nat.le_refl _) _⟩
  case round =>
    clear hmm
    rename World => wr
    obtain ⟨i, D, hi, rfl, rfl, hown, hpk, hb⟩ := hrel
    have HOW := Lib.hid hown
    have HPK := Lib.hid hpk
    have HBW := Lib.hid hb
    clear hown hpk hb
    by_cases hlt : i < m
    · obtain ⟨b1, o1, hAe, hcells⟩ := HA.out.at (by rw [HF.out]; omega)
      subst hAe
      obtain ⟨A1, c1, hrg, hc1, hc2, hrd⟩ := (hcells i (by rw [HF.out]; exact hlt)).range
      obtain ⟨e1, e2, e3⟩ := HP.out i hlt
      obtain ⟨n1, hn1⟩ : ∃ n, (fr_ F i).b.length = n := ⟨_, rfl⟩
      rw [hn1] at hrg hc1 e3
      rw [e1, e2] at hrg
      have HRG := Lib.hid (rangeKeepF hrg HBW.out)
      have HOK := Lib.hid (show FvOk w (.agg #[.int .i64 ((i : Int) + 1), .int .i64 ((i : Int) + 1), .slice A1 n1 c1]) from ⟨_, _, A1, n1, c1, _, rfl, hn1, e3, hc1, hc2, hrd⟩)
      have hlt' : (i : Int) < (m : Int) := by omega
      have i00 : (0 : Int) ≤ (i : Int) := by omega
      have hz1 : ((i : Int) + 1 == 0) = false := by rw [beq_eq_false_iff_ne]; omega
      have hkey : keyOf Try.prog 3 (.int .i64 ((i : Int) + 1)) = some (.int .i64 ((i : Int) + 1)) := keyOf_int_mk Try.underlying3 (by simp [Lit.wf, IntKind.min, IntKind.max, IntKind.signed, IntKind.bits]; omega)
      have HKEY := Lib.hid hkey
      clear hcells hrg hc1 hc2 hrd e1 e2 e3 hn1 hkey
      go_upto_region 5 with fail
      iterate 4 go_step
      refine wp_load_frm rfl _ rfl b1 (o1 + i * 3) ((i : Int) + 1) ((i : Int) + 1) A1 n1 c1 rfl HRG.out ?_
      go_upto_region 6 with fail
      obtain ⟨W1, hW1⟩ : ∃ W, W = wr.alloc (.cells #[.int .i64 ((i : Int) + 1), .int .i64 ((i : Int) + 1), .slice A1 n1 c1] 53) := ⟨_, rfl⟩
      have HO1 := Lib.hid (show W1.ownsMap Try.prog 3 heldR w.heap.size i D by rw [hW1]; exact HOW.out.alloc _)
      have HF1 := Lib.hid (show FrAt W1 wr.heap.size ((i : Int) + 1) ((i : Int) + 1) A1 n1 c1 by rw [hW1]; exact ⟨by simp [go_sem], by simp [go_sem], by simp [go_sem]⟩)
      have hbs := HBW.out.size
      have hbl := HOW.out.lt
      have hb1 : Below w.heap.size w W1 := by rw [hW1]; exact HBW.out.alloc hbs _
      rw [← hW1]
      have k0 := HF1.out.1
      obtain ⟨g1, hg1⟩ : ∃ g, wr.heap.size = g := ⟨_, rfl⟩
      rw [hg1] at HF1 k0 hbs hbl ⊢
      clear hW1 hg1
      iterate 10 go_step
      refine wp_load_fr rfl _ rfl g1 ((i : Int) + 1) ((i : Int) + 1) A1 n1 c1 rfl HF1.out ?_
      try simp only [Act.put, List.setIfInBounds_toArray, List.set_cons_zero, List.set_cons_succ, List.getElem_toArray, List.getElem_cons_zero, List.getElem_cons_succ]
      refine wpList_mapUpdate_own _ rfl _ _ _ 102 rfl 3 53 law_int Try.underlying102 heldR w.heap.size i D rfl HO1.out (by unfold maxLen; omega) _ (.agg #[.int .i64 ((i : Int) + 1), .int .i64 ((i : Int) + 1), .slice A1 n1 c1]) _ rfl rfl HKEY.out _ [] rfl ?_
      intro w2 hown2 hgrow2
      have HPK2 := Lib.hid (HPK.out.put HOK.out)
      obtain ⟨D2, hD2⟩ : ∃ X, D.put (.int .i64 ((i : Int) + 1)) (.held (.agg #[.int .i64 ((i : Int) + 1), .int .i64 ((i : Int) + 1), .slice A1 n1 c1])) = X := ⟨_, rfl⟩
      rw [hD2] at hown2 HPK2
      have HO2 := Lib.hid hown2
      have HF2 := Lib.hid (HF1.out.grownF hgrow2 (by simp; omega))
      have hb2 : Below w.heap.size w w2 := hb1.grown hgrow2 hb1.size (fun j hj => by injection hj with hj; omega)
      have m1 := HF2.out.2.1
      clear hown2 hgrow2 hD2 HO1 HF1 k0 hb1 HRG HKEY HOK HOW HPK HBW
      go_upto_region 9 with fail
      iterate 4 go_step
      refine wpList_range_own _ rfl _ 102 rfl 3 53 law_int Try.underlying102 heldR w.heap.size (i + 1) D2 rfl HO2.out ?_
      intro w3 hrg3 hg3 hs3
      obtain ⟨r, hr⟩ : ∃ r, w2.heap.size = r := ⟨_, rfl⟩
      rw [hr] at hrg3 ⊢
      have hrb : w.heap.size ≤ r := by rw [← hr]; exact hb2.size
      have HB3 := Lib.hid (hb2.grown hg3 hb2.size (fun j hj => by cases hj))
      have HR3 := Lib.hid hrg3
      clear hrg3 hg3 hs3 hr hb2 m1 HF2 HO2
      go_wp2_with fail
      go_frame
      go_loopw [8] (fun _ wx => ∃ (left : Lit → Bool) (cnt : Nat), wx.ranges Try.prog 3 heldR w.heap.size r (i + 1) D2 left cnt ∧ Below w.heap.size w wx) (fun _ wx => wx.rangeLeft w.heap.size r)
      case atStart => exact ⟨_, _, HR3.out, HB3.out⟩
      case round =>
        clear HR3 HB3
        rename World => wx
        obtain ⟨left, cnt, hrg, hbx⟩ := hrel
        go_upto_region 10 with fail
        go_step
        refine wpList_next_ranges _ rfl _ rfl 3 law_int heldR (Value.int .i64) id (fun key kl hk => by obtain ⟨x, hx, _⟩ := keyOf_int_inv Try.underlying3 hk; exact ⟨x, hx⟩) (fun v _ _ => ⟨v, rfl⟩) w.heap.size r (i + 1) D2 left cnt rfl hrg ?_ ?_
        · intro hc0 hl0
          have HO := Lib.hid hrg.owns
          have HBX := Lib.hid hbx
          clear hrg hbx hc0 hl0
          go_wp2_with fail
          go_roundw
          case rel => exact ⟨i + 1, D2, hlt, by go_num, by go_num, HO.out, HPK2.out, HBX.out⟩
          case measure => simp [intOf]; omega
        · intro x v kl y w4 cnt4 hkey hlk hv hat hrg4 hlt4 hg4 hs4 hen
          obtain ⟨x', ex, rfl, _⟩ := keyOf_int_inv Try.underlying3 hkey
          obtain rfl : x = x' := by injection ex
          have hx := HPK2.out.left hrg hlk
          have hng : ¬ (i : Int) + 1 < x := by omega
          have HX := Lib.hid hrg4
          have HL := Lib.hid (show w4.rangeLeft w.heap.size r < wx.rangeLeft w.heap.size r by rw [hrg4.left_eq, hrg.left_eq]; exact hlt4)
          have HBX := Lib.hid (hbx.grown hg4 hbx.size (fun j hj => by injection hj with hj; omega))
          clear hkey hlk hv hat hrg4 hlt4 hg4 hs4 hrg hbx hx ex
          simp only [id] at hen ⊢
          go_wp2_with fail
          go_roundw
          case rel => exact ⟨_, _, HX.out, HBX.out⟩
          case measure => exact HL.out
    · obtain rfl : i = m := by omega
      have hsz := HPK.out.size
      have hbs := HBW.out.size
      have hbl := HOW.out.lt
      clear hlt hi
      go_wp2_with fail
      refine (mkeys_any _ _).mono ?_
      rintro e w1 ⟨rfl, rfl⟩
      obtain ⟨W1, hW1⟩ : ∃ W, W = wr.alloc (.cells #[.map (some w.heap.size)] 102) := ⟨_, rfl⟩
      have HO1 := Lib.hid (show W1.ownsMap Try.prog 3 heldR w.heap.size i D by rw [hW1]; exact HOW.out.alloc _)
      have hc1 : W1.cell? ⟨wr.heap.size, 0, none⟩ = some (.map (some w.heap.size)) := by rw [hW1]; simp [go_sem]
      have hl1 : wr.heap.size < W1.heap.size := by rw [hW1]; simp
      have hb1 : Below w.heap.size w W1 := by rw [hW1]; exact HBW.out.alloc hbs _
      rw [← hW1]
      clear hW1
      go_wp2_with fail
      refine (msorted_any W1 wr.heap.size w.heap.size i D hl1 hc1 HO1.out (by omega)).mono ?_
      rintro e w2 ⟨v, ss, rfl, hperm, hrow, hb12⟩
      have hlen : ss.length = i := by rw [hperm.length_eq]; exact HPK.out.ints.1
      have hall : ∀ x ∈ ss, 1 ≤ x ∧ x ≤ (i : Int) := fun x hx => HPK.out.ints.2 x (hperm.mem_iff.1 hx)
      have HO2 := Lib.hid (ownsMap_below HO1.out hb12)
      have HB2 := Lib.hid (hb1.trans (hb12.mono hb1.size))
      obtain ⟨T, hT⟩ : ∃ T, ss.mergeSort (fun x y => decide (x ≤ y)) = T := ⟨_, rfl⟩
      have hTl : T.length = i := by rw [← hT, List.length_mergeSort, hlen]
      have hTm : ∀ x ∈ T, 1 ≤ x ∧ x ≤ (i : Int) := fun x hx => hall x (by rw [← hT] at hx; exact (List.mem_mergeSort).1 hx)
      rw [hlen, hT] at hrow
      have HTL := Lib.hid hTl
      have HTM := Lib.hid hTm
      have hform : ∃ VA vc, v = .slice VA i vc ∧ (0 < i → ∃ gv, VA = some ⟨gv, 0, none⟩ ∧ ∀ q, q < i → w2.cell? ⟨gv, q, none⟩ = some (.int .i64 (T.getD q 0))) := by
        rcases hrow.2 with ⟨hv, hn⟩ | ⟨gv, cap, cur, hv, _⟩
        · exact ⟨none, 0, by rw [hv, hn], fun h => by omega⟩
        · subst hv
          refine ⟨_, cap, rfl, fun _ => ⟨gv, rfl, fun q hq => ?_⟩⟩
          have := World.ownsRow.cells hrow (g := gv) rfl q (.int .i64 (T.getD q 0)) (by
            rw [List.getElem?_map, List.getElem?_eq_getElem (by omega), List.getD_eq_getElem?_getD, List.getElem?_eq_getElem (by omega)]
            rfl)
          simpa [Addr.add_lit] using this
      obtain ⟨VA, vc, rfl, hcells⟩ := hform
      have HC := Lib.hid hcells
      clear hperm hrow hb12 hlen hall hT hTl hTm hcells HO1 hb1 hc1 hl1
      go_wp2_with fail
      go_loopw [9, 45] (fun v9 v45 wx => ∃ (q : Nat) (B : Option Addr) (cB : Nat) (G : List Fr), q ≤ i ∧ v45 = .int .i64 (q : Int) ∧ v9 = .slice B q cB ∧ OwnF wx w2.heap.size B q cB G ∧ Below w2.heap.size w2 wx) (fun _ v45 _ => i - (intOf v45).toNat)
      case atStart => exact ⟨0, none, 0, [], Nat.zero_le _, rfl, rfl, OwnF.nil _ _, Below.refl _ _⟩
      case round =>
        rename World => wx
        obtain ⟨q, B, cB, G, hq, rfl, rfl, hof, hbx⟩ := hrel
        have HOF := Lib.hid hof
        have HBX := Lib.hid hbx
        clear hof hbx
        by_cases hqi : q < i
        · obtain ⟨gv, hva, hcell⟩ := HC.out (by omega)
          subst hva
          have hcq := (HBX.out.cell (p := ⟨gv, q, none⟩) (World.block_lt_of_cell? w2 ⟨gv, q, none⟩ (hcell q hqi))).trans (hcell q hqi)
          obtain ⟨x, hx⟩ : ∃ x, T.getD q 0 = x := ⟨_, rfl⟩
          have hxb : 1 ≤ x ∧ x ≤ (i : Int) := by
            refine HTM.out x ?_
            rw [← hx, List.getD_eq_getElem?_getD, List.getElem?_eq_getElem (by rw [HTL.out]; exact hqi)]
            exact List.getElem_mem _
          rw [hx] at hcq
          have hkey : keyOf Try.prog 3 (.int .i64 x) = some (.int .i64 x) := keyOf_int_mk Try.underlying3 (by simp [Lit.wf, IntKind.min, IntKind.max, IntKind.signed, IntKind.bits]; omega)
          obtain ⟨v, ps, hrun, hv⟩ := (ownsMap_below HO2.out HBX.out).lookup law_int Try.underlying102 (zeroF_run wx) (show heldR zeroF = some (.held zeroF, []) from rfl) hkey
          obtain ⟨u, hu, hok⟩ := HPK.out.at (.int .i64 x)
          obtain rfl : v = u := by
            rw [hu] at hv
            injection hv with hv
            injection hv with hv _
            injection hv
          obtain ⟨pg, cm, A1, n1, c1, l1, rfl, hl1, hn1, hnc1, hcm1, hrd1⟩ := hok
          subst hl1
          have HRD := Lib.hid ((hrd1.keep HB2.out).keep HBX.out)
          have HN1 := Lib.hid hn1
          have hqi' : (q : Int) < (i : Int) := by omega
          have q00 : (0 : Int) ≤ (q : Int) := by omega
          clear hkey hv hu hrd1 hx hxb hcell hn1 hnc1 hcm1
          go_upto_region 20 with fail
          obtain ⟨W5, hW5⟩ : ∃ W, W = wx.alloc (.cells #[.int .i64 pg, .int .i64 cm, .slice A1 l1.length c1] 53) := ⟨_, rfl⟩
          have hb5 : Below wx.heap.size wx W5 := by rw [hW5]; exact (Below.refl _ _).alloc (Nat.le_refl _) _
          have HF5 := Lib.hid (show FrAt W5 wx.heap.size pg cm A1 l1.length c1 by rw [hW5]; exact ⟨by simp [go_sem], by simp [go_sem], by simp [go_sem]⟩)
          have HT5 := Lib.hid (show W5.there wx.heap.size 0 3 by rw [hW5]; exact there_new3F _ _ _ _ _)
          have hl5 : wx.heap.size < W5.heap.size := by rw [hW5]; simp
          rw [← hW5]
          have HRD5 := Lib.hid (HRD.out.keep hb5)
          have k2 := HF5.out.2.2
          obtain ⟨g5, hg5⟩ : ∃ g, wx.heap.size = g := ⟨_, rfl⟩
          have HG5 := Lib.hid hg5
          rw [hg5] at HF5 HT5 hl5 k2 ⊢
          clear hW5 hrun hcq hg5
          go_wp2_with fail
          refine (bclone_any W5 A1 l1.length c1 l1 rfl HN1.out HRD5.out).mono ?_
          rintro e w6 ⟨B2, d2, rfl, hown6, hb6⟩
          have HF6 := Lib.hid (HF5.out.keepF hb6)
          have HT6 := Lib.hid (there_keep HT5.out hb6 hl5)
          have HO6 := Lib.hid hown6
          have m2 := HF6.out.2.2
          have f2 : w6.frozen? ⟨g5, 2, none⟩ = false := by have := (HT6.out 2 (by decide)).2; simpa using this
          clear hown6 k2
          go_upto_region 21 with fail
          obtain ⟨w7, hw7⟩ : ∃ W, W = w6.setCell ⟨g5, 2, none⟩ (.slice B2 l1.length d2) := ⟨_, rfl⟩
          have hb57 : Below g5 W5 w7 := by rw [hw7]; exact (hb6.mono (Nat.le_of_lt hl5)).setCell (p := ⟨g5, 2, none⟩) (Nat.le_refl _) _
          have hbx7 : Below wx.heap.size wx w7 := hb5.trans (by rw [HG5.out]; exact hb57)
          have HF7 := Lib.hid (show FrAt w7 g5 pg cm B2 l1.length d2 by
            rw [hw7]
            exact ⟨(World.cell?_setCell_other _ _ _ _ (by simp)).trans HF6.out.1, (World.cell?_setCell_other _ _ _ _ (by simp)).trans HF6.out.2.1, World.cell?_setCell_same _ _ _ HF6.out.2.2⟩)
          have HO7 := Lib.hid (show OwnB w7 W5.heap.size B2 l1.length d2 l1 by rw [hw7]; exact HO6.out.mut (Mut.set _ _ _ _) hl5)
          have HOF7 := Lib.hid (HOF.out.keep hbx7)
          have hsx := HBX.out.size
          have hs7 := hbx7.size
          have hg5e := HG5.out
          have HB7 := Lib.hid (HBX.out.trans (hbx7.mono hsx))
          rw [← hw7]
          clear hw7 m2 f2 hb6 hb57 HT6 HF6 HO6
          iterate 4 go_step
          refine wp_load_fr rfl _ rfl g5 pg cm B2 l1.length d2 rfl HF7.out ?_
          iterate 3 go_step
          have hW8 : Below w7.heap.size w7 (w7.alloc (.cells #[.int .i64 pg, .int .i64 cm, .slice B2 l1.length d2] 53)) := (Below.refl _ _).alloc (Nat.le_refl _) _
          refine wp_append_frg rfl (.tmp 56) (.tmp 58) rfl w2.heap.size B q cB G rfl (HOF7.out.keep hW8) w7.heap.size _ ⟨pg, cm, l1⟩ B2 d2 rfl (by simp [go_sem]) (by simp [go_sem]) (by simp [go_sem]) ((HO7.out.keep hW8).mono (by omega)) (by omega) (by simp [go_sem]; omega) ?_
          intro B9 c9 w9 hof9 _ hb9 _
          have HOF9 := Lib.hid hof9
          have HB9 := Lib.hid ((HB7.out.alloc (by omega) _).trans hb9)
          clear hof9 hb9 hW8
          go_wp2_with fail
          go_roundw
          case rel => exact ⟨q + 1, B9, c9, _, hqi, by go_num, rfl, HOF9.out, HB9.out⟩
          case measure => simp [intOf]; omega
        · obtain rfl : q = i := by omega
          have HX := Lib.hid (HB2.out.trans (HBX.out.mono HB2.out.size))
          clear hqi
          go_wp2_with fail
          rw [HR.out]
          exact ⟨B, cB, rfl, HX.out⟩
end
end Go.Proofs.Ytlehpgokjppccaa
