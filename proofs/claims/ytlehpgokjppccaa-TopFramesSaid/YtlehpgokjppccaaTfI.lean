/- Several texts of this proof as one: WfF. Laid by merge.py. -/
import Derived.Test.YtlehpgokjppccaaTfA
import Derived.Test.YtlehpgokjppccaaTfB
import Derived.Test.YtlehpgokjppccaaTfC
import Derived.Test.YtlehpgokjppccaaTfD
import Derived.Test.YtlehpgokjppccaaTfF
import Derived.Test.YtlehpgokjppccaaTfH
import Derived.ArgAppend
import Derived.BigQuiet
import Derived.ChangeKeysEq
import Derived.Deep.DeepCutAuto
import Derived.Deep.MidRow
import Derived.Deep.QuietTactic
import Derived.Deep.RegionHeld3
import Derived.Deep.RegionLaw
import Derived.Handy
import Derived.Laws.Externs
import Derived.Laws.ResultCell
import Derived.Lib.AppendStr
import Derived.Lib.Hide
import Derived.Lib.MakeNoZero
import Derived.Lib.SlBuf
import Derived.Lib.SliceRun
import Derived.Lib.SmallJoins
import Derived.Maps.AppendAt
import Derived.Test.YtlehpgokjppccaaProg
import Derived.WalkKit
import Derived.WalkMore
import Derived.WalkSpells
namespace Go.Proofs.Ytlehpgokjppccaa
section
open Go.RowKit
set_option maxRecDepth 100000
set_option linter.unusedVariables false
set_option linter.unusedSimpArgs false
set_option linter.unnecessarySimpa false
theorem we_reads {l t : List Int} {a : Nat} {p : Int} {f : Fr} {s : Nat} (hf : okW s f) (hp : 0 ≤ p ∧ p ≤ 18446744073709551615) (hd : l.drop a = wEnt p f.pg f.cm f.b ++ t) :
    a + 16 + s ≤ l.length ∧ readL l (a : Int) 4 = (f.pg, 0) ∧ readL l ((a : Int) + 4) 4 = (f.cm, 0) ∧ readL l ((a : Int) + 8) 8 = (lnk p f.pg f.cm f.b, 0) ∧ (l.drop (a + 16)).take s = f.b := by
  obtain ⟨h1, h2, h3, h4, h5, h6⟩ := hf
  have hlen := congrArg List.length hd
  rw [List.length_drop, List.length_append, wEnt_length, h5] at hlen
  have hl : a + 16 + s ≤ l.length := by omega
  have e : ∀ k, l.drop (a + k) = (wEnt p f.pg f.cm f.b ++ t).drop k := fun k => by rw [← hd, List.drop_drop]
  have w : wEnt p f.pg f.cm f.b ++ t = fxL f.pg 4 ++ (fxL f.cm 4 ++ (fxL (lnk p f.pg f.cm f.b) 8 ++ (f.b ++ t))) := by simp [wEnt]
  have l4 : ∀ x : Int, (fxL x 4).length = 4 := fun x => fxL_length x 4
  have l8 : ∀ x : Int, (fxL x 8).length = 8 := fun x => fxL_length x 8
  have d4 : l.drop (a + 4) = fxL f.cm 4 ++ (fxL (lnk p f.pg f.cm f.b) 8 ++ (f.b ++ t)) := by rw [e 4, w, List.drop_left' (l4 _)]
  have d8 : l.drop (a + 8) = fxL (lnk p f.pg f.cm f.b) 8 ++ (f.b ++ t) := by rw [show a + 8 = a + 4 + 4 by omega, ← List.drop_drop, d4, List.drop_left' (l4 _)]
  have d16 : l.drop (a + 16) = f.b ++ t := by rw [show a + 16 = a + 8 + 8 by omega, ← List.drop_drop, d8, List.drop_left' (l8 _)]
  refine ⟨hl, ?_, ?_, ?_, ?_⟩
  · exact read_at l a 4 f.pg (by omega) (by decide) (by decide) (by rw [hd, w, List.take_left' (l4 _), beI_fx4 (by omega)])
  · have := read_at l (a + 4) 4 f.cm (by omega) (by decide) (by decide) (by rw [d4, List.take_left' (l4 _), beI_fx4 (by omega)])
    simpa using this
  · have := read_at l (a + 8) 8 (lnk p f.pg f.cm f.b) (by omega) (by decide) (by decide) (by rw [d8, List.take_left' (l8 _), beI_fx8 (lnk_bd hp _ _ _)])
    simpa using this
  · rw [d16, List.take_left' h5]

theorem Mut.setAt {w W : World} {gb b : Nat} (h : Mut w gb W) (hb : w.heap.size ≤ b ∨ b = gb) (o : Nat) (v : Value) : Mut w gb (W.setCell ⟨b, o, none⟩ v) :=
  ⟨h.os, h.tape, h.output, by simpa [World.setCell] using h.size, fun k hk hne => by
    unfold World.setCell
    rw [Array.getElem?_modify, if_neg (show ¬ b = k by omega)]
    exact h.block k hk hne⟩
theorem Mut.setsAt {w W : World} {gb b : Nat} (h : Mut w gb W) (hb : w.heap.size ≤ b ∨ b = gb) : ∀ (o : Nat) (vs : List Value), Mut w gb (W.setCells b o vs)
  | _, [] => h
  | o, v :: r => Mut.setsAt (h.setAt hb o v) hb (o + 1) r
theorem OwnB.mutN {w w' : World} {gb base n c : Nat} {A : Option Addr} {l : List Int} (h : OwnB w base A n c l) (hm : Mut w gb w') (hg : ∀ a, A = some a → a.block ≠ gb) : OwnB w' base A n c l := by
  refine ⟨h.1, ?_⟩
  rcases h.2 with hv | ⟨g, cap, cur, hv, hbg, hgg, rest⟩
  · exact .inl hv
  · have e1 : A = some ⟨g, 0, none⟩ := by injection hv
    exact .inr ⟨g, cap, cur, hv, hbg, (hm.block g (Array.getElem?_eq_some_iff.1 hgg).1 (hg _ e1)).trans hgg, rest⟩
theorem OwnB.blkA {w : World} {base n c : Nat} {A : Option Addr} {l : List Int} (h : OwnB w base A n c l) : ∀ a, A = some a → base ≤ a.block ∧ a.block < w.heap.size := by
  intro a ha
  subst ha
  rcases h.2 with ⟨hv, _⟩ | ⟨g, cap, cur, hv, hbg, hgg, rest⟩
  · cases hv
  · have e1 : some a = some (⟨g, 0, none⟩ : Addr) := by injection hv
    injection e1 with e1
    subst e1
    exact ⟨hbg, (Array.getElem?_eq_some_iff.1 hgg).1⟩
theorem FrAt.mutF {w w' : World} {g gb : Nat} {pg cm : Int} {A : Option Addr} {m c : Nat} (h : FrAt w g pg cm A m c) (hm : Mut w gb w') (hne : g ≠ gb) : FrAt w' g pg cm A m c :=
  ⟨(hm.cell (World.block_lt_of_cell? _ _ h.1) hne).trans h.1, (hm.cell (World.block_lt_of_cell? _ _ h.2.1) hne).trans h.2.1, (hm.cell (World.block_lt_of_cell? _ _ h.2.2) hne).trans h.2.2⟩
theorem there_mut {w w' : World} {g gb n : Nat} (h : w.there g 0 n) (hm : Mut w gb w') (hg : g < w.heap.size) (hne : g ≠ gb) : w'.there g 0 n := fun j hj => by
  obtain ⟨h1, h2⟩ := h j hj
  have e := hm.block g hg hne
  refine ⟨by rw [show w'.cell? ⟨g, 0 + j, none⟩ = w.cell? ⟨g, 0 + j, none⟩ by unfold World.cell?; rw [e]]; exact h1, ?_⟩
  rw [show w'.frozen? ⟨g, 0 + j, none⟩ = w.frozen? ⟨g, 0 + j, none⟩ by unfold World.frozen?; rw [e]]; exact h2
theorem RdrAt.mutR {w w' : World} {g gb n c : Nat} {A : Option Addr} {at_ s p k : Int} (h : RdrAt w g A n c at_ s p k) (hm : Mut w gb w') (hne : g ≠ gb) : RdrAt w' g A n c at_ s p k := ⟨(hm.block g h.lt hne).trans h.head⟩

set_option maxHeartbeats 16000000 in
theorem wframe_next (w : World) (g : Nat) (A : Option Addr) (n c a s : Nat) (p k : Int) (f : Fr) (l t : List Int) (hr : RdrAt w g A n c a s p k) (hn : l.length = n) (hnc : n ≤ c) (hcm : c ≤ maxLen) (hA : Rd w A l) (hB : IsB l) (hs : isSize (s : Int)) (hf : okW s f) (hp : 0 ≤ p ∧ p ≤ 18446744073709551615)
    (hd : l.drop a = wEnt p f.pg f.cm f.b ++ t) (hn1 : n ≤ 1000000) (R : Ending → World → Prop)
    (hR : R = fun e w' => ∃ B d, e = .returned (.tuple #[.agg #[.int .i64 f.pg, .int .i64 f.cm, .slice B s d], .bool true]) ∧ OwnB w' w.heap.size B s d f.b ∧ RdrAt w' g A n c ((a : Int) + 16 + (s : Int)) s (lnk p f.pg f.cm f.b) k ∧ Mut w g w') :
    Calls Try.prog 55 #[.pointer (some ⟨g, 0, none⟩)] w R := by
  have HR := Lib.hid hR; clear hR
  obtain ⟨hend, r1, r2, r3, hcutL⟩ := we_reads hf hp hd
  rw [hn] at hend
  have h48 : s ≤ 4096 := by unfold isSize at hs; omega
  obtain ⟨o1, o2, o3, o4, o5, o6⟩ := hf
  have HS := Lib.hid hs
  have HFB := Lib.hid o6
  have HFL := Lib.hid o5
  have HP := Lib.hid hp
  have HN := Lib.hid hn
  have HNC := Lib.hid hnc
  have HCM := Lib.hid hcm
  have HB := Lib.hid hB
  have HR1 := Lib.hid r1
  have HR2 := Lib.hid r2
  have HR3 := Lib.hid r3
  have HCUT := Lib.hid hcutL
  have hcc : c ≤ 9223372036854775807 := by unfold maxLen at hcm; omega
  have hsl : ∀ W : World, (Instr.slice 24 (.slice A n c) (some (.int .i64 ((a : Int) + 16))) (some (.int .i64 ((a : Int) + 16 + (s : Int)))) none).run Try.prog W = .ok (.slice (cutA A c (a + 16)) s (c - (a + 16))) W := fun W => by
    have := run_cut A n c (a + 16) s (by omega) W
    simpa using this
  obtain ⟨W0, hW0⟩ : ∃ W, W = w.alloc (.cells #[.int .i64 0, .int .i64 0, .slice none 0 0] 53) := ⟨_, rfl⟩
  have hb0 : Below w.heap.size w W0 := by rw [hW0]; exact (Below.refl _ _).alloc (Nat.le_refl _) _
  have HT := Lib.hid (show W0.there w.heap.size 0 3 by rw [hW0]; exact there_new3F w _ _ _ _)
  have hl0 : w.heap.size < W0.heap.size := by rw [hW0]; simp
  have HL := Lib.hid hl0
  have HD := Lib.hid (hr.keep hb0)
  have HA := Lib.hid (hA.keep hb0)
  have HGL := Lib.hid hr.lt
  have HW := Lib.hid hW0
  have K0 : ∀ W : World, Below W0.heap.size W0 W → W.cell? ⟨g, 0, none⟩ = some (.slice A n c) := fun W hW => (HD.out.keep hW).c0
  have K1 : ∀ W : World, Below W0.heap.size W0 W → W.cell? ⟨g, 1, none⟩ = some (.int .i64 (a : Int)) := fun W hW => (HD.out.keep hW).c1
  have K2 : ∀ W : World, Below W0.heap.size W0 W → W.cell? ⟨g, 2, none⟩ = some (.int .i64 (s : Int)) := fun W hW => (HD.out.keep hW).c2
  have K3 : ∀ W : World, Below W0.heap.size W0 W → W.cell? ⟨g, 3, none⟩ = some (.int .u64 p) := fun W hW => (HD.out.keep hW).c3
  have hw1 : IntKind.i64.wrap ((a : Int) + 16) = (a : Int) + 16 := IntWalk.i64_in _ (by omega)
  have hw2 : IntKind.i64.wrap ((a : Int) + 16 + (s : Int)) = (a : Int) + 16 + (s : Int) := IntWalk.i64_in _ (by omega)
  have hw3 : IntKind.i64.wrap ((a : Int) + 4) = (a : Int) + 4 := IntWalk.i64_in _ (by omega)
  have hw4 : IntKind.i64.wrap ((a : Int) + 8) = (a : Int) + 8 := IntWalk.i64_in _ (by omega)
  have hgt : ¬ (n : Int) < (a : Int) + 16 + (s : Int) := by omega
  have ia : -9223372036854775808 ≤ (a : Int) ∧ (a : Int) ≤ 9223372036854775807 := by omega
  have ia4 : -9223372036854775808 ≤ (a : Int) + 4 ∧ (a : Int) + 4 ≤ 9223372036854775807 := by omega
  have ia8 : -9223372036854775808 ≤ (a : Int) + 8 ∧ (a : Int) + 8 ≤ 9223372036854775807 := by omega
  clear hW0 hr hl0 hn hs hend r1 r2 r3 hcutL hd hA hB hp o5 o6 hnc hcm
  obtain ⟨FB, hFB⟩ : ∃ x, f.b = x := ⟨_, rfl⟩
  obtain ⟨pg, hpg⟩ : ∃ x, f.pg = x := ⟨_, rfl⟩
  obtain ⟨cm, hcm⟩ : ∃ x, f.cm = x := ⟨_, rfl⟩
  rw [hFB] at HFB HFL HR3 HCUT HR
  rw [hpg] at o1 o2 HR1 HR3 HR
  rw [hcm] at o3 o4 HR2 HR3 HR
  clear hFB hpg hcm
  have hpw : IntKind.i64.wrap pg = pg := IntWalk.i64_in _ (by omega)
  have hcw : IntKind.i64.wrap cm = cm := IntWalk.i64_in _ (by omega)
  have HZ := Lib.hid (show s ≤ 1000000 by omega)
  have HPB := Lib.hid (show 0 ≤ pg ∧ pg ≤ 4294967295 by omega)
  have HCB := Lib.hid (show 0 ≤ cm ∧ cm ≤ 4294967295 by omega)
  have HPB2 := Lib.hid (show 1 ≤ pg ∧ pg ≤ 1048576 by omega)
  have HCB2 := Lib.hid (show 0 ≤ cm ∧ cm ≤ 1048576 by omega)
  have HCL := Lib.hid (show l.length ≤ c by rw [HN.out]; exact HNC.out)
  clear o1 o2 o3 o4
  obtain ⟨g0, hg0⟩ : ∃ g, w.heap.size = g := ⟨_, rfl⟩
  have HG := Lib.hid hg0
  go_enter Try.func55, Try.ntmps55
  go_upto_region 1 with fail
  rw [← HW.out]
  rw [hg0] at HT HL
  clear HW hg0
  refine wp_region_held_drew (S := (fun W => Below W0.heap.size W0 W)) (by kernel_rfl) ?_ (fun hHeld => ?_)
  · exact (Below.refl _ W0).drew
  refine' wpAnyH_take (i := 0) (oi := _) (v := _) rfl (by kernel_rfl) (by kernel_rfl) (by kernel_rfl) (fun _ _ _ h => h) (Or.inl ⟨by rfl, ?hz1⟩) (by assumption) ?rezt1
  case hz1 => (intro w' hSw; (try dsimp only at hSw); go_simp; try with_reducible rfl)
  try simp only [Act.put, List.setIfInBounds_toArray, List.set_cons_zero, List.set_cons_succ, List.getElem_toArray, List.getElem_cons_zero, List.getElem_cons_succ]
  refine' wpAnyH_take (i := 1) (oi := _) (v := _) rfl (by kernel_rfl) (by kernel_rfl) (by kernel_rfl) (fun _ _ _ h => h) (Or.inl ⟨by rfl, ?hz2⟩) (by assumption) ?rezt2
  case hz2 => (intro w' hSw; (try dsimp only at hSw); go_simp; try with_reducible rfl)
  try simp only [Act.put, List.setIfInBounds_toArray, List.set_cons_zero, List.set_cons_succ, List.getElem_toArray, List.getElem_cons_zero, List.getElem_cons_succ]
  refine' wpAnyH_take (i := 2) (oi := _) (v := _) rfl (by kernel_rfl) (by kernel_rfl) (by kernel_rfl) (fun _ _ _ h => h) (Or.inl ⟨by rfl, ?hz3⟩) (by assumption) ?rezt3
  case hz3 => (intro w' hSw; (try dsimp only at hSw); go_simp; try with_reducible rfl)
  try simp only [Act.put, List.setIfInBounds_toArray, List.set_cons_zero, List.set_cons_succ, List.getElem_toArray, List.getElem_cons_zero, List.getElem_cons_succ]
  refine' wpAnyH_take (i := 3) (oi := _) (v := _) rfl (by kernel_rfl) (by kernel_rfl) (by kernel_rfl) (fun _ _ _ h => h) (Or.inl ⟨by rfl, ?hz4⟩) (by assumption) ?rezt4
  case hz4 => (intro w' hSw; (try dsimp only at hSw); go_simp; try with_reducible rfl)
  try simp only [Act.put, List.setIfInBounds_toArray, List.set_cons_zero, List.set_cons_succ, List.getElem_toArray, List.getElem_cons_zero, List.getElem_cons_succ]
  refine' wpAnyH_take (i := 4) (oi := _) (v := _) rfl (by kernel_rfl) (by kernel_rfl) (by kernel_rfl) (fun _ _ _ h => h) (Or.inl ⟨by rfl, ?hz5⟩) (by assumption) ?rezt5
  case hz5 => (intro w' hSw; (try dsimp only at hSw); go_simp; try with_reducible rfl)
  try simp only [Act.put, List.setIfInBounds_toArray, List.set_cons_zero, List.set_cons_succ, List.getElem_toArray, List.getElem_cons_zero, List.getElem_cons_succ]
  refine' wpAnyH_take (i := 5) (oi := _) (v := _) rfl (by kernel_rfl) (by kernel_rfl) (by kernel_rfl) (fun _ _ _ h => h) (Or.inl ⟨by rfl, ?hz6⟩) (by assumption) ?rezt6
  case hz6 => (intro w' hSw; (try dsimp only at hSw); go_simp; try with_reducible rfl)
  try simp only [Act.put, List.setIfInBounds_toArray, List.set_cons_zero, List.set_cons_succ, List.getElem_toArray, List.getElem_cons_zero, List.getElem_cons_succ]
  refine' wpAnyH_take (i := 6) (oi := _) (v := _) rfl (by kernel_rfl) (by kernel_rfl) (by kernel_rfl) (fun _ _ _ h => h) (Or.inl ⟨by rfl, ?hz7⟩) (by assumption) ?rezt7
  case hz7 => (intro w' hSw; (try dsimp only at hSw); go_simp; try with_reducible rfl)
  try simp only [Act.put, List.setIfInBounds_toArray, List.set_cons_zero, List.set_cons_succ, List.getElem_toArray, List.getElem_cons_zero, List.getElem_cons_succ]
  refine' wpAnyH_take (i := 7) (oi := _) (v := _) rfl (by kernel_rfl) (by kernel_rfl) (by kernel_rfl) (fun _ _ _ h => h) (Or.inl ⟨by rfl, ?hz8⟩) (by assumption) ?rezt8
  case hz8 => (intro w' hSw; (try dsimp only at hSw); go_simp; try with_reducible rfl)
  try simp only [Act.put, List.setIfInBounds_toArray, List.set_cons_zero, List.set_cons_succ, List.getElem_toArray, List.getElem_cons_zero, List.getElem_cons_succ]
  refine' wpAnyH_take (i := 8) (oi := _) (v := _) rfl (by kernel_rfl) (by kernel_rfl) (by kernel_rfl) (fun _ _ _ h => h) (Or.inl ⟨by rfl, ?hz9⟩) (by assumption) ?rezt9
  case hz9 => (intro w' hSw; (try dsimp only at hSw); go_simp; try with_reducible rfl)
  try simp only [Act.put, List.setIfInBounds_toArray, List.set_cons_zero, List.set_cons_succ, List.getElem_toArray, List.getElem_cons_zero, List.getElem_cons_succ]
  refine' wpAnyH_take (i := 9) (oi := _) (v := _) rfl (by kernel_rfl) (by kernel_rfl) (by kernel_rfl) (fun _ _ _ h => h) (Or.inl ⟨by rfl, ?hz10⟩) (by assumption) ?rezt10
  case hz10 => (intro w' hSw; (try dsimp only at hSw); go_simp; try with_reducible rfl)
  try simp only [Act.put, List.setIfInBounds_toArray, List.set_cons_zero, List.set_cons_succ, List.getElem_toArray, List.getElem_cons_zero, List.getElem_cons_succ]
  refine' wpAnyH_take (i := 10) (oi := _) (v := _) rfl (by kernel_rfl) (by kernel_rfl) (by kernel_rfl) (fun _ _ _ h => h) (Or.inl ⟨by rfl, ?hz11⟩) (by assumption) ?rezt11
  case hz11 => (intro w' hSw; (try dsimp only at hSw); go_simp; try with_reducible rfl)
  try simp only [Act.put, List.setIfInBounds_toArray, List.set_cons_zero, List.set_cons_succ, List.getElem_toArray, List.getElem_cons_zero, List.getElem_cons_succ]
  refine wpAnyH_done (by kernel_rfl) ?_ _
  have m0 := K0 _ hHeld
  have hb1 := hHeld
  clear hHeld
  obtain ⟨W1, hW1⟩ : ∃ W, W = W0.drew := ⟨_, rfl⟩
  rw [← hW1] at hb1 m0 ⊢
  clear hW1
  go_upto_region 4 with fail
  refine wp_region_held_drew (S := (fun W => Below W0.heap.size W0 W)) (by kernel_rfl) ?_ (fun hHeld => ?_)
  · exact hb1.drew
  refine' wpAnyH_take (i := 0) (oi := _) (v := _) rfl (by kernel_rfl) (by kernel_rfl) (by kernel_rfl) (fun _ _ _ h => h) (Or.inl ⟨by rfl, ?hz12⟩) (by assumption) ?rezt12
  case hz12 => (intro w' hSw; (try dsimp only at hSw); go_simp; try with_reducible rfl)
  try simp only [Act.put, List.setIfInBounds_toArray, List.set_cons_zero, List.set_cons_succ, List.getElem_toArray, List.getElem_cons_zero, List.getElem_cons_succ]
  refine' wpAnyH_take (i := 1) (oi := _) (v := _) rfl (by kernel_rfl) (by kernel_rfl) (by kernel_rfl) (fun _ _ _ h => h) (Or.inl ⟨by rfl, ?hz13⟩) (by assumption) ?rezt13
  case hz13 => (intro w' hSw; (try dsimp only at hSw); go_simp; try with_reducible rfl)
  try simp only [Act.put, List.setIfInBounds_toArray, List.set_cons_zero, List.set_cons_succ, List.getElem_toArray, List.getElem_cons_zero, List.getElem_cons_succ]
  refine' wpAnyH_take (i := 2) (oi := _) (v := _) rfl (by kernel_rfl) (by kernel_rfl) (by kernel_rfl) (fun _ _ _ h => h) (Or.inl ⟨by rfl, ?hz14⟩) (by assumption) ?rezt14
  case hz14 => (intro w' hSw; (try dsimp only at hSw); go_simp; try with_reducible rfl)
  try simp only [Act.put, List.setIfInBounds_toArray, List.set_cons_zero, List.set_cons_succ, List.getElem_toArray, List.getElem_cons_zero, List.getElem_cons_succ]
  refine' wpAnyH_take (i := 3) (oi := _) (v := _) rfl (by kernel_rfl) (by kernel_rfl) (by kernel_rfl) (fun _ _ _ h => h) (Or.inl ⟨by rfl, ?hz15⟩) (by assumption) ?rezt15
  case hz15 => (intro w' hSw; (try dsimp only at hSw); go_simp; try with_reducible rfl)
  try simp only [Act.put, List.setIfInBounds_toArray, List.set_cons_zero, List.set_cons_succ, List.getElem_toArray, List.getElem_cons_zero, List.getElem_cons_succ]
  refine' wpAnyH_take (i := 4) (oi := _) (v := _) rfl (by kernel_rfl) (by kernel_rfl) (by kernel_rfl) (fun _ _ _ h => h) (Or.inl ⟨by rfl, ?hz16⟩) (by assumption) ?rezt16
  case hz16 => (intro w' hSw; (try dsimp only at hSw); go_simp; try with_reducible rfl)
  try simp only [Act.put, List.setIfInBounds_toArray, List.set_cons_zero, List.set_cons_succ, List.getElem_toArray, List.getElem_cons_zero, List.getElem_cons_succ]
  refine' wpAnyH_take (i := 7) (oi := _) (v := _) rfl (by kernel_rfl) (by kernel_rfl) (by kernel_rfl) (fun _ _ _ h => h) (Or.inl ⟨by rfl, ?hz17⟩) (by assumption) ?rezt17
  case hz17 => (intro w' hSw; (try dsimp only at hSw); go_simp; try with_reducible rfl)
  try simp only [Act.put, List.setIfInBounds_toArray, List.set_cons_zero, List.set_cons_succ, List.getElem_toArray, List.getElem_cons_zero, List.getElem_cons_succ]
  refine' wpAnyH_take (i := 8) (oi := _) (v := _) rfl (by kernel_rfl) (by kernel_rfl) (by kernel_rfl) (fun _ _ _ h => h) (Or.inl ⟨by rfl, ?hz18⟩) (by assumption) ?rezt18
  case hz18 => (intro w' hSw; (try dsimp only at hSw); go_simp; try with_reducible rfl)
  try simp only [Act.put, List.setIfInBounds_toArray, List.set_cons_zero, List.set_cons_succ, List.getElem_toArray, List.getElem_cons_zero, List.getElem_cons_succ]
  refine' wpAnyH_take (i := 9) (oi := _) (v := _) rfl (by kernel_rfl) (by kernel_rfl) (by kernel_rfl) (fun _ _ _ h => h) (Or.inl ⟨by rfl, ?hz19⟩) (by assumption) ?rezt19
  case hz19 => (intro w' hSw; (try dsimp only at hSw); go_simp; try with_reducible rfl)
  try simp only [Act.put, List.setIfInBounds_toArray, List.set_cons_zero, List.set_cons_succ, List.getElem_toArray, List.getElem_cons_zero, List.getElem_cons_succ]
  refine' wpAnyH_take (i := 10) (oi := _) (v := _) rfl (by kernel_rfl) (by kernel_rfl) (by kernel_rfl) (fun _ _ _ h => h) (Or.inl ⟨by rfl, ?hz20⟩) (by assumption) ?rezt20
  case hz20 => (intro w' hSw; (try dsimp only at hSw); go_simp; try with_reducible rfl)
  try simp only [Act.put, List.setIfInBounds_toArray, List.set_cons_zero, List.set_cons_succ, List.getElem_toArray, List.getElem_cons_zero, List.getElem_cons_succ]
  refine' wpAnyH_take (i := 11) (oi := _) (v := _) rfl (by kernel_rfl) (by kernel_rfl) (by kernel_rfl) (fun _ _ _ h => h) (Or.inl ⟨by rfl, ?hz21⟩) (by assumption) ?rezt21
  case hz21 => (intro w' hSw; (try dsimp only at hSw); go_simp; try with_reducible rfl)
  try simp only [Act.put, List.setIfInBounds_toArray, List.set_cons_zero, List.set_cons_succ, List.getElem_toArray, List.getElem_cons_zero, List.getElem_cons_succ]
  refine' wpAnyH_take (i := 12) (oi := _) (v := _) rfl (by kernel_rfl) (by kernel_rfl) (by kernel_rfl) (fun _ _ _ h => h) (Or.inl ⟨by rfl, ?hz22⟩) (by assumption) ?rezt22
  case hz22 => (intro w' hSw; (try dsimp only at hSw); go_simp; try with_reducible rfl)
  try simp only [Act.put, List.setIfInBounds_toArray, List.set_cons_zero, List.set_cons_succ, List.getElem_toArray, List.getElem_cons_zero, List.getElem_cons_succ]
  refine' wpAnyH_take (i := 15) (oi := _) (v := _) rfl (by kernel_rfl) (by kernel_rfl) (by kernel_rfl) (fun _ _ _ h => h) (Or.inl ⟨by rfl, ?hz23⟩) (by assumption) ?rezt23
  case hz23 => (intro w' hSw; (try dsimp only at hSw); go_simp; try with_reducible rfl)
  try simp only [Act.put, List.setIfInBounds_toArray, List.set_cons_zero, List.set_cons_succ, List.getElem_toArray, List.getElem_cons_zero, List.getElem_cons_succ]
  refine' wpAnyH_take (i := 16) (oi := _) (v := _) rfl (by kernel_rfl) (by kernel_rfl) (by kernel_rfl) (fun _ _ _ h => h) (Or.inl ⟨by rfl, ?hz24⟩) (by assumption) ?rezt24
  case hz24 => (intro w' hSw; (try dsimp only at hSw); go_simp; try with_reducible rfl)
  try simp only [Act.put, List.setIfInBounds_toArray, List.set_cons_zero, List.set_cons_succ, List.getElem_toArray, List.getElem_cons_zero, List.getElem_cons_succ]
  refine' wpAnyH_take (i := 17) (oi := _) (v := _) rfl (by kernel_rfl) (by kernel_rfl) (by kernel_rfl) (fun _ _ _ h => h) (Or.inl ⟨by rfl, ?hz25⟩) (by assumption) ?rezt25
  case hz25 => (intro w' hSw; (try dsimp only at hSw); go_simp; try with_reducible rfl)
  try simp only [Act.put, List.setIfInBounds_toArray, List.set_cons_zero, List.set_cons_succ, List.getElem_toArray, List.getElem_cons_zero, List.getElem_cons_succ]
  refine' wpAnyH_take (i := 18) (oi := _) (v := _) rfl (by kernel_rfl) (by kernel_rfl) (by kernel_rfl) (fun _ _ _ h => h) (Or.inl ⟨by rfl, ?hz26⟩) (by assumption) ?rezt26
  case hz26 => (intro w' hSw; (try dsimp only at hSw); go_simp; try with_reducible rfl)
  try simp only [Act.put, List.setIfInBounds_toArray, List.set_cons_zero, List.set_cons_succ, List.getElem_toArray, List.getElem_cons_zero, List.getElem_cons_succ]
  refine' wpAnyH_take (i := 19) (oi := _) (v := _) rfl (by kernel_rfl) (by kernel_rfl) (by kernel_rfl) (fun _ _ _ h => h) (Or.inl ⟨by rfl, ?hz27⟩) (by assumption) ?rezt27
  case hz27 => (intro w' hSw; (try dsimp only at hSw); go_simp; try with_reducible rfl)
  try simp only [Act.put, List.setIfInBounds_toArray, List.set_cons_zero, List.set_cons_succ, List.getElem_toArray, List.getElem_cons_zero, List.getElem_cons_succ]
  refine' wpAnyH_take (i := 20) (oi := _) (v := _) rfl (by kernel_rfl) (by kernel_rfl) (by kernel_rfl) (fun _ _ _ h => h) (Or.inl ⟨by rfl, ?hz28⟩) (by assumption) ?rezt28
  case hz28 => (intro w' hSw; (try dsimp only at hSw); go_simp; try with_reducible rfl)
  try simp only [Act.put, List.setIfInBounds_toArray, List.set_cons_zero, List.set_cons_succ, List.getElem_toArray, List.getElem_cons_zero, List.getElem_cons_succ]
  refine' wpAnyH_take (i := 21) (oi := _) (v := _) rfl (by kernel_rfl) (by kernel_rfl) (by kernel_rfl) (fun _ _ _ h => h) (Or.inl ⟨by rfl, ?hz29⟩) (by assumption) ?rezt29
  case hz29 => (intro w' hSw; (try dsimp only at hSw); go_simp; try with_reducible rfl)
  try simp only [Act.put, List.setIfInBounds_toArray, List.set_cons_zero, List.set_cons_succ, List.getElem_toArray, List.getElem_cons_zero, List.getElem_cons_succ]
  refine' wpAnyH_take (i := 22) (oi := _) (v := _) rfl (by kernel_rfl) (by kernel_rfl) (by kernel_rfl) (fun _ _ _ h => h) (Or.inl ⟨by rfl, ?hz30⟩) (by assumption) ?rezt30
  case hz30 => (intro w' hSw; (try dsimp only at hSw); go_simp; try with_reducible rfl)
  try simp only [Act.put, List.setIfInBounds_toArray, List.set_cons_zero, List.set_cons_succ, List.getElem_toArray, List.getElem_cons_zero, List.getElem_cons_succ]
  refine' wpAnyH_take (i := 23) (oi := _) (v := _) rfl (by kernel_rfl) (by kernel_rfl) (by kernel_rfl) (fun _ _ _ h => h) (Or.inl ⟨by rfl, ?hz31⟩) (by assumption) ?rezt31
  case hz31 => (intro w' hSw; (try dsimp only at hSw); go_simp; try with_reducible rfl)
  try simp only [Act.put, List.setIfInBounds_toArray, List.set_cons_zero, List.set_cons_succ, List.getElem_toArray, List.getElem_cons_zero, List.getElem_cons_succ]
  refine' wpAnyH_take (i := 24) (oi := _) (v := _) rfl (by kernel_rfl) (by kernel_rfl) (by kernel_rfl) (fun _ _ _ h => h) (Or.inl ⟨by rfl, ?hz32⟩) (by assumption) ?rezt32
  case hz32 => (intro w' hSw; (try dsimp only at hSw); go_simp; try with_reducible rfl)
  try simp only [Act.put, List.setIfInBounds_toArray, List.set_cons_zero, List.set_cons_succ, List.getElem_toArray, List.getElem_cons_zero, List.getElem_cons_succ]
  refine' wpAnyH_take (i := 25) (oi := _) (v := _) rfl (by kernel_rfl) (by kernel_rfl) (by kernel_rfl) (fun _ _ _ h => h) (Or.inl ⟨by rfl, ?hz33⟩) (by assumption) ?rezt33
  case hz33 => (intro w' hSw; (try dsimp only at hSw); go_simp; try with_reducible rfl)
  try simp only [Act.put, List.setIfInBounds_toArray, List.set_cons_zero, List.set_cons_succ, List.getElem_toArray, List.getElem_cons_zero, List.getElem_cons_succ]
  clear hsl
  have hbd : Below W0.heap.size W0 W1.drew := hb1.drew
  have hHeld : Below W0.heap.size W0 W1.drew := hbd
  obtain ⟨wd, hwd⟩ : ∃ W, W = W1.drew := ⟨_, rfl⟩
  rw [← hwd] at hbd hHeld ⊢
  clear hwd
  refine wpAnyH_ready (rs := [5, 28]) (by kernel_rfl) (by simp) ?_
  refine AllReadyH.cons (o := _) rfl (fun K hK => ?_) (AllReadyH.cons (o := _) rfl (fun K hK => ?_) AllReadyH.nil)
  · go_simp
    refine (wnumber_any _ g A n c a s p k l (HD.out.keep hbd) HN.out HNC.out HCM.out (HA.out.keep hbd) HB.out (a : Int) 4 ia).mono ?_
    rintro e wx ⟨rfl, rfl⟩
    rw [HR1.out]
    refine hK.out _ _ ?_ (fun hHeld => ?_)
    · exact hbd
    clear hK K
    try simp only [Act.put, List.setIfInBounds_toArray, List.set_cons_zero, List.set_cons_succ, List.getElem_toArray, List.getElem_cons_zero, List.getElem_cons_succ]
    refine' wpAnyH_take (i := 6) (oi := _) (v := _) rfl (by kernel_rfl) (by kernel_rfl) (by kernel_rfl) (fun _ _ _ h => h) (Or.inl ⟨by rfl, ?hz34⟩) (by assumption) ?rezt34
    case hz34 => (intro w' hSw; (try dsimp only at hSw); go_simp; try with_reducible rfl)
    try simp only [Act.put, List.setIfInBounds_toArray, List.set_cons_zero, List.set_cons_succ, List.getElem_toArray, List.getElem_cons_zero, List.getElem_cons_succ]
    refine wpAnyH_ready (rs := [13, 28]) (by kernel_rfl) (by simp) ?_
    refine AllReadyH.cons (o := _) rfl (fun K hK => ?_) (AllReadyH.cons (o := _) rfl (fun K hK => ?_) AllReadyH.nil)
    · go_simp
      refine (wnumber_any _ g A n c a s p k l (HD.out.keep hbd) HN.out HNC.out HCM.out (HA.out.keep hbd) HB.out ((a : Int) + 4) 4 ia4).mono ?_
      rintro e wx ⟨rfl, rfl⟩
      rw [HR2.out]
      refine hK.out _ _ ?_ (fun hHeld => ?_)
      · exact hbd
      clear hK K
      try simp only [Act.put, List.setIfInBounds_toArray, List.set_cons_zero, List.set_cons_succ, List.getElem_toArray, List.getElem_cons_zero, List.getElem_cons_succ]
      refine' wpAnyH_take (i := 14) (oi := _) (v := _) rfl (by kernel_rfl) (by kernel_rfl) (by kernel_rfl) (fun _ _ _ h => h) (Or.inl ⟨by rfl, ?hz35⟩) (by assumption) ?rezt35
      case hz35 => (intro w' hSw; (try dsimp only at hSw); go_simp; try with_reducible rfl)
      try simp only [Act.put, List.setIfInBounds_toArray, List.set_cons_zero, List.set_cons_succ, List.getElem_toArray, List.getElem_cons_zero, List.getElem_cons_succ]
      refine wpAnyH_ready (rs := [26, 28]) (by kernel_rfl) (by simp) ?_
      refine AllReadyH.cons (o := _) rfl (fun K hK => ?_) (AllReadyH.cons (o := _) rfl (fun K hK => ?_) AllReadyH.nil)
      · go_simp
        refine (bclone_any _ (cutA A c (a + 16)) s (c - (a + 16)) FB HFL.out HZ.out (by rw [← HCUT.out]; exact cutA_rd (HA.out.keep hbd) c (a + 16) s HCL.out)).mono ?_
        rintro e w_5_13_26_ ⟨B, d, rfl, hown, hbN⟩
        have hb_5_13_26_ : Below W0.heap.size W0 w_5_13_26_ := hbd.trans (hbN.mono hbd.size)
        have HO_5_13_26_ := Lib.hid hown
        clear hown hbN
        refine hK.out _ _ ?_ (fun hHeld => ?_)
        · exact hb_5_13_26_
        clear hK K
        try simp only [Act.put, List.setIfInBounds_toArray, List.set_cons_zero, List.set_cons_succ, List.getElem_toArray, List.getElem_cons_zero, List.getElem_cons_succ]
        refine' wpAnyH_take (i := 27) (oi := _) (v := _) rfl (by kernel_rfl) (by kernel_rfl) (by kernel_rfl) (fun _ _ _ h => h) (Or.inl ⟨by rfl, ?hz36⟩) (by assumption) ?rezt36
        case hz36 => (intro w' hSw; (try dsimp only at hSw); go_simp; try with_reducible rfl)
        try simp only [Act.put, List.setIfInBounds_toArray, List.set_cons_zero, List.set_cons_succ, List.getElem_toArray, List.getElem_cons_zero, List.getElem_cons_succ]
        refine wpAnyH_ready (rs := [28]) (by kernel_rfl) (by simp) ?_
        refine AllReadyH.cons (o := _) rfl (fun K hK => ?_) AllReadyH.nil
        go_simp
        obtain ⟨w_5_13_26_28_, hw_5_13_26_28_⟩ : ∃ W, W = w_5_13_26_.alloc (.cells #[.int .i64 0, .int .i64 0, .slice none 0 0] 53) := ⟨_, rfl⟩
        have hb_5_13_26_28_ : Below W0.heap.size W0 w_5_13_26_28_ := by rw [hw_5_13_26_28_]; exact hb_5_13_26_.alloc hb_5_13_26_.size _
        have HT_5_13_26_28_ := Lib.hid (show w_5_13_26_28_.there w_5_13_26_.heap.size 0 3 by rw [hw_5_13_26_28_]; exact there_new3F _ _ _ _ _)
        have hl_5_13_26_28_ : w_5_13_26_.heap.size < w_5_13_26_28_.heap.size := by rw [hw_5_13_26_28_]; simp
        have HO_5_13_26_28_ := Lib.hid (show OwnB w_5_13_26_28_ _ B s d FB by rw [hw_5_13_26_28_]; exact HO_5_13_26_.out.alloc _)
        rw [← hw_5_13_26_28_]
        clear hw_5_13_26_28_
        refine hK.out _ _ ?_ (fun hHeld => ?_)
        · exact hb_5_13_26_28_
        clear hK K
        try simp only [Act.put, List.setIfInBounds_toArray, List.set_cons_zero, List.set_cons_succ, List.getElem_toArray, List.getElem_cons_zero, List.getElem_cons_succ]
        have hg5 : W0.heap.size ≤ w_5_13_26_.heap.size := hb_5_13_26_.size
        have hne : ∀ x, B = some x → x.block ≠ w_5_13_26_.heap.size := fun x hx => by have := HO_5_13_26_.out.blkA x hx; omega
        refine wpAnyH_ready (rs := [29]) (by kernel_rfl) (by simp) ?_
        refine AllReadyH.cons (o := _) rfl (fun K hK => ?_) AllReadyH.nil
        rw [if_pos (by kernel_rfl)]
        refine wp_store_mid 53 _ _ rfl (w_5_13_26_.heap.size) 0 (frC pg cm B s d).toArray rfl rfl HT_5_13_26_28_.out size_fr (all_oneCell_toArray (by intro v hv; simp [frC] at hv; rcases hv with rfl | rfl | rfl <;> rfl)) ?_
        have HO_5_13_26_28_b := Lib.hid (HO_5_13_26_28_.out.mono (base' := W0.heap.size) hbd.size)
        obtain ⟨wS, hwS⟩ : ∃ W, W = w_5_13_26_28_.setCells w_5_13_26_.heap.size 0 (frC pg cm B s d) := ⟨_, rfl⟩
        have hbS : Below W0.heap.size W0 wS := by rw [hwS]; exact below_setCells hb_5_13_26_28_ hg5 _ _
        have HFS := Lib.hid (show FrAt wS w_5_13_26_.heap.size pg cm B s d by rw [hwS]; exact FrAt.stored HT_5_13_26_28_.out _ _ _ _ _)
        have HOS := Lib.hid (show OwnB wS W0.heap.size B s d FB by rw [hwS]; exact OwnB.mutN HO_5_13_26_28_b.out ((Mut.refl _ _).setsAt (.inr rfl) _ _) hne)
        rw [← hwS]
        clear hwS
        refine hK.out _ _ ?_ (fun hHeld => ?_)
        · exact hbS
        clear hK K
        try simp only [Act.put, List.setIfInBounds_toArray, List.set_cons_zero, List.set_cons_succ, List.getElem_toArray, List.getElem_cons_zero, List.getElem_cons_succ]
        refine wpAnyH_done (by kernel_rfl) ?_ _
        obtain ⟨g5, hg5e⟩ : ∃ x, w_5_13_26_.heap.size = x := ⟨_, rfl⟩
        rw [hg5e] at HFS hg5 ⊢
        have HG5 := Lib.hid hg5
        clear hg5 hg5e hne
        have K3S : ∀ W : World, Below wS.heap.size wS W → W.cell? ⟨g, 3, none⟩ = some (.int .u64 p) := fun W hW => K3 W (hbS.trans (hW.mono hbS.size))
        go_upto_region 5 with fail
        refine wp_region_held_drew (S := (fun W => Below wS.heap.size wS W)) (by kernel_rfl) ?_ (fun hHeld => ?_)
        · exact (Below.refl _ wS).drew
        refine' wpAnyH_take (i := 0) (oi := _) (v := _) rfl (by kernel_rfl) (by kernel_rfl) (by kernel_rfl) (fun _ _ _ h => h) (Or.inl ⟨by rfl, ?hz37⟩) (by assumption) ?rezt37
        case hz37 => (intro w' hSw; (try dsimp only at hSw); go_simp; try with_reducible rfl)
        try simp only [Act.put, List.setIfInBounds_toArray, List.set_cons_zero, List.set_cons_succ, List.getElem_toArray, List.getElem_cons_zero, List.getElem_cons_succ]
        refine' wpAnyH_take (i := 1) (oi := _) (v := _) rfl (by kernel_rfl) (by kernel_rfl) (by kernel_rfl) (fun _ _ _ h => h) (Or.inl ⟨by rfl, ?hz38⟩) (by assumption) ?rezt38
        case hz38 => (intro w' hSw; (try dsimp only at hSw); go_simp; try with_reducible rfl)
        try simp only [Act.put, List.setIfInBounds_toArray, List.set_cons_zero, List.set_cons_succ, List.getElem_toArray, List.getElem_cons_zero, List.getElem_cons_succ]
        refine' wpAnyH_take (i := 2) (oi := _) (v := _) rfl (by kernel_rfl) (by kernel_rfl) (by kernel_rfl) (fun _ _ _ h => h) (Or.inl ⟨by rfl, ?hz39⟩) (by assumption) ?rezt39
        case hz39 => (intro w' hSw; (try dsimp only at hSw); go_simp; try with_reducible rfl)
        try simp only [Act.put, List.setIfInBounds_toArray, List.set_cons_zero, List.set_cons_succ, List.getElem_toArray, List.getElem_cons_zero, List.getElem_cons_succ]
        refine' wpAnyH_take (i := 3) (oi := _) (v := _) rfl (by kernel_rfl) (by kernel_rfl) (by kernel_rfl) (fun _ _ _ h => h) (Or.inl ⟨by rfl, ?hz40⟩) (by assumption) ?rezt40
        case hz40 => (intro w' hSw; (try dsimp only at hSw); go_simp; try with_reducible rfl)
        try simp only [Act.put, List.setIfInBounds_toArray, List.set_cons_zero, List.set_cons_succ, List.getElem_toArray, List.getElem_cons_zero, List.getElem_cons_succ]
        refine' wpAnyH_take (i := 4) (oi := _) (v := (.agg #[.int .i64 pg, .int .i64 cm, .slice B s d])) rfl (by kernel_rfl) (by kernel_rfl) (by kernel_rfl) (fun _ _ _ h => h) (yieldsIf_load_mid (by rfl) 53 _ rfl g5 0 rfl (frC pg cm B s d) _ (fun W hW => (FrAt.keepF HFS.out hW).range) Try.underlying53 rfl size_fr) (by assumption) ?rezl1
        try simp only [Act.put, List.setIfInBounds_toArray, List.set_cons_zero, List.set_cons_succ, List.getElem_toArray, List.getElem_cons_zero, List.getElem_cons_succ]
        refine wpAnyH_ready (rs := [5]) (by kernel_rfl) (by simp) ?_
        refine AllReadyH.cons (o := _) rfl (fun K hK => ?_) AllReadyH.nil
        go_simp
        refine (wlink_any _ p pg cm B s d FB HPB.out HCB.out HFL.out HOS.out.cap.1 HOS.out.cap.2 (HOS.out.keep (Below.refl _ wS).drew).rd HFB.out h48).mono ?_
        rintro e w6 ⟨rfl, hb6⟩
        have hbS6 : Below wS.heap.size wS w6 := (Below.refl _ wS).drew.trans hb6
        clear hb6
        refine hK.out _ _ ?_ (fun hHeld => ?_)
        · exact hbS6
        clear hK K
        try simp only [Act.put, List.setIfInBounds_toArray, List.set_cons_zero, List.set_cons_succ, List.getElem_toArray, List.getElem_cons_zero, List.getElem_cons_succ]
        refine' wpAnyH_take (i := 6) (oi := _) (v := _) rfl (by kernel_rfl) (by kernel_rfl) (by kernel_rfl) (fun _ _ _ h => h) (Or.inl ⟨by rfl, ?hz41⟩) (by assumption) ?rezt41
        case hz41 => (intro w' hSw; (try dsimp only at hSw); go_simp; try with_reducible rfl)
        try simp only [Act.put, List.setIfInBounds_toArray, List.set_cons_zero, List.set_cons_succ, List.getElem_toArray, List.getElem_cons_zero, List.getElem_cons_succ]
        refine wpAnyH_done (by kernel_rfl) ?_ _
        obtain ⟨q, hq⟩ : ∃ q, lnk p pg cm FB = q := ⟨_, rfl⟩
        have HQ := Lib.hid hq
        rw [hq] at HR3 HR ⊢
        clear hq K3S
        have hqq : (q != q) = false := by simp
        have HF6 := Lib.hid (FrAt.keepF HFS.out hbS6)
        have hb06 : Below W0.heap.size W0 w6 := hbS.trans (hbS6.mono hbS.size)
        have HO6 := Lib.hid (HOS.out.keep hbS6)
        clear hbS6
        go_upto_region 6 with fail
        go_step
        refine wp_load_fr rfl _ rfl g5 pg cm B s d rfl HF6.out ?_
        go_wp2_with fail
        refine (wframe_ok _ pg cm B s d HPB2.out HCB2.out HS.out).mono ?_
        rintro e w7 ⟨rfl, hb7⟩
        have hb07 : Below W0.heap.size W0 w7 := hb06.trans (hb7.mono hb06.size)
        have HF7 := Lib.hid (FrAt.keepF HF6.out hb7)
        have HO7 := Lib.hid (HO6.out.keep hb7)
        clear hb7 hb06
        have HD7 := Lib.hid (HD.out.keep hb07)
        have m1 := HD7.out.c1
        have m3 := HD7.out.c3
        have f1 := HD7.out.fr 1
        have f3 := HD7.out.fr 3
        go_wp2_with fail
        refine (wnumber_any _ g A n c a s p k l HD7.out HN.out HNC.out HCM.out (HA.out.keep hb07) HB.out ((a : Int) + 8) 8 ia8).mono ?_
        rintro e w8 ⟨rfl, rfl⟩
        rw [HR3.out]
        go_upto_region 9 with fail
        obtain ⟨w9, hw9⟩ : ∃ W, W = (w7.setCell ⟨g, 1, none⟩ (.int .i64 ((a : Int) + 16 + (s : Int)))).setCell ⟨g, 3, none⟩ (.int .u64 q) := ⟨_, rfl⟩
        have HM79 : Mut w7 g w9 := by rw [hw9]; exact (Mut.set _ _ _ _).trans (Mut.set _ _ _ _)
        have HD9 := Lib.hid (show RdrAt w9 g A n c ((a : Int) + 16 + (s : Int)) s q k by rw [hw9]; exact (HD7.out.set1 _).set3 _)
        have hGe := HG.out
        have hLt := HL.out
        have hgl := HGL.out
        have hg5' := HG5.out
        have HF9 := Lib.hid (HF7.out.mutF HM79 (by omega))
        have HO9 := Lib.hid (HO7.out.mut HM79 (by omega))
        have HT7 := there_keep HT.out hb07 HL.out
        have HT9 := Lib.hid (there_mut HT7 HM79 (Nat.lt_of_lt_of_le HL.out hb07.size) (by omega))
        have HMW := Lib.hid ((Mut.of (hb0.trans (hb07.mono hb0.size)) g).trans HM79)
        rw [← hw9]
        clear hw9 HM79 HT7 hGe hLt hgl hg5' m1 m3 f1 f3
        go_step
        refine wp_load_fr rfl _ rfl g5 pg cm B s d rfl HF9.out ?_
        try simp only [Act.put, List.setIfInBounds_toArray, List.set_cons_zero, List.set_cons_succ, List.getElem_toArray, List.getElem_cons_zero, List.getElem_cons_succ]
        refine wp_store_fr rfl _ _ rfl g0 pg cm B s d rfl rfl HT9.out ?_
        obtain ⟨wE, hwE⟩ : ∃ W, W = w9.setCells g0 0 (frC pg cm B s d) := ⟨_, rfl⟩
        have hGe := HG.out
        have hgl := HGL.out
        have hLt := HL.out
        have HFE := Lib.hid (show FrAt wE g0 pg cm B s d by rw [hwE]; exact FrAt.stored HT9.out _ _ _ _ _)
        have HDE := Lib.hid (show RdrAt wE g A n c ((a : Int) + 16 + (s : Int)) s q k by rw [hwE]; exact HD9.out.mutR ((Mut.refl _ _).setsAt (.inr rfl) _ _) (by omega))
        have HOE := Lib.hid (show OwnB wE w.heap.size B s d FB by rw [hwE]; exact ((HO9.out.mut (gb := g0) ((Mut.refl _ _).setsAt (.inr rfl) _ _) (by omega))).mono hb0.size)
        have HME := Lib.hid (show Mut w g wE by rw [hwE]; exact HMW.out.setsAt (.inl (by omega)) _ _)
        rw [← hwE]
        clear hwE hGe hgl hLt
        go_wp2_with fail
        refine ret_fr rfl rfl HFE.out rfl ?_
        rw [HR.out]
        exact ⟨B, d, rfl, HOE.out, HDE.out, HME.out⟩
      · go_simp
        obtain ⟨w_5_13_28_, hw_5_13_28_⟩ : ∃ W, W = wd.alloc (.cells #[.int .i64 0, .int .i64 0, .slice none 0 0] 53) := ⟨_, rfl⟩
        have hb_5_13_28_ : Below W0.heap.size W0 w_5_13_28_ := by rw [hw_5_13_28_]; exact hbd.alloc hbd.size _
        have HT_5_13_28_ := Lib.hid (show w_5_13_28_.there wd.heap.size 0 3 by rw [hw_5_13_28_]; exact there_new3F _ _ _ _ _)
        have hl_5_13_28_ : wd.heap.size < w_5_13_28_.heap.size := by rw [hw_5_13_28_]; simp
        rw [← hw_5_13_28_]
        clear hw_5_13_28_
        refine hK.out _ _ ?_ (fun hHeld => ?_)
        · exact hb_5_13_28_
        clear hK K
        try simp only [Act.put, List.setIfInBounds_toArray, List.set_cons_zero, List.set_cons_succ, List.getElem_toArray, List.getElem_cons_zero, List.getElem_cons_succ]
        refine wpAnyH_ready (rs := [26]) (by kernel_rfl) (by simp) ?_
        refine AllReadyH.cons (o := _) rfl (fun K hK => ?_) AllReadyH.nil
        go_simp
        refine (bclone_any _ (cutA A c (a + 16)) s (c - (a + 16)) FB HFL.out HZ.out (by rw [← HCUT.out]; exact cutA_rd (HA.out.keep hb_5_13_28_) c (a + 16) s HCL.out)).mono ?_
        rintro e w_5_13_28_26_ ⟨B, d, rfl, hown, hbN⟩
        have hb_5_13_28_26_ : Below W0.heap.size W0 w_5_13_28_26_ := hb_5_13_28_.trans (hbN.mono hb_5_13_28_.size)
        have HO_5_13_28_26_ := Lib.hid hown
        have HT_5_13_28_26_ := Lib.hid (there_keep HT_5_13_28_.out hbN hl_5_13_28_)
        have hl_5_13_28_26_ := Nat.lt_of_lt_of_le hl_5_13_28_ hbN.size
        clear hown hbN
        refine hK.out _ _ ?_ (fun hHeld => ?_)
        · exact hb_5_13_28_26_
        clear hK K
        try simp only [Act.put, List.setIfInBounds_toArray, List.set_cons_zero, List.set_cons_succ, List.getElem_toArray, List.getElem_cons_zero, List.getElem_cons_succ]
        refine' wpAnyH_take (i := 27) (oi := _) (v := _) rfl (by kernel_rfl) (by kernel_rfl) (by kernel_rfl) (fun _ _ _ h => h) (Or.inl ⟨by rfl, ?hz42⟩) (by assumption) ?rezt42
        case hz42 => (intro w' hSw; (try dsimp only at hSw); go_simp; try with_reducible rfl)
        try simp only [Act.put, List.setIfInBounds_toArray, List.set_cons_zero, List.set_cons_succ, List.getElem_toArray, List.getElem_cons_zero, List.getElem_cons_succ]
        have hg5 : W0.heap.size ≤ wd.heap.size := hbd.size
        have hne : ∀ x, B = some x → x.block ≠ wd.heap.size := fun x hx => by have := HO_5_13_28_26_.out.blkA x hx; omega
        refine wpAnyH_ready (rs := [29]) (by kernel_rfl) (by simp) ?_
        refine AllReadyH.cons (o := _) rfl (fun K hK => ?_) AllReadyH.nil
        rw [if_pos (by kernel_rfl)]
        refine wp_store_mid 53 _ _ rfl (wd.heap.size) 0 (frC pg cm B s d).toArray rfl rfl HT_5_13_28_26_.out size_fr (all_oneCell_toArray (by intro v hv; simp [frC] at hv; rcases hv with rfl | rfl | rfl <;> rfl)) ?_
        have HO_5_13_28_26_b := Lib.hid (HO_5_13_28_26_.out.mono (base' := W0.heap.size) hb_5_13_28_.size)
        obtain ⟨wS, hwS⟩ : ∃ W, W = w_5_13_28_26_.setCells wd.heap.size 0 (frC pg cm B s d) := ⟨_, rfl⟩
        have hbS : Below W0.heap.size W0 wS := by rw [hwS]; exact below_setCells hb_5_13_28_26_ hg5 _ _
        have HFS := Lib.hid (show FrAt wS wd.heap.size pg cm B s d by rw [hwS]; exact FrAt.stored HT_5_13_28_26_.out _ _ _ _ _)
        have HOS := Lib.hid (show OwnB wS W0.heap.size B s d FB by rw [hwS]; exact OwnB.mutN HO_5_13_28_26_b.out ((Mut.refl _ _).setsAt (.inr rfl) _ _) hne)
        rw [← hwS]
        clear hwS
        refine hK.out _ _ ?_ (fun hHeld => ?_)
        · exact hbS
        clear hK K
        try simp only [Act.put, List.setIfInBounds_toArray, List.set_cons_zero, List.set_cons_succ, List.getElem_toArray, List.getElem_cons_zero, List.getElem_cons_succ]
        refine wpAnyH_done (by kernel_rfl) ?_ _
        obtain ⟨g5, hg5e⟩ : ∃ x, wd.heap.size = x := ⟨_, rfl⟩
        rw [hg5e] at HFS hg5 ⊢
        have HG5 := Lib.hid hg5
        clear hg5 hg5e hne
        have K3S : ∀ W : World, Below wS.heap.size wS W → W.cell? ⟨g, 3, none⟩ = some (.int .u64 p) := fun W hW => K3 W (hbS.trans (hW.mono hbS.size))
        go_upto_region 5 with fail
        refine wp_region_held_drew (S := (fun W => Below wS.heap.size wS W)) (by kernel_rfl) ?_ (fun hHeld => ?_)
        · exact (Below.refl _ wS).drew
        refine' wpAnyH_take (i := 0) (oi := _) (v := _) rfl (by kernel_rfl) (by kernel_rfl) (by kernel_rfl) (fun _ _ _ h => h) (Or.inl ⟨by rfl, ?hz43⟩) (by assumption) ?rezt43
        case hz43 => (intro w' hSw; (try dsimp only at hSw); go_simp; try with_reducible rfl)
        try simp only [Act.put, List.setIfInBounds_toArray, List.set_cons_zero, List.set_cons_succ, List.getElem_toArray, List.getElem_cons_zero, List.getElem_cons_succ]
        refine' wpAnyH_take (i := 1) (oi := _) (v := _) rfl (by kernel_rfl) (by kernel_rfl) (by kernel_rfl) (fun _ _ _ h => h) (Or.inl ⟨by rfl, ?hz44⟩) (by assumption) ?rezt44
        case hz44 => (intro w' hSw; (try dsimp only at hSw); go_simp; try with_reducible rfl)
        try simp only [Act.put, List.setIfInBounds_toArray, List.set_cons_zero, List.set_cons_succ, List.getElem_toArray, List.getElem_cons_zero, List.getElem_cons_succ]
        refine' wpAnyH_take (i := 2) (oi := _) (v := _) rfl (by kernel_rfl) (by kernel_rfl) (by kernel_rfl) (fun _ _ _ h => h) (Or.inl ⟨by rfl, ?hz45⟩) (by assumption) ?rezt45
        case hz45 => (intro w' hSw; (try dsimp only at hSw); go_simp; try with_reducible rfl)
        try simp only [Act.put, List.setIfInBounds_toArray, List.set_cons_zero, List.set_cons_succ, List.getElem_toArray, List.getElem_cons_zero, List.getElem_cons_succ]
        refine' wpAnyH_take (i := 3) (oi := _) (v := _) rfl (by kernel_rfl) (by kernel_rfl) (by kernel_rfl) (fun _ _ _ h => h) (Or.inl ⟨by rfl, ?hz46⟩) (by assumption) ?rezt46
        case hz46 => (intro w' hSw; (try dsimp only at hSw); go_simp; try with_reducible rfl)
        try simp only [Act.put, List.setIfInBounds_toArray, List.set_cons_zero, List.set_cons_succ, List.getElem_toArray, List.getElem_cons_zero, List.getElem_cons_succ]
        refine' wpAnyH_take (i := 4) (oi := _) (v := (.agg #[.int .i64 pg, .int .i64 cm, .slice B s d])) rfl (by kernel_rfl) (by kernel_rfl) (by kernel_rfl) (fun _ _ _ h => h) (yieldsIf_load_mid (by rfl) 53 _ rfl g5 0 rfl (frC pg cm B s d) _ (fun W hW => (FrAt.keepF HFS.out hW).range) Try.underlying53 rfl size_fr) (by assumption) ?rezl2
        try simp only [Act.put, List.setIfInBounds_toArray, List.set_cons_zero, List.set_cons_succ, List.getElem_toArray, List.getElem_cons_zero, List.getElem_cons_succ]
        refine wpAnyH_ready (rs := [5]) (by kernel_rfl) (by simp) ?_
        refine AllReadyH.cons (o := _) rfl (fun K hK => ?_) AllReadyH.nil
        go_simp
        refine (wlink_any _ p pg cm B s d FB HPB.out HCB.out HFL.out HOS.out.cap.1 HOS.out.cap.2 (HOS.out.keep (Below.refl _ wS).drew).rd HFB.out h48).mono ?_
        rintro e w6 ⟨rfl, hb6⟩
        have hbS6 : Below wS.heap.size wS w6 := (Below.refl _ wS).drew.trans hb6
        clear hb6
        refine hK.out _ _ ?_ (fun hHeld => ?_)
        · exact hbS6
        clear hK K
        try simp only [Act.put, List.setIfInBounds_toArray, List.set_cons_zero, List.set_cons_succ, List.getElem_toArray, List.getElem_cons_zero, List.getElem_cons_succ]
        refine' wpAnyH_take (i := 6) (oi := _) (v := _) rfl (by kernel_rfl) (by kernel_rfl) (by kernel_rfl) (fun _ _ _ h => h) (Or.inl ⟨by rfl, ?hz47⟩) (by assumption) ?rezt47
        case hz47 => (intro w' hSw; (try dsimp only at hSw); go_simp; try with_reducible rfl)
        try simp only [Act.put, List.setIfInBounds_toArray, List.set_cons_zero, List.set_cons_succ, List.getElem_toArray, List.getElem_cons_zero, List.getElem_cons_succ]
        refine wpAnyH_done (by kernel_rfl) ?_ _
        obtain ⟨q, hq⟩ : ∃ q, lnk p pg cm FB = q := ⟨_, rfl⟩
        have HQ := Lib.hid hq
        rw [hq] at HR3 HR ⊢
        clear hq K3S
        have hqq : (q != q) = false := by simp
        have HF6 := Lib.hid (FrAt.keepF HFS.out hbS6)
        have hb06 : Below W0.heap.size W0 w6 := hbS.trans (hbS6.mono hbS.size)
        have HO6 := Lib.hid (HOS.out.keep hbS6)
        clear hbS6
        go_upto_region 6 with fail
        go_step
        refine wp_load_fr rfl _ rfl g5 pg cm B s d rfl HF6.out ?_
        go_wp2_with fail
        refine (wframe_ok _ pg cm B s d HPB2.out HCB2.out HS.out).mono ?_
        rintro e w7 ⟨rfl, hb7⟩
        have hb07 : Below W0.heap.size W0 w7 := hb06.trans (hb7.mono hb06.size)
        have HF7 := Lib.hid (FrAt.keepF HF6.out hb7)
        have HO7 := Lib.hid (HO6.out.keep hb7)
        clear hb7 hb06
        have HD7 := Lib.hid (HD.out.keep hb07)
        have m1 := HD7.out.c1
        have m3 := HD7.out.c3
        have f1 := HD7.out.fr 1
        have f3 := HD7.out.fr 3
        go_wp2_with fail
        refine (wnumber_any _ g A n c a s p k l HD7.out HN.out HNC.out HCM.out (HA.out.keep hb07) HB.out ((a : Int) + 8) 8 ia8).mono ?_
        rintro e w8 ⟨rfl, rfl⟩
        rw [HR3.out]
        go_upto_region 9 with fail
        obtain ⟨w9, hw9⟩ : ∃ W, W = (w7.setCell ⟨g, 1, none⟩ (.int .i64 ((a : Int) + 16 + (s : Int)))).setCell ⟨g, 3, none⟩ (.int .u64 q) := ⟨_, rfl⟩
        have HM79 : Mut w7 g w9 := by rw [hw9]; exact (Mut.set _ _ _ _).trans (Mut.set _ _ _ _)
        have HD9 := Lib.hid (show RdrAt w9 g A n c ((a : Int) + 16 + (s : Int)) s q k by rw [hw9]; exact (HD7.out.set1 _).set3 _)
        have hGe := HG.out
        have hLt := HL.out
        have hgl := HGL.out
        have hg5' := HG5.out
        have HF9 := Lib.hid (HF7.out.mutF HM79 (by omega))
        have HO9 := Lib.hid (HO7.out.mut HM79 (by omega))
        have HT7 := there_keep HT.out hb07 HL.out
        have HT9 := Lib.hid (there_mut HT7 HM79 (Nat.lt_of_lt_of_le HL.out hb07.size) (by omega))
        have HMW := Lib.hid ((Mut.of (hb0.trans (hb07.mono hb0.size)) g).trans HM79)
        rw [← hw9]
        clear hw9 HM79 HT7 hGe hLt hgl hg5' m1 m3 f1 f3
        go_step
        refine wp_load_fr rfl _ rfl g5 pg cm B s d rfl HF9.out ?_
        try simp only [Act.put, List.setIfInBounds_toArray, List.set_cons_zero, List.set_cons_succ, List.getElem_toArray, List.getElem_cons_zero, List.getElem_cons_succ]
        refine wp_store_fr rfl _ _ rfl g0 pg cm B s d rfl rfl HT9.out ?_
        obtain ⟨wE, hwE⟩ : ∃ W, W = w9.setCells g0 0 (frC pg cm B s d) := ⟨_, rfl⟩
        have hGe := HG.out
        have hgl := HGL.out
        have hLt := HL.out
        have HFE := Lib.hid (show FrAt wE g0 pg cm B s d by rw [hwE]; exact FrAt.stored HT9.out _ _ _ _ _)
        have HDE := Lib.hid (show RdrAt wE g A n c ((a : Int) + 16 + (s : Int)) s q k by rw [hwE]; exact HD9.out.mutR ((Mut.refl _ _).setsAt (.inr rfl) _ _) (by omega))
        have HOE := Lib.hid (show OwnB wE w.heap.size B s d FB by rw [hwE]; exact ((HO9.out.mut (gb := g0) ((Mut.refl _ _).setsAt (.inr rfl) _ _) (by omega))).mono hb0.size)
        have HME := Lib.hid (show Mut w g wE by rw [hwE]; exact HMW.out.setsAt (.inl (by omega)) _ _)
        rw [← hwE]
        clear hwE hGe hgl hLt
        go_wp2_with fail
        refine ret_fr rfl rfl HFE.out rfl ?_
        rw [HR.out]
        exact ⟨B, d, rfl, HOE.out, HDE.out, HME.out⟩
    · go_simp
      obtain ⟨w_5_28_, hw_5_28_⟩ : ∃ W, W = wd.alloc (.cells #[.int .i64 0, .int .i64 0, .slice none 0 0] 53) := ⟨_, rfl⟩
      have hb_5_28_ : Below W0.heap.size W0 w_5_28_ := by rw [hw_5_28_]; exact hbd.alloc hbd.size _
      have HT_5_28_ := Lib.hid (show w_5_28_.there wd.heap.size 0 3 by rw [hw_5_28_]; exact there_new3F _ _ _ _ _)
      have hl_5_28_ : wd.heap.size < w_5_28_.heap.size := by rw [hw_5_28_]; simp
      rw [← hw_5_28_]
      clear hw_5_28_
      refine hK.out _ _ ?_ (fun hHeld => ?_)
      · exact hb_5_28_
      clear hK K
      try simp only [Act.put, List.setIfInBounds_toArray, List.set_cons_zero, List.set_cons_succ, List.getElem_toArray, List.getElem_cons_zero, List.getElem_cons_succ]
      refine wpAnyH_ready (rs := [13]) (by kernel_rfl) (by simp) ?_
      refine AllReadyH.cons (o := _) rfl (fun K hK => ?_) AllReadyH.nil
      go_simp
      refine (wnumber_any _ g A n c a s p k l (HD.out.keep hb_5_28_) HN.out HNC.out HCM.out (HA.out.keep hb_5_28_) HB.out ((a : Int) + 4) 4 ia4).mono ?_
      rintro e wx ⟨rfl, rfl⟩
      rw [HR2.out]
      refine hK.out _ _ ?_ (fun hHeld => ?_)
      · exact hb_5_28_
      clear hK K
      try simp only [Act.put, List.setIfInBounds_toArray, List.set_cons_zero, List.set_cons_succ, List.getElem_toArray, List.getElem_cons_zero, List.getElem_cons_succ]
      refine' wpAnyH_take (i := 14) (oi := _) (v := _) rfl (by kernel_rfl) (by kernel_rfl) (by kernel_rfl) (fun _ _ _ h => h) (Or.inl ⟨by rfl, ?hz48⟩) (by assumption) ?rezt48
      case hz48 => (intro w' hSw; (try dsimp only at hSw); go_simp; try with_reducible rfl)
      try simp only [Act.put, List.setIfInBounds_toArray, List.set_cons_zero, List.set_cons_succ, List.getElem_toArray, List.getElem_cons_zero, List.getElem_cons_succ]
      refine wpAnyH_ready (rs := [26]) (by kernel_rfl) (by simp) ?_
      refine AllReadyH.cons (o := _) rfl (fun K hK => ?_) AllReadyH.nil
      go_simp
      refine (bclone_any _ (cutA A c (a + 16)) s (c - (a + 16)) FB HFL.out HZ.out (by rw [← HCUT.out]; exact cutA_rd (HA.out.keep hb_5_28_) c (a + 16) s HCL.out)).mono ?_
      rintro e w_5_28_13_26_ ⟨B, d, rfl, hown, hbN⟩
      have hb_5_28_13_26_ : Below W0.heap.size W0 w_5_28_13_26_ := hb_5_28_.trans (hbN.mono hb_5_28_.size)
      have HO_5_28_13_26_ := Lib.hid hown
      have HT_5_28_13_26_ := Lib.hid (there_keep HT_5_28_.out hbN hl_5_28_)
      have hl_5_28_13_26_ := Nat.lt_of_lt_of_le hl_5_28_ hbN.size
      clear hown hbN
      refine hK.out _ _ ?_ (fun hHeld => ?_)
      · exact hb_5_28_13_26_
      clear hK K
      try simp only [Act.put, List.setIfInBounds_toArray, List.set_cons_zero, List.set_cons_succ, List.getElem_toArray, List.getElem_cons_zero, List.getElem_cons_succ]
      refine' wpAnyH_take (i := 27) (oi := _) (v := _) rfl (by kernel_rfl) (by kernel_rfl) (by kernel_rfl) (fun _ _ _ h => h) (Or.inl ⟨by rfl, ?hz49⟩) (by assumption) ?rezt49
      case hz49 => (intro w' hSw; (try dsimp only at hSw); go_simp; try with_reducible rfl)
      try simp only [Act.put, List.setIfInBounds_toArray, List.set_cons_zero, List.set_cons_succ, List.getElem_toArray, List.getElem_cons_zero, List.getElem_cons_succ]
      have hg5 : W0.heap.size ≤ wd.heap.size := hbd.size
      have hne : ∀ x, B = some x → x.block ≠ wd.heap.size := fun x hx => by have := HO_5_28_13_26_.out.blkA x hx; omega
      refine wpAnyH_ready (rs := [29]) (by kernel_rfl) (by simp) ?_
      refine AllReadyH.cons (o := _) rfl (fun K hK => ?_) AllReadyH.nil
      rw [if_pos (by kernel_rfl)]
      refine wp_store_mid 53 _ _ rfl (wd.heap.size) 0 (frC pg cm B s d).toArray rfl rfl HT_5_28_13_26_.out size_fr (all_oneCell_toArray (by intro v hv; simp [frC] at hv; rcases hv with rfl | rfl | rfl <;> rfl)) ?_
      have HO_5_28_13_26_b := Lib.hid (HO_5_28_13_26_.out.mono (base' := W0.heap.size) hb_5_28_.size)
      obtain ⟨wS, hwS⟩ : ∃ W, W = w_5_28_13_26_.setCells wd.heap.size 0 (frC pg cm B s d) := ⟨_, rfl⟩
      have hbS : Below W0.heap.size W0 wS := by rw [hwS]; exact below_setCells hb_5_28_13_26_ hg5 _ _
      have HFS := Lib.hid (show FrAt wS wd.heap.size pg cm B s d by rw [hwS]; exact FrAt.stored HT_5_28_13_26_.out _ _ _ _ _)
      have HOS := Lib.hid (show OwnB wS W0.heap.size B s d FB by rw [hwS]; exact OwnB.mutN HO_5_28_13_26_b.out ((Mut.refl _ _).setsAt (.inr rfl) _ _) hne)
      rw [← hwS]
      clear hwS
      refine hK.out _ _ ?_ (fun hHeld => ?_)
      · exact hbS
      clear hK K
      try simp only [Act.put, List.setIfInBounds_toArray, List.set_cons_zero, List.set_cons_succ, List.getElem_toArray, List.getElem_cons_zero, List.getElem_cons_succ]
      refine wpAnyH_done (by kernel_rfl) ?_ _
      obtain ⟨g5, hg5e⟩ : ∃ x, wd.heap.size = x := ⟨_, rfl⟩
      rw [hg5e] at HFS hg5 ⊢
      have HG5 := Lib.hid hg5
      clear hg5 hg5e hne
      have K3S : ∀ W : World, Below wS.heap.size wS W → W.cell? ⟨g, 3, none⟩ = some (.int .u64 p) := fun W hW => K3 W (hbS.trans (hW.mono hbS.size))
      go_upto_region 5 with fail
      refine wp_region_held_drew (S := (fun W => Below wS.heap.size wS W)) (by kernel_rfl) ?_ (fun hHeld => ?_)
      · exact (Below.refl _ wS).drew
      refine' wpAnyH_take (i := 0) (oi := _) (v := _) rfl (by kernel_rfl) (by kernel_rfl) (by kernel_rfl) (fun _ _ _ h => h) (Or.inl ⟨by rfl, ?hz50⟩) (by assumption) ?rezt50
      case hz50 => (intro w' hSw; (try dsimp only at hSw); go_simp; try with_reducible rfl)
      try simp only [Act.put, List.setIfInBounds_toArray, List.set_cons_zero, List.set_cons_succ, List.getElem_toArray, List.getElem_cons_zero, List.getElem_cons_succ]
      refine' wpAnyH_take (i := 1) (oi := _) (v := _) rfl (by kernel_rfl) (by kernel_rfl) (by kernel_rfl) (fun _ _ _ h => h) (Or.inl ⟨by rfl, ?hz51⟩) (by assumption) ?rezt51
      case hz51 => (intro w' hSw; (try dsimp only at hSw); go_simp; try with_reducible rfl)
      try simp only [Act.put, List.setIfInBounds_toArray, List.set_cons_zero, List.set_cons_succ, List.getElem_toArray, List.getElem_cons_zero, List.getElem_cons_succ]
      refine' wpAnyH_take (i := 2) (oi := _) (v := _) rfl (by kernel_rfl) (by kernel_rfl) (by kernel_rfl) (fun _ _ _ h => h) (Or.inl ⟨by rfl, ?hz52⟩) (by assumption) ?rezt52
      case hz52 => (intro w' hSw; (try dsimp only at hSw); go_simp; try with_reducible rfl)
      try simp only [Act.put, List.setIfInBounds_toArray, List.set_cons_zero, List.set_cons_succ, List.getElem_toArray, List.getElem_cons_zero, List.getElem_cons_succ]
      refine' wpAnyH_take (i := 3) (oi := _) (v := _) rfl (by kernel_rfl) (by kernel_rfl) (by kernel_rfl) (fun _ _ _ h => h) (Or.inl ⟨by rfl, ?hz53⟩) (by assumption) ?rezt53
      case hz53 => (intro w' hSw; (try dsimp only at hSw); go_simp; try with_reducible rfl)
      try simp only [Act.put, List.setIfInBounds_toArray, List.set_cons_zero, List.set_cons_succ, List.getElem_toArray, List.getElem_cons_zero, List.getElem_cons_succ]
      refine' wpAnyH_take (i := 4) (oi := _) (v := (.agg #[.int .i64 pg, .int .i64 cm, .slice B s d])) rfl (by kernel_rfl) (by kernel_rfl) (by kernel_rfl) (fun _ _ _ h => h) (yieldsIf_load_mid (by rfl) 53 _ rfl g5 0 rfl (frC pg cm B s d) _ (fun W hW => (FrAt.keepF HFS.out hW).range) Try.underlying53 rfl size_fr) (by assumption) ?rezl3
      try simp only [Act.put, List.setIfInBounds_toArray, List.set_cons_zero, List.set_cons_succ, List.getElem_toArray, List.getElem_cons_zero, List.getElem_cons_succ]
      refine wpAnyH_ready (rs := [5]) (by kernel_rfl) (by simp) ?_
      refine AllReadyH.cons (o := _) rfl (fun K hK => ?_) AllReadyH.nil
      go_simp
      refine (wlink_any _ p pg cm B s d FB HPB.out HCB.out HFL.out HOS.out.cap.1 HOS.out.cap.2 (HOS.out.keep (Below.refl _ wS).drew).rd HFB.out h48).mono ?_
      rintro e w6 ⟨rfl, hb6⟩
      have hbS6 : Below wS.heap.size wS w6 := (Below.refl _ wS).drew.trans hb6
      clear hb6
      refine hK.out _ _ ?_ (fun hHeld => ?_)
      · exact hbS6
      clear hK K
      try simp only [Act.put, List.setIfInBounds_toArray, List.set_cons_zero, List.set_cons_succ, List.getElem_toArray, List.getElem_cons_zero, List.getElem_cons_succ]
      refine' wpAnyH_take (i := 6) (oi := _) (v := _) rfl (by kernel_rfl) (by kernel_rfl) (by kernel_rfl) (fun _ _ _ h => h) (Or.inl ⟨by rfl, ?hz54⟩) (by assumption) ?rezt54
      case hz54 => (intro w' hSw; (try dsimp only at hSw); go_simp; try with_reducible rfl)
      try simp only [Act.put, List.setIfInBounds_toArray, List.set_cons_zero, List.set_cons_succ, List.getElem_toArray, List.getElem_cons_zero, List.getElem_cons_succ]
      refine wpAnyH_done (by kernel_rfl) ?_ _
      obtain ⟨q, hq⟩ : ∃ q, lnk p pg cm FB = q := ⟨_, rfl⟩
      have HQ := Lib.hid hq
      rw [hq] at HR3 HR ⊢
      clear hq K3S
      have hqq : (q != q) = false := by simp
      have HF6 := Lib.hid (FrAt.keepF HFS.out hbS6)
      have hb06 : Below W0.heap.size W0 w6 := hbS.trans (hbS6.mono hbS.size)
      have HO6 := Lib.hid (HOS.out.keep hbS6)
      clear hbS6
      go_upto_region 6 with fail
      go_step
      refine wp_load_fr rfl _ rfl g5 pg cm B s d rfl HF6.out ?_
      go_wp2_with fail
      refine (wframe_ok _ pg cm B s d HPB2.out HCB2.out HS.out).mono ?_
      rintro e w7 ⟨rfl, hb7⟩
      have hb07 : Below W0.heap.size W0 w7 := hb06.trans (hb7.mono hb06.size)
      have HF7 := Lib.hid (FrAt.keepF HF6.out hb7)
      have HO7 := Lib.hid (HO6.out.keep hb7)
      clear hb7 hb06
      have HD7 := Lib.hid (HD.out.keep hb07)
      have m1 := HD7.out.c1
      have m3 := HD7.out.c3
      have f1 := HD7.out.fr 1
      have f3 := HD7.out.fr 3
      go_wp2_with fail
      refine (wnumber_any _ g A n c a s p k l HD7.out HN.out HNC.out HCM.out (HA.out.keep hb07) HB.out ((a : Int) + 8) 8 ia8).mono ?_
      rintro e w8 ⟨rfl, rfl⟩
      rw [HR3.out]
      go_upto_region 9 with fail
      obtain ⟨w9, hw9⟩ : ∃ W, W = (w7.setCell ⟨g, 1, none⟩ (.int .i64 ((a : Int) + 16 + (s : Int)))).setCell ⟨g, 3, none⟩ (.int .u64 q) := ⟨_, rfl⟩
      have HM79 : Mut w7 g w9 := by rw [hw9]; exact (Mut.set _ _ _ _).trans (Mut.set _ _ _ _)
      have HD9 := Lib.hid (show RdrAt w9 g A n c ((a : Int) + 16 + (s : Int)) s q k by rw [hw9]; exact (HD7.out.set1 _).set3 _)
      have hGe := HG.out
      have hLt := HL.out
      have hgl := HGL.out
      have hg5' := HG5.out
      have HF9 := Lib.hid (HF7.out.mutF HM79 (by omega))
      have HO9 := Lib.hid (HO7.out.mut HM79 (by omega))
      have HT7 := there_keep HT.out hb07 HL.out
      have HT9 := Lib.hid (there_mut HT7 HM79 (Nat.lt_of_lt_of_le HL.out hb07.size) (by omega))
      have HMW := Lib.hid ((Mut.of (hb0.trans (hb07.mono hb0.size)) g).trans HM79)
      rw [← hw9]
      clear hw9 HM79 HT7 hGe hLt hgl hg5' m1 m3 f1 f3
      go_step
      refine wp_load_fr rfl _ rfl g5 pg cm B s d rfl HF9.out ?_
      try simp only [Act.put, List.setIfInBounds_toArray, List.set_cons_zero, List.set_cons_succ, List.getElem_toArray, List.getElem_cons_zero, List.getElem_cons_succ]
      refine wp_store_fr rfl _ _ rfl g0 pg cm B s d rfl rfl HT9.out ?_
      obtain ⟨wE, hwE⟩ : ∃ W, W = w9.setCells g0 0 (frC pg cm B s d) := ⟨_, rfl⟩
      have hGe := HG.out
      have hgl := HGL.out
      have hLt := HL.out
      have HFE := Lib.hid (show FrAt wE g0 pg cm B s d by rw [hwE]; exact FrAt.stored HT9.out _ _ _ _ _)
      have HDE := Lib.hid (show RdrAt wE g A n c ((a : Int) + 16 + (s : Int)) s q k by rw [hwE]; exact HD9.out.mutR ((Mut.refl _ _).setsAt (.inr rfl) _ _) (by omega))
      have HOE := Lib.hid (show OwnB wE w.heap.size B s d FB by rw [hwE]; exact ((HO9.out.mut (gb := g0) ((Mut.refl _ _).setsAt (.inr rfl) _ _) (by omega))).mono hb0.size)
      have HME := Lib.hid (show Mut w g wE by rw [hwE]; exact HMW.out.setsAt (.inl (by omega)) _ _)
      rw [← hwE]
      clear hwE hGe hgl hLt
      go_wp2_with fail
      refine ret_fr rfl rfl HFE.out rfl ?_
      rw [HR.out]
      exact ⟨B, d, rfl, HOE.out, HDE.out, HME.out⟩
  · go_simp
    obtain ⟨w_28_, hw_28_⟩ : ∃ W, W = wd.alloc (.cells #[.int .i64 0, .int .i64 0, .slice none 0 0] 53) := ⟨_, rfl⟩
    have hb_28_ : Below W0.heap.size W0 w_28_ := by rw [hw_28_]; exact hbd.alloc hbd.size _
    have HT_28_ := Lib.hid (show w_28_.there wd.heap.size 0 3 by rw [hw_28_]; exact there_new3F _ _ _ _ _)
    have hl_28_ : wd.heap.size < w_28_.heap.size := by rw [hw_28_]; simp
    rw [← hw_28_]
    clear hw_28_
    refine hK.out _ _ ?_ (fun hHeld => ?_)
    · exact hb_28_
    clear hK K
    try simp only [Act.put, List.setIfInBounds_toArray, List.set_cons_zero, List.set_cons_succ, List.getElem_toArray, List.getElem_cons_zero, List.getElem_cons_succ]
    refine wpAnyH_ready (rs := [5]) (by kernel_rfl) (by simp) ?_
    refine AllReadyH.cons (o := _) rfl (fun K hK => ?_) AllReadyH.nil
    go_simp
    refine (wnumber_any _ g A n c a s p k l (HD.out.keep hb_28_) HN.out HNC.out HCM.out (HA.out.keep hb_28_) HB.out (a : Int) 4 ia).mono ?_
    rintro e wx ⟨rfl, rfl⟩
    rw [HR1.out]
    refine hK.out _ _ ?_ (fun hHeld => ?_)
    · exact hb_28_
    clear hK K
    try simp only [Act.put, List.setIfInBounds_toArray, List.set_cons_zero, List.set_cons_succ, List.getElem_toArray, List.getElem_cons_zero, List.getElem_cons_succ]
    refine' wpAnyH_take (i := 6) (oi := _) (v := _) rfl (by kernel_rfl) (by kernel_rfl) (by kernel_rfl) (fun _ _ _ h => h) (Or.inl ⟨by rfl, ?hz55⟩) (by assumption) ?rezt55
    case hz55 => (intro w' hSw; (try dsimp only at hSw); go_simp; try with_reducible rfl)
    try simp only [Act.put, List.setIfInBounds_toArray, List.set_cons_zero, List.set_cons_succ, List.getElem_toArray, List.getElem_cons_zero, List.getElem_cons_succ]
    refine wpAnyH_ready (rs := [13]) (by kernel_rfl) (by simp) ?_
    refine AllReadyH.cons (o := _) rfl (fun K hK => ?_) AllReadyH.nil
    go_simp
    refine (wnumber_any _ g A n c a s p k l (HD.out.keep hb_28_) HN.out HNC.out HCM.out (HA.out.keep hb_28_) HB.out ((a : Int) + 4) 4 ia4).mono ?_
    rintro e wx ⟨rfl, rfl⟩
    rw [HR2.out]
    refine hK.out _ _ ?_ (fun hHeld => ?_)
    · exact hb_28_
    clear hK K
    try simp only [Act.put, List.setIfInBounds_toArray, List.set_cons_zero, List.set_cons_succ, List.getElem_toArray, List.getElem_cons_zero, List.getElem_cons_succ]
    refine' wpAnyH_take (i := 14) (oi := _) (v := _) rfl (by kernel_rfl) (by kernel_rfl) (by kernel_rfl) (fun _ _ _ h => h) (Or.inl ⟨by rfl, ?hz56⟩) (by assumption) ?rezt56
    case hz56 => (intro w' hSw; (try dsimp only at hSw); go_simp; try with_reducible rfl)
    try simp only [Act.put, List.setIfInBounds_toArray, List.set_cons_zero, List.set_cons_succ, List.getElem_toArray, List.getElem_cons_zero, List.getElem_cons_succ]
    refine wpAnyH_ready (rs := [26]) (by kernel_rfl) (by simp) ?_
    refine AllReadyH.cons (o := _) rfl (fun K hK => ?_) AllReadyH.nil
    go_simp
    refine (bclone_any _ (cutA A c (a + 16)) s (c - (a + 16)) FB HFL.out HZ.out (by rw [← HCUT.out]; exact cutA_rd (HA.out.keep hb_28_) c (a + 16) s HCL.out)).mono ?_
    rintro e w_28_5_13_26_ ⟨B, d, rfl, hown, hbN⟩
    have hb_28_5_13_26_ : Below W0.heap.size W0 w_28_5_13_26_ := hb_28_.trans (hbN.mono hb_28_.size)
    have HO_28_5_13_26_ := Lib.hid hown
    have HT_28_5_13_26_ := Lib.hid (there_keep HT_28_.out hbN hl_28_)
    have hl_28_5_13_26_ := Nat.lt_of_lt_of_le hl_28_ hbN.size
    clear hown hbN
    refine hK.out _ _ ?_ (fun hHeld => ?_)
    · exact hb_28_5_13_26_
    clear hK K
    try simp only [Act.put, List.setIfInBounds_toArray, List.set_cons_zero, List.set_cons_succ, List.getElem_toArray, List.getElem_cons_zero, List.getElem_cons_succ]
    refine' wpAnyH_take (i := 27) (oi := _) (v := _) rfl (by kernel_rfl) (by kernel_rfl) (by kernel_rfl) (fun _ _ _ h => h) (Or.inl ⟨by rfl, ?hz57⟩) (by assumption) ?rezt57
    case hz57 => (intro w' hSw; (try dsimp only at hSw); go_simp; try with_reducible rfl)
    try simp only [Act.put, List.setIfInBounds_toArray, List.set_cons_zero, List.set_cons_succ, List.getElem_toArray, List.getElem_cons_zero, List.getElem_cons_succ]
    have hg5 : W0.heap.size ≤ wd.heap.size := hbd.size
    have hne : ∀ x, B = some x → x.block ≠ wd.heap.size := fun x hx => by have := HO_28_5_13_26_.out.blkA x hx; omega
    refine wpAnyH_ready (rs := [29]) (by kernel_rfl) (by simp) ?_
    refine AllReadyH.cons (o := _) rfl (fun K hK => ?_) AllReadyH.nil
    rw [if_pos (by kernel_rfl)]
    refine wp_store_mid 53 _ _ rfl (wd.heap.size) 0 (frC pg cm B s d).toArray rfl rfl HT_28_5_13_26_.out size_fr (all_oneCell_toArray (by intro v hv; simp [frC] at hv; rcases hv with rfl | rfl | rfl <;> rfl)) ?_
    have HO_28_5_13_26_b := Lib.hid (HO_28_5_13_26_.out.mono (base' := W0.heap.size) hb_28_.size)
    obtain ⟨wS, hwS⟩ : ∃ W, W = w_28_5_13_26_.setCells wd.heap.size 0 (frC pg cm B s d) := ⟨_, rfl⟩
    have hbS : Below W0.heap.size W0 wS := by rw [hwS]; exact below_setCells hb_28_5_13_26_ hg5 _ _
    have HFS := Lib.hid (show FrAt wS wd.heap.size pg cm B s d by rw [hwS]; exact FrAt.stored HT_28_5_13_26_.out _ _ _ _ _)
    have HOS := Lib.hid (show OwnB wS W0.heap.size B s d FB by rw [hwS]; exact OwnB.mutN HO_28_5_13_26_b.out ((Mut.refl _ _).setsAt (.inr rfl) _ _) hne)
    rw [← hwS]
    clear hwS
    refine hK.out _ _ ?_ (fun hHeld => ?_)
    · exact hbS
    clear hK K
    try simp only [Act.put, List.setIfInBounds_toArray, List.set_cons_zero, List.set_cons_succ, List.getElem_toArray, List.getElem_cons_zero, List.getElem_cons_succ]
    refine wpAnyH_done (by kernel_rfl) ?_ _
    obtain ⟨g5, hg5e⟩ : ∃ x, wd.heap.size = x := ⟨_, rfl⟩
    rw [hg5e] at HFS hg5 ⊢
    have HG5 := Lib.hid hg5
    clear hg5 hg5e hne
    have K3S : ∀ W : World, Below wS.heap.size wS W → W.cell? ⟨g, 3, none⟩ = some (.int .u64 p) := fun W hW => K3 W (hbS.trans (hW.mono hbS.size))
    go_upto_region 5 with fail
    refine wp_region_held_drew (S := (fun W => Below wS.heap.size wS W)) (by kernel_rfl) ?_ (fun hHeld => ?_)
    · exact (Below.refl _ wS).drew
    refine' wpAnyH_take (i := 0) (oi := _) (v := _) rfl (by kernel_rfl) (by kernel_rfl) (by kernel_rfl) (fun _ _ _ h => h) (Or.inl ⟨by rfl, ?hz58⟩) (by assumption) ?rezt58
    case hz58 => (intro w' hSw; (try dsimp only at hSw); go_simp; try with_reducible rfl)
    try simp only [Act.put, List.setIfInBounds_toArray, List.set_cons_zero, List.set_cons_succ, List.getElem_toArray, List.getElem_cons_zero, List.getElem_cons_succ]
    refine' wpAnyH_take (i := 1) (oi := _) (v := _) rfl (by kernel_rfl) (by kernel_rfl) (by kernel_rfl) (fun _ _ _ h => h) (Or.inl ⟨by rfl, ?hz59⟩) (by assumption) ?rezt59
    case hz59 => (intro w' hSw; (try dsimp only at hSw); go_simp; try with_reducible rfl)
    try simp only [Act.put, List.setIfInBounds_toArray, List.set_cons_zero, List.set_cons_succ, List.getElem_toArray, List.getElem_cons_zero, List.getElem_cons_succ]
    refine' wpAnyH_take (i := 2) (oi := _) (v := _) rfl (by kernel_rfl) (by kernel_rfl) (by kernel_rfl) (fun _ _ _ h => h) (Or.inl ⟨by rfl, ?hz60⟩) (by assumption) ?rezt60
    case hz60 => (intro w' hSw; (try dsimp only at hSw); go_simp; try with_reducible rfl)
    try simp only [Act.put, List.setIfInBounds_toArray, List.set_cons_zero, List.set_cons_succ, List.getElem_toArray, List.getElem_cons_zero, List.getElem_cons_succ]
    refine' wpAnyH_take (i := 3) (oi := _) (v := _) rfl (by kernel_rfl) (by kernel_rfl) (by kernel_rfl) (fun _ _ _ h => h) (Or.inl ⟨by rfl, ?hz61⟩) (by assumption) ?rezt61
    case hz61 => (intro w' hSw; (try dsimp only at hSw); go_simp; try with_reducible rfl)
    try simp only [Act.put, List.setIfInBounds_toArray, List.set_cons_zero, List.set_cons_succ, List.getElem_toArray, List.getElem_cons_zero, List.getElem_cons_succ]
    refine' wpAnyH_take (i := 4) (oi := _) (v := (.agg #[.int .i64 pg, .int .i64 cm, .slice B s d])) rfl (by kernel_rfl) (by kernel_rfl) (by kernel_rfl) (fun _ _ _ h => h) (yieldsIf_load_mid (by rfl) 53 _ rfl g5 0 rfl (frC pg cm B s d) _ (fun W hW => (FrAt.keepF HFS.out hW).range) Try.underlying53 rfl size_fr) (by assumption) ?rezl4
    try simp only [Act.put, List.setIfInBounds_toArray, List.set_cons_zero, List.set_cons_succ, List.getElem_toArray, List.getElem_cons_zero, List.getElem_cons_succ]
    refine wpAnyH_ready (rs := [5]) (by kernel_rfl) (by simp) ?_
    refine AllReadyH.cons (o := _) rfl (fun K hK => ?_) AllReadyH.nil
    go_simp
    refine (wlink_any _ p pg cm B s d FB HPB.out HCB.out HFL.out HOS.out.cap.1 HOS.out.cap.2 (HOS.out.keep (Below.refl _ wS).drew).rd HFB.out h48).mono ?_
    rintro e w6 ⟨rfl, hb6⟩
    have hbS6 : Below wS.heap.size wS w6 := (Below.refl _ wS).drew.trans hb6
    clear hb6
    refine hK.out _ _ ?_ (fun hHeld => ?_)
    · exact hbS6
    clear hK K
    try simp only [Act.put, List.setIfInBounds_toArray, List.set_cons_zero, List.set_cons_succ, List.getElem_toArray, List.getElem_cons_zero, List.getElem_cons_succ]
    refine' wpAnyH_take (i := 6) (oi := _) (v := _) rfl (by kernel_rfl) (by kernel_rfl) (by kernel_rfl) (fun _ _ _ h => h) (Or.inl ⟨by rfl, ?hz62⟩) (by assumption) ?rezt62
    case hz62 => (intro w' hSw; (try dsimp only at hSw); go_simp; try with_reducible rfl)
    try simp only [Act.put, List.setIfInBounds_toArray, List.set_cons_zero, List.set_cons_succ, List.getElem_toArray, List.getElem_cons_zero, List.getElem_cons_succ]
    refine wpAnyH_done (by kernel_rfl) ?_ _
    obtain ⟨q, hq⟩ : ∃ q, lnk p pg cm FB = q := ⟨_, rfl⟩
    have HQ := Lib.hid hq
    rw [hq] at HR3 HR ⊢
    clear hq K3S
    have hqq : (q != q) = false := by simp
    have HF6 := Lib.hid (FrAt.keepF HFS.out hbS6)
    have hb06 : Below W0.heap.size W0 w6 := hbS.trans (hbS6.mono hbS.size)
    have HO6 := Lib.hid (HOS.out.keep hbS6)
    clear hbS6
    go_upto_region 6 with fail
    go_step
    refine wp_load_fr rfl _ rfl g5 pg cm B s d rfl HF6.out ?_
    go_wp2_with fail
    refine (wframe_ok _ pg cm B s d HPB2.out HCB2.out HS.out).mono ?_
    rintro e w7 ⟨rfl, hb7⟩
    have hb07 : Below W0.heap.size W0 w7 := hb06.trans (hb7.mono hb06.size)
    have HF7 := Lib.hid (FrAt.keepF HF6.out hb7)
    have HO7 := Lib.hid (HO6.out.keep hb7)
    clear hb7 hb06
    have HD7 := Lib.hid (HD.out.keep hb07)
    have m1 := HD7.out.c1
    have m3 := HD7.out.c3
    have f1 := HD7.out.fr 1
    have f3 := HD7.out.fr 3
    go_wp2_with fail
    refine (wnumber_any _ g A n c a s p k l HD7.out HN.out HNC.out HCM.out (HA.out.keep hb07) HB.out ((a : Int) + 8) 8 ia8).mono ?_
    rintro e w8 ⟨rfl, rfl⟩
    rw [HR3.out]
    go_upto_region 9 with fail
    obtain ⟨w9, hw9⟩ : ∃ W, W = (w7.setCell ⟨g, 1, none⟩ (.int .i64 ((a : Int) + 16 + (s : Int)))).setCell ⟨g, 3, none⟩ (.int .u64 q) := ⟨_, rfl⟩
    have HM79 : Mut w7 g w9 := by rw [hw9]; exact (Mut.set _ _ _ _).trans (Mut.set _ _ _ _)
    have HD9 := Lib.hid (show RdrAt w9 g A n c ((a : Int) + 16 + (s : Int)) s q k by rw [hw9]; exact (HD7.out.set1 _).set3 _)
    have hGe := HG.out
    have hLt := HL.out
    have hgl := HGL.out
    have hg5' := HG5.out
    have HF9 := Lib.hid (HF7.out.mutF HM79 (by omega))
    have HO9 := Lib.hid (HO7.out.mut HM79 (by omega))
    have HT7 := there_keep HT.out hb07 HL.out
    have HT9 := Lib.hid (there_mut HT7 HM79 (Nat.lt_of_lt_of_le HL.out hb07.size) (by omega))
    have HMW := Lib.hid ((Mut.of (hb0.trans (hb07.mono hb0.size)) g).trans HM79)
    rw [← hw9]
    clear hw9 HM79 HT7 hGe hLt hgl hg5' m1 m3 f1 f3
    go_step
    refine wp_load_fr rfl _ rfl g5 pg cm B s d rfl HF9.out ?_
    try simp only [Act.put, List.setIfInBounds_toArray, List.set_cons_zero, List.set_cons_succ, List.getElem_toArray, List.getElem_cons_zero, List.getElem_cons_succ]
    refine wp_store_fr rfl _ _ rfl g0 pg cm B s d rfl rfl HT9.out ?_
    obtain ⟨wE, hwE⟩ : ∃ W, W = w9.setCells g0 0 (frC pg cm B s d) := ⟨_, rfl⟩
    have hGe := HG.out
    have hgl := HGL.out
    have hLt := HL.out
    have HFE := Lib.hid (show FrAt wE g0 pg cm B s d by rw [hwE]; exact FrAt.stored HT9.out _ _ _ _ _)
    have HDE := Lib.hid (show RdrAt wE g A n c ((a : Int) + 16 + (s : Int)) s q k by rw [hwE]; exact HD9.out.mutR ((Mut.refl _ _).setsAt (.inr rfl) _ _) (by omega))
    have HOE := Lib.hid (show OwnB wE w.heap.size B s d FB by rw [hwE]; exact ((HO9.out.mut (gb := g0) ((Mut.refl _ _).setsAt (.inr rfl) _ _) (by omega))).mono hb0.size)
    have HME := Lib.hid (show Mut w g wE by rw [hwE]; exact HMW.out.setsAt (.inl (by omega)) _ _)
    rw [← hwE]
    clear hwE hGe hgl hLt
    go_wp2_with fail
    refine ret_fr rfl rfl HFE.out rfl ?_
    rw [HR.out]
    exact ⟨B, d, rfl, HOE.out, HDE.out, HME.out⟩
end
end Go.Proofs.Ytlehpgokjppccaa
